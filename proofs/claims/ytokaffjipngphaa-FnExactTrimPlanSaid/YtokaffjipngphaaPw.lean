/- Worths. -/
import Derived.Test.YtokaffjipngphaaPv
import Derived.Test.YtokaffjipngphaaGW
namespace Go.OAI
set_option linter.unusedVariables false
noncomputable section

theorem getD_nat {α : Type} {l : List α} {i : Nat} {d : α} (h : i < l.length) : l.getD (0 + ((i : Nat) : Int).toNat) d = l[i] := by simp [h]
theorem pow_pos' : ∀ n : Nat, (1 : Int) ≤ 20 ^ n
  | 0 => by simp
  | n + 1 => by have := pow_pos' n; rw [Int.pow_succ]; omega

/-! ### Powers and factors -/
theorem impl_power_l0_ok (b : Int) (h0 : 0 ≤ b) (h20 : b ≤ 20) : ∀ (n : Nat) (a : Int), 0 ≤ a → a * 20 ^ n ≤ 64000000 → n ≤ 6 → impl_power_l0 b (n : Int) a = some (a * b ^ n) := by
  intro n
  induction n with
  | zero =>
    intro a h1 h2 h3
    rw [impl_power_l0_eq]; unfold impl_power_l0K
    simp
  | succ n ih =>
    intro a h1 h2 h3
    have h4 : a * 20 ^ (n + 1) = a * 20 * 20 ^ n := by rw [Int.pow_succ, Int.mul_comm (20 ^ n) 20, Int.mul_assoc]
    have h5 : a * b ≤ a * 20 := Int.mul_le_mul_of_nonneg_left h20 h1
    have h6 : 0 ≤ a * b := Int.mul_nonneg h1 h0
    have hp : (1 : Int) ≤ 20 ^ n := pow_pos' n
    have h7 : a * b * 20 ^ n ≤ a * 20 * 20 ^ n := Int.mul_le_mul_of_nonneg_right h5 (by omega)
    have h8 : a * b * 1 ≤ a * b * 20 ^ n := Int.mul_le_mul_of_nonneg_left hp h6
    rw [impl_power_l0_eq]; unfold impl_power_l0K
    have e1 : ((n + 1 : Nat) : Int) > 0 := by omega
    have e2 : IntKind.i64.wrap (((n + 1 : Nat) : Int) - 1) = (n : Int) := by rw [wr (by omega) (by omega)]; omega
    rw [e2, wr (by omega) (by omega)]
    simp only [e1, decide_true, cond_true]
    rw [ih (a * b) h6 (by omega) (by omega), Int.pow_succ, Int.mul_comm (b ^ n) b, Int.mul_assoc]
theorem impl_power_ok (b : Int) (h0 : 0 ≤ b) (h20 : b ≤ 20) (n : Nat) (hn : n ≤ 6) : impl_power b (n : Int) = some (b ^ n) := by
  have hp : (20 : Int) ^ n ≤ 64000000 := by
    rcases (by omega : n = 0 ∨ n = 1 ∨ n = 2 ∨ n = 3 ∨ n = 4 ∨ n = 5 ∨ n = 6) with e | e | e | e | e | e | e <;> subst e <;> decide
  unfold impl_power impl_powerK
  rw [impl_power_l0_ok b h0 h20 n 1 (by omega) (by omega) hn]; simp
theorem spec_srPower_l0_ok (b : Int) (h0 : 0 ≤ b) (h20 : b ≤ 20) : ∀ (n : Nat) (a : Int), 0 ≤ a → a * 20 ^ n ≤ 64000000 → n ≤ 6 → spec_srPower_l0 b (n : Int) a = some (a * b ^ n) := by
  intro n
  induction n with
  | zero =>
    intro a h1 h2 h3
    rw [spec_srPower_l0_eq]; unfold spec_srPower_l0K
    simp
  | succ n ih =>
    intro a h1 h2 h3
    have h4 : a * 20 ^ (n + 1) = a * 20 * 20 ^ n := by rw [Int.pow_succ, Int.mul_comm (20 ^ n) 20, Int.mul_assoc]
    have h5 : a * b ≤ a * 20 := Int.mul_le_mul_of_nonneg_left h20 h1
    have h6 : 0 ≤ a * b := Int.mul_nonneg h1 h0
    have hp : (1 : Int) ≤ 20 ^ n := pow_pos' n
    have h7 : a * b * 20 ^ n ≤ a * 20 * 20 ^ n := Int.mul_le_mul_of_nonneg_right h5 (by omega)
    have h8 : a * b * 1 ≤ a * b * 20 ^ n := Int.mul_le_mul_of_nonneg_left hp h6
    rw [spec_srPower_l0_eq]; unfold spec_srPower_l0K
    have e1 : ((n + 1 : Nat) : Int) > 0 := by omega
    have e2 : IntKind.i64.wrap (((n + 1 : Nat) : Int) - 1) = (n : Int) := by rw [wr (by omega) (by omega)]; omega
    rw [e2, wr (by omega) (by omega)]
    simp only [e1, decide_true, cond_true]
    rw [ih (a * b) h6 (by omega) (by omega), Int.pow_succ, Int.mul_comm (b ^ n) b, Int.mul_assoc]
theorem spec_srPower_ok (b : Int) (h0 : 0 ≤ b) (h20 : b ≤ 20) (n : Nat) (hn : n ≤ 6) : spec_srPower b (n : Int) = some (b ^ n) := by
  have hp : (20 : Int) ^ n ≤ 64000000 := by
    rcases (by omega : n = 0 ∨ n = 1 ∨ n = 2 ∨ n = 3 ∨ n = 4 ∨ n = 5 ∨ n = 6) with e | e | e | e | e | e | e <;> subst e <;> decide
  unfold spec_srPower spec_srPowerK
  rw [spec_srPower_l0_ok b h0 h20 n 1 (by omega) (by omega) hn]; simp

def fac (j : DJob) (t : Int) : Int := if t < 0 then 0 else j.2.2.2.2.2.1 ^ t.toNat * j.2.2.2.2.2.2.1 ^ (j.2.2.2.2.1 - 1 - t).toNat
theorem pow_le20 {b : Int} (h0 : 0 ≤ b) (h20 : b ≤ 20) : ∀ n : Nat, 0 ≤ b ^ n ∧ b ^ n ≤ 20 ^ n
  | 0 => by simp
  | n + 1 => by
    obtain ⟨h1, h2⟩ := pow_le20 h0 h20 n
    rw [Int.pow_succ, Int.pow_succ]
    exact ⟨Int.mul_nonneg h1 h0, Int.le_trans (Int.mul_le_mul_of_nonneg_left h20 h1) (Int.mul_le_mul_of_nonneg_right h2 (by omega))⟩
theorem pow20 {n : Nat} (h : n ≤ 5) : (20 : Int) ^ n ≤ 3200000 := by
  rcases (by omega : n = 0 ∨ n = 1 ∨ n = 2 ∨ n = 3 ∨ n = 4 ∨ n = 5) with e | e | e | e | e | e <;> subst e <;> decide
theorem fac_bound {j : DJob} (J : JobOk j) {t : Int} (h : t < j.2.2.2.2.1) : 0 ≤ fac j t ∧ fac j t ≤ 3200000 := by
  have h1 := J.num
  have h2 := J.den
  have h3 := J.per
  unfold fac
  split
  · omega
  · rename_i h0
    obtain ⟨a1, a2⟩ := pow_le20 (b := j.2.2.2.2.2.1) (by omega) (by omega) t.toNat
    obtain ⟨b1, b2⟩ := pow_le20 (b := j.2.2.2.2.2.2.1) (by omega) (by omega) (j.2.2.2.2.1 - 1 - t).toNat
    refine ⟨Int.mul_nonneg a1 b1, Int.le_trans (Int.mul_le_mul_of_nonneg_right a2 b1) (Int.le_trans (Int.mul_le_mul_of_nonneg_left b2 (Int.le_trans a1 a2)) ?_)⟩
    rw [← Int.pow_add]
    exact pow20 (by omega)
theorem mul_bound {v f : Int} (hv : -1000000 ≤ v ∧ v ≤ 1000000) (hf : 0 ≤ f ∧ f ≤ 3200000) : -3200000000000 ≤ v * f ∧ v * f ≤ 3200000000000 := by
  have h1 : v * f ≤ 1000000 * f := Int.mul_le_mul_of_nonneg_right hv.2 hf.1
  have h2 : -1000000 * f ≤ v * f := Int.mul_le_mul_of_nonneg_right hv.1 hf.1
  omega
theorem srFactor_ok (j : DJob) (J : JobOk j) (t : Int) (h0 : 0 ≤ t) (h : t < j.2.2.2.2.1) : spec_srFactor j t = some (fac j t) := by
  have h1 := J.num
  have h2 := J.den
  have h3 := J.per
  have hb := fac_bound J h
  unfold spec_srFactor spec_srFactorK
  rw [wr (n := j.2.2.2.2.1 - 1) (by omega) (by omega), wr (n := j.2.2.2.2.1 - 1 - t) (by omega) (by omega)]
  have e1 : t = ((t.toNat : Nat) : Int) := by omega
  have e2 : j.2.2.2.2.1 - 1 - t = (((j.2.2.2.2.1 - 1 - t).toNat : Nat) : Int) := by omega
  have p1 : spec_srPower j.2.2.2.2.2.1 t = some (j.2.2.2.2.2.1 ^ t.toNat) := by
    have := spec_srPower_ok j.2.2.2.2.2.1 (by omega) (by omega) t.toNat (by omega)
    rwa [← e1] at this
  have p2 : spec_srPower j.2.2.2.2.2.2.1 (j.2.2.2.2.1 - 1 - t) = some (j.2.2.2.2.2.2.1 ^ (j.2.2.2.2.1 - 1 - t).toNat) := by
    have := spec_srPower_ok j.2.2.2.2.2.2.1 (by omega) (by omega) (j.2.2.2.2.1 - 1 - t).toNat (by omega)
    rwa [← e2] at this
  rw [p1, p2]
  have hn : ¬ t < 0 := by omega
  simp only [fac, hn, if_false] at hb ⊢
  simp only [Option.bind_some]
  rw [wr (by omega) (by omega)]
theorem scaledFactor_ok (j : DJob) (J : JobOk j) (t : Int) (h : t < j.2.2.2.2.1) : impl_scaledFactor j t = some (fac j t) := by
  have h1 := J.num
  have h2 := J.den
  have h3 := J.per
  have hb := fac_bound J h
  unfold impl_scaledFactor impl_scaledFactorK
  by_cases h0 : t < 0
  · simp [h0, fac]
  · have e1 : t = ((t.toNat : Nat) : Int) := by omega
    have e2 : j.2.2.2.2.1 - 1 - t = (((j.2.2.2.2.1 - 1 - t).toNat : Nat) : Int) := by omega
    have p1 : impl_power j.2.2.2.2.2.1 t = some (j.2.2.2.2.2.1 ^ t.toNat) := by
      have := impl_power_ok j.2.2.2.2.2.1 (by omega) (by omega) t.toNat (by omega)
      rwa [← e1] at this
    by_cases hm : -9223372036854775808 ≤ j.2.2.2.2.1 - 1 - t
    · rw [wr (n := j.2.2.2.2.1 - 1) (by omega) (by omega), wr (n := j.2.2.2.2.1 - 1 - t) hm (by omega)]
      have p2 : impl_power j.2.2.2.2.2.2.1 (j.2.2.2.2.1 - 1 - t) = some (j.2.2.2.2.2.2.1 ^ (j.2.2.2.2.1 - 1 - t).toNat) := by
        have := impl_power_ok j.2.2.2.2.2.2.1 (by omega) (by omega) (j.2.2.2.2.1 - 1 - t).toNat (by omega)
        rwa [← e2] at this
      rw [p1, p2]
      simp only [fac, h0, if_false] at hb ⊢
      simp only [decide_false, cond_false, Option.bind_some]
      rw [wr (by omega) (by omega)]
    · omega

/-! ### Worths by periods -/
def pwF (j : DJob) : List (Int × Int) → List Int → List Int
  | [], L => L
  | (t, v) :: r, L => pwF j r (if 0 ≤ t then L.set t.toNat (L.getD t.toNat 0 + v * fac j t) else L)
def pws (j : DJob) (p : DPlan) : List Int := pwF j (p.2.1.zip j.2.2.1) (List.replicate j.2.2.2.2.1.toNat 0)
theorem scaledFactor_ok' (j : DJob) (J : JobOk j) (t : Int) (h0 : 0 ≤ t) (h : t < j.2.2.2.2.1) : impl_scaledFactor j t = some (fac j t) := scaledFactor_ok j J t h
theorem impl_periodWorths_loop (j : DJob) (p : DPlan) (J : JobOk j) (Q : PlanOk j p) : ∀ i, i ≤ p.2.1.length → ∀ L : List Int, L.length = j.2.2.2.2.1.toNat → (∀ k (h : k < L.length), -(3200000000000 * (i : Int)) ≤ L[k] ∧ L[k] ≤ 3200000000000 * (i : Int)) →
    impl_periodWorths_l0 p.2.1 (p.2.1.length : Int) j.1 j.2.1 j.2.2.1 j.2.2.2.1.1 j.2.2.2.1.2.1 j.2.2.2.2.1 j.2.2.2.2.2.1 j.2.2.2.2.2.2.1 i L = some (pwF j ((p.2.1.zip j.2.2.1).drop i) L) := by
  have hn := J.n2
  have hlen := Q.len
  have hlv := J.lv
  have hper := J.per
  refine down (fun L h1 h2 => ?_) fun i hi ih L h1 h2 => ?_
  · rw [impl_periodWorths_l0_eq]; unfold impl_periodWorths_l0K
    rw [lt_out (Nat.le_refl _)]
    rw [List.drop_eq_nil_of_le (by simp; omega)]; rfl
  · have hiv : i < j.2.2.1.length := by omega
    have hw := Q.w _ (List.getElem_mem hi)
    have hv := J.v _ (List.getElem_mem hiv)
    have hz : (p.2.1.zip j.2.2.1).drop i = (p.2.1[i], j.2.2.1[i]) :: (p.2.1.zip j.2.2.1).drop (i + 1) := by
      rw [drop_cons (by simp; omega)]; simp
    rw [impl_periodWorths_l0_eq]; unfold impl_periodWorths_l0K
    rw [loop_step hi, wr_succ hi (by omega), hz]
    simp only [pwF, dec_ge]
    by_cases h0 : 0 ≤ p.2.1[i]
    · have hk : p.2.1[i].toNat < L.length := by omega
      have hf := fac_bound J (t := p.2.1[i]) (by omega)
      have hmul := mul_bound hv hf
      have hL := h2 _ hk
      have eL : L.getD (0 + p.2.1[i].toNat) 0 = L[p.2.1[i].toNat] := by simp [hk]
      have eL' : L.getD p.2.1[i].toNat 0 = L[p.2.1[i].toNat] := by simp [hk]
      rw [ck_int h0 (by omega), lat_nat hiv]
      simp only [h0, decide_true, cond_true, Option.bind_some, if_true]
      have ej : ((j.1, (j.2.1, (j.2.2.1, ((j.2.2.2.1.1, (j.2.2.2.1.2.1, ())), (j.2.2.2.2.1, (j.2.2.2.2.2.1, (j.2.2.2.2.2.2.1, ()))))))) : DJob) = j := rfl
      rw [ej, scaledFactor_ok' j J _ (by omega) (by omega), eL, eL']
      simp only [Option.bind_some]
      have hm : i < 120 := by omega
      rw [wr (n := j.2.2.1[i] * fac j p.2.1[i]) (by omega) (by omega), wr (by omega) (by omega)]
      have hlt : p.2.1[i] < (L.length : Int) := by omega
      simp only [hlt, decide_true, Bool.and_self, cond_true, Nat.zero_add]
      refine ih _ (by simpa using h1) fun k hk' => ?_
      have hk2 : k < L.length := by simpa using hk'
      have hLk := h2 k hk2
      by_cases e : k = p.2.1[i].toNat
      · subst e
        simp only [List.getElem_set_self]
        omega
      · rw [List.getElem_set_ne (Ne.symm e)]
        omega
    · simp only [h0, decide_false, cond_false, if_false]
      exact ih L h1 fun k hk => by have := h2 k hk; omega
theorem impl_periodWorths_ok (j : DJob) (p : DPlan) (J : JobOk j) (Q : PlanOk j p) : impl_periodWorths j p = some (pws j p) := by
  have hper := J.per
  unfold impl_periodWorths impl_periodWorthsK
  have c : j.2.2.2.2.1 ≤ 1099511627776 := by omega
  have c0 : (0 : Int) ≤ j.2.2.2.2.1 := by omega
  simp only [c0, c, Int.le_refl, decide_true, Bool.and_self, cond_true, Option.bind_some]
  have := impl_periodWorths_loop j p J Q 0 (Nat.zero_le _) (List.replicate j.2.2.2.2.1.toNat 0) (by simp) (fun k hk => by simp)
  have e : impl_periodWorths_l0 p.2.1 (p.2.1.length : Int) j.1 j.2.1 j.2.2.1 j.2.2.2.1.1 j.2.2.2.1.2.1 j.2.2.2.2.1 j.2.2.2.2.2.1 j.2.2.2.2.2.2.1 0 (List.replicate j.2.2.2.2.1.toNat 0) = some (pws j p) := this
  rw [e]; rfl
theorem pwF_len (j : DJob) : ∀ (r : List (Int × Int)) (L : List Int), (pwF j r L).length = L.length
  | [], L => rfl
  | (t, v) :: r, L => by
    unfold pwF
    rw [pwF_len j r]
    split <;> simp
theorem pws_len (j : DJob) (p : DPlan) : (pws j p).length = j.2.2.2.2.1.toNat := by
  unfold pws; rw [pwF_len]; simp
end
end Go.OAI
