/- Fractions in lowest terms: both sides say the same. -/
import Derived.Test.YtnmeejeedfeolaaP0
import Derived.Test.YtnmeejeedfeolaaGFr
namespace Go.OAI
set_option linter.unusedVariables false
noncomputable section

theorem lowest_gcd : ∀ (n m : Nat), impl_lowest_l0 (m : Int) (n : Int) = some ((Nat.gcd m n : Nat) : Int) := by
  intro n
  induction n using Nat.strongRecOn with
  | _ n ih =>
    intro m
    rw [impl_lowest_l0_eq]; unfold impl_lowest_l0K
    by_cases h : n = 0
    · subst h; simp
    · have h1 : ((n : Int) != 0) = true := by simp [h]
      have h2 : ¬ ((n : Int) = 0) := by omega
      simp only [h1, h2, decide_false, cond_true, cond_false]
      rw [← Int.ofNat_tmod, ih (m % n) (Nat.mod_lt _ (by omega)), Nat.gcd_comm n (m % n), ← Nat.gcd_rec n m, Nat.gcd_comm]
theorem moPart_gcd : ∀ (n m : Nat), spec_moPart_l0 (m : Int) (n : Int) = some ((Nat.gcd m n : Nat) : Int) := by
  intro n
  induction n using Nat.strongRecOn with
  | _ n ih =>
    intro m
    rw [spec_moPart_l0_eq]; unfold spec_moPart_l0K
    by_cases h : n = 0
    · subst h; simp
    · have h1 : (n : Int) > 0 := by omega
      have h2 : ¬ ((n : Int) = 0) := by omega
      simp only [h1, h2, decide_true, decide_false, cond_true, cond_false]
      rw [← Int.ofNat_tmod, ih (m % n) (Nat.mod_lt _ (by omega)), Nat.gcd_comm n (m % n), ← Nat.gcd_rec n m, Nat.gcd_comm]
theorem lowest_moPart (a b : Int) (ha : 0 ≤ a) (ha' : a ≤ 9223372036854775807) (hb : 0 < b) : ∃ v, impl_lowest a b = some v ∧ spec_moPart a b = some v := by
  obtain ⟨m, rfl⟩ := Int.eq_ofNat_of_zero_le ha
  obtain ⟨n, rfl⟩ := Int.eq_ofNat_of_zero_le (Int.le_of_lt hb)
  have hg : Nat.gcd m n ≠ 0 := fun e => by
    have := (Nat.gcd_eq_zero_iff.1 e).2
    omega
  have h2 : ¬ (((Nat.gcd m n : Nat) : Int) = 0) := by omega
  have habs : impl_abs (m : Int) = some (m : Int) := by
    unfold impl_abs impl_absK
    rw [wr (by omega) (by omega)]
    have : ¬ (0 - (m : Int) > (m : Int)) := by omega
    rw [if_neg this]
  unfold impl_lowest impl_lowestK spec_moPart spec_moPartK
  rw [habs]
  simp only [Option.bind_some, lowest_gcd, moPart_gcd, h2, decide_false, cond_false]
  exact ⟨_, rfl, rfl⟩
end
end Go.OAI
