/- Multipliers. -/
import Derived.Test.YtokaffjipngphaaPv
import Derived.Test.YtokaffjipngphaaGM
namespace Go.OAI
set_option linter.unusedVariables false
noncomputable section

/-! ### Multipliers -/
def mulB (j : DJob) (l : List Int) : Bool := decide ((l.length : Int) = j.2.2.2.2.1) && inB 0 1000000000 l
theorem areMultipliers_ok (j : DJob) (l : List Int) (hl : l.length ≤ 1099511627776) : impl_areMultipliers j l = some (mulB j l) := by
  have h1 : impl_areMultipliers_l0 l (l.length : Int) 0 = some (if inB 0 1000000000 l then .inr () else .inl false) := by
    refine allL_loop (f := fun i => impl_areMultipliers_l0 l (l.length : Int) i) ?_ fun i hi' => ?_
    · show impl_areMultipliers_l0 _ _ _ = _
      rw [impl_areMultipliers_l0_eq]; unfold impl_areMultipliers_l0K
      rw [lt_out (Nat.le_refl _)]
    · show impl_areMultipliers_l0 _ _ _ = _
      rw [impl_areMultipliers_l0_eq]; unfold impl_areMultipliers_l0K
      rw [loop_step hi', wr_succ hi' (by omega)]
      simp only [dec_lt, dec_gt]
      by_cases h1 : 0 ≤ l[i] <;> by_cases h2 : l[i] ≤ 1000000000 <;> simp [h1, h2]
  unfold impl_areMultipliers impl_areMultipliersK mulB
  rw [h1]
  simp only [bne_dec]
  by_cases c1 : (l.length : Int) = j.2.2.2.2.1 <;> cases inB 0 1000000000 l <;> simp [c1, sumO]
theorem reGood_ok (j : DJob) (s : JobSm j) (l : List Int) (hl : l.length ≤ 1099511627776) : spec_reGood j l = some (jobB j && mulB j l) := by
  unfold spec_reGood spec_reGoodK mulB
  rw [plJob_ok j s, l1All_ok _ _ _ (by omega)]
  simp only [beq_dec]
  cases jobB j <;> by_cases c1 : (l.length : Int) = j.2.2.2.2.1 <;> simp [c1]
structure MulOk (j : DJob) (l : List Int) : Prop where
  len : (l.length : Int) = j.2.2.2.2.1
  x : ∀ x ∈ l, 0 ≤ x ∧ x ≤ 1000000000
theorem mulB_spec {j : DJob} {l : List Int} (h : mulB j l = true) : MulOk j l := by
  simp only [mulB, Bool.and_eq_true, decide_eq_true_eq] at h
  exact ⟨h.1, inB_spec h.2⟩
end
end Go.OAI
