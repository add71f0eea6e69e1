/- Kept plans; the empty plan. -/
import Derived.Test.YtokaffjipngphaaPfe
import Derived.Test.YtokaffjipngphaaGTrimPlan
namespace Go.OAI
set_option linter.unusedVariables false
noncomputable section

def keptB (j : DJob) (p : DPlan) : Bool := jobB j && (planB j p && feasB j p.2.1)
theorem isKept_ok (j : DJob) (p : DPlan) (s : JobSm j) (hl : p.2.1.length ≤ 1048576) : impl_isKept j p = some (keptB j p) := by
  unfold impl_isKept impl_isKeptK keptB
  rw [IsJob_ok j s, isPlan_ok j p hl]
  cases hj : jobB j with
  | false => rfl
  | true =>
    cases hp : planB j p with
    | false => rfl
    | true =>
      rw [isFeasible_ok j p s (jobB_spec hj) (planB_spec hp)]
      simp
theorem wiGood_ok (j : DJob) (p : DPlan) (s : JobSm j) (hl : p.2.1.length ≤ 1048576) : spec_wiGood j p = some (keptB j p) := by
  unfold spec_wiGood spec_wiGoodK keptB
  rw [plBoth_ok j p s hl]
  cases hj : jobB j with
  | false => rfl
  | true =>
    cases hp : planB j p with
    | false => rfl
    | true =>
      rw [plFeasible_ok j p s (jobB_spec hj) (planB_spec hp)]
      simp
theorem keptB_spec {j : DJob} {p : DPlan} (h : keptB j p = true) : JobOk j ∧ PlanOk j p ∧ feasB j p.2.1 = true := by
  simp only [keptB, Bool.and_eq_true] at h
  exact ⟨jobB_spec h.1, planB_spec h.2.1, h.2.2⟩
theorem empty_loop {f : Int → List Int → Option (List Int)} (n : Nat) (hn : n ≤ 1048576) (hend : f (n : Int) (List.replicate n (-1)) = some (List.replicate n (-1)))
    (hstep : ∀ (i : Nat) (r : List Int), i < n → r.length = n → f (i : Int) r = f ((i + 1 : Nat) : Int) (r.set i (-1))) : f 0 (List.replicate n 0) = some (List.replicate n (-1)) := by
  refine fill_loop (l := List.replicate n (-1)) (by simp; omega) (by simpa using hend) (fun i r hi hr => ?_) _ (by simp)
  have hi : i < n := by simpa using hi
  have hr : r.length = n := by simpa using hr
  rw [hstep i r hi hr]; simp
theorem wiEmpty_ok (j : DJob) (J : JobOk j) : spec_wiEmpty j = some (j.2.2.2.2.1, List.replicate j.1.length (-1)) := by
  have hn := J.n2
  have hl : (((List.replicate j.1.length 0 : List Int).length : Nat) : Int) = (j.1.length : Int) := by simp
  unfold spec_wiEmpty spec_wiEmptyK
  rw [cap_ok (by omega)]
  simp only [Option.bind_some, Int.toNat_natCast, hl]
  have := empty_loop (f := fun i r => spec_wiEmpty_l0 (j.1.length : Int) i r) j.1.length (by omega) (by
    show spec_wiEmpty_l0 _ _ _ = _
    rw [spec_wiEmpty_l0_eq]; unfold spec_wiEmpty_l0K
    rw [lt_out (Nat.le_refl _)]) fun i r hi hr => by
    show spec_wiEmpty_l0 _ _ _ = spec_wiEmpty_l0 _ _ _
    rw [spec_wiEmpty_l0_eq]; unfold spec_wiEmpty_l0K
    rw [lt_in hi, ck_in (by omega), wr_succ hi (by omega)]
    simp
  have this : spec_wiEmpty_l0 (j.1.length : Int) 0 (List.replicate j.1.length 0) = _ := this
  simp only [this, Option.bind_some]
end
end Go.OAI
