/- Empty plans. -/
import Derived.Test.YtaiopbdbnellhaaPw
import Derived.Test.YtaiopbdbnellhaaGGr
namespace Go.OAI
set_option linter.unusedVariables false
noncomputable section

theorem emptyL {f : Int → List Int → Option (List Int)} (n : Nat) (hn : n ≤ 1048576) (hend : f (n : Int) (List.replicate n (-1)) = some (List.replicate n (-1)))
    (hstep : ∀ (i : Nat) (r : List Int), i < n → r.length = n → f (i : Int) r = f ((i + 1 : Nat) : Int) (r.set i (-1))) : f 0 (List.replicate n 0) = some (List.replicate n (-1)) := by
  refine fill_loop (l := List.replicate n (-1)) (by simp; omega) (by simpa using hend) (fun i r hi hr => ?_) _ (by simp)
  have hi : i < n := by simpa using hi
  have hr : r.length = n := by simpa using hr
  rw [hstep i r hi hr]; simp
theorem implEmpty_ok (j : DJob) (J : JobOk j) : impl_emptyPlan j = some (j.2.2.2.2.1, List.replicate j.1.length (-1)) := by
  have hn := J.n2
  have hl : (((List.replicate j.1.length 0 : List Int).length : Nat) : Int) = (j.1.length : Int) := by simp
  unfold impl_emptyPlan impl_emptyPlanK
  rw [cap_ok (by omega)]
  simp only [Option.bind_some, Int.toNat_natCast, hl]
  have := emptyL (f := fun i r => impl_emptyPlan_l0 (j.1.length : Int) i r) j.1.length (by omega) (by
    show impl_emptyPlan_l0 _ _ _ = _
    rw [impl_emptyPlan_l0_eq]; unfold impl_emptyPlan_l0K
    rw [lt_out (Nat.le_refl _)]) fun i r hi hr => by
    show impl_emptyPlan_l0 _ _ _ = impl_emptyPlan_l0 _ _ _
    rw [impl_emptyPlan_l0_eq]; unfold impl_emptyPlan_l0K
    rw [lt_in hi, ck_in (by omega), wr_succ hi (by omega)]
    simp
  have this : impl_emptyPlan_l0 (j.1.length : Int) 0 (List.replicate j.1.length 0) = _ := this
  simp only [this, Option.bind_some]
theorem emptyPlanOk (j : DJob) (J : JobOk j) : PlanOk j (j.2.2.2.2.1, List.replicate j.1.length (-1), ()) :=
  ⟨rfl, by simp, fun x hx => by have := List.eq_of_mem_replicate hx; have := J.per; omega⟩
end
end Go.OAI
