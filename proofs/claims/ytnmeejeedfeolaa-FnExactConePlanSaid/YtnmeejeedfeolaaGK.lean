/- Contracts: GK. -/
import Derived.Test.YtnmeejeedfeolaaGA
import Derived.Test.YtnmeejeedfeolaaGF
namespace Go.OAI
open Go.Proofs
set_option linter.unusedVariables false
noncomputable section


/-- impl.isKept -/
def EL102 : Nat → Option Callee := addE 105 c105 (addE 78 c78 (addE 70 c70 env0))
theorem vL102 : EnvOk Try.prog EL102 := ((EnvOk.nil.add Try.func70 rfl (by kernel_rfl) k70).add Try.func78 rfl (by kernel_rfl) k78).add Try.func105 rfl (by kernel_rfl) k105
def impl_isKeptK {R : Type} (fin : Bool → Option R) (x0 : DJob) (x1 : DPlan) : Option R :=
  (impl_IsJob x0).bind fun y1 =>
  cond (y1)
  ((impl_isPlan x0 x1).bind fun y2 =>
    cond (y2)
    ((impl_isFeasible x0 x1).bind fun y3 =>
      fin y3)
    (fin false))
  (fin false)
def impl_isKept (x0 : DJob) (x1 : DPlan) : Option (Bool) := impl_isKeptK some x0 x1
theorem p102 {R : Type} (fin : Bool → Option R) (x0 : DJob) (x1 : DPlan) : Par fin (impl_isKeptK some x0 x1) (impl_isKeptK fin x0 x1) := by
  unfold impl_isKeptK
  repeat' (first | exact .fin | exact .none | refine .cond ?_ ?_ | refine .bind fun _ => ?_ | refine .sum (fun _ => ?_) fun _ => ?_)
def c102 : Callee := mkC [.agg [.ro TJob], .agg [.ro TPlan]] 1 [.one (.ro .bool)] fun x => impl_isKept x.1 x.2
theorem e102 (x : PK.dens [.agg [.ro TJob], .agg [.ro TPlan]]) : evalFn Try.prog EL102 or0 Try.f102 (PK.outs [.agg [.ro TJob], .agg [.ro TPlan]] x) =
    impl_isKeptK (fun y => some (tupOf ((PK.outs [.one (.ro .bool)] y).take 1), (PK.outs [.one (.ro .bool)] y).drop 1)) x.1 x.2 := by kernel_rfl
theorem k102 : CalleeOk Try.prog 102 c102 := callee_mk Try.func102 (code := codeOf Try.f102) (by kernel_rfl) vL102 mixed (LoOk.nil (by kernel_rfl)) fun x y h => (e102 x).trans (p102 _ x.1 x.2 y h)

/-- spec.wiGood -/
def EL100 : Nat → Option Callee := addE 101 c101 (addE 74 c74 env0)
theorem vL100 : EnvOk Try.prog EL100 := (EnvOk.nil.add Try.func74 rfl (by kernel_rfl) k74).add Try.func101 rfl (by kernel_rfl) k101
def spec_wiGoodK {R : Type} (fin : Bool → Option R) (x0 : DJob) (x1 : DPlan) : Option R :=
  (spec_plBoth x0 x1).bind fun y1 =>
  cond (y1)
  ((spec_plFeasible x0 x1).bind fun y2 =>
    fin y2)
  (fin false)
def spec_wiGood (x0 : DJob) (x1 : DPlan) : Option (Bool) := spec_wiGoodK some x0 x1
theorem p100 {R : Type} (fin : Bool → Option R) (x0 : DJob) (x1 : DPlan) : Par fin (spec_wiGoodK some x0 x1) (spec_wiGoodK fin x0 x1) := by
  unfold spec_wiGoodK
  repeat' (first | exact .fin | exact .none | refine .cond ?_ ?_ | refine .bind fun _ => ?_ | refine .sum (fun _ => ?_) fun _ => ?_)
def c100 : Callee := mkC [.agg [.ro TJob], .agg [.ro TPlan]] 1 [.one (.ro .bool)] fun x => spec_wiGood x.1 x.2
theorem e100 (x : PK.dens [.agg [.ro TJob], .agg [.ro TPlan]]) : evalFn Try.prog EL100 or0 Try.f100 (PK.outs [.agg [.ro TJob], .agg [.ro TPlan]] x) =
    spec_wiGoodK (fun y => some (tupOf ((PK.outs [.one (.ro .bool)] y).take 1), (PK.outs [.one (.ro .bool)] y).drop 1)) x.1 x.2 := by kernel_rfl
theorem k100 : CalleeOk Try.prog 100 c100 := callee_mk Try.func100 (code := codeOf Try.f100) (by kernel_rfl) vL100 mixed (LoOk.nil (by kernel_rfl)) fun x y h => (e100 x).trans (p100 _ x.1 x.2 y h)
end
end Go.OAI
