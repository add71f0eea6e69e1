/- Contracts: GSr. -/
import Derived.Test.YtaiopbdbnellhaaGA
namespace Go.OAI
open Go.Proofs
set_option linter.unusedVariables false
noncomputable section


/-- impl.IsSearchable -/
def EL16 : Nat → Option Callee := addE 49 c49 env0
theorem vL16 : EnvOk Try.prog EL16 := EnvOk.nil.add Try.func49 rfl (by kernel_rfl) k49
def impl_IsSearchableK {R : Type} (fin : Bool → Option R) (x0 : DJob) : Option R :=
  (impl_IsJob x0).bind fun y1 =>
  cond (y1)
  (cond (decide ((x0.1.length : Int) ≤ 12))
    (fin (decide (x0.2.2.2.2.1 ≤ 3)))
    (fin false))
  (fin false)
def impl_IsSearchable (x0 : DJob) : Option (Bool) := impl_IsSearchableK some x0
theorem p16 {R : Type} (fin : Bool → Option R) (x0 : DJob) : Par fin (impl_IsSearchableK some x0) (impl_IsSearchableK fin x0) := by
  unfold impl_IsSearchableK
  repeat' (first | exact .fin | exact .none | refine .cond ?_ ?_ | refine .bind fun _ => ?_ | refine .sum (fun _ => ?_) fun _ => ?_)
def c16 : Callee := mkC [.agg [.ro TJob]] 1 [.one (.ro .bool)] fun x => impl_IsSearchable x
theorem e16 (x : PK.dens [.agg [.ro TJob]]) : evalFn Try.prog EL16 or0 Try.f16 (PK.outs [.agg [.ro TJob]] x) =
    impl_IsSearchableK (fun y => some (tupOf ((PK.outs [.one (.ro .bool)] y).take 1), (PK.outs [.one (.ro .bool)] y).drop 1)) x := by kernel_rfl
theorem k16 : CalleeOk Try.prog 16 c16 := callee_mk Try.func16 (code := codeOf Try.f16) (by kernel_rfl) vL16 mixed (LoOk.nil (by kernel_rfl)) fun x y h => (e16 x).trans (p16 _ x y h)

/-- spec.srGood -/
def EL45 : Nat → Option Callee := addE 80 c80 env0
theorem vL45 : EnvOk Try.prog EL45 := EnvOk.nil.add Try.func80 rfl (by kernel_rfl) k80
def spec_srGoodK {R : Type} (fin : Bool → Option R) (x0 : DJob) : Option R :=
  (spec_plJob x0).bind fun y1 =>
  cond (y1)
  (cond (decide ((x0.1.length : Int) ≤ 12))
    (fin (decide (x0.2.2.2.2.1 ≤ 3)))
    (fin false))
  (fin false)
def spec_srGood (x0 : DJob) : Option (Bool) := spec_srGoodK some x0
theorem p45 {R : Type} (fin : Bool → Option R) (x0 : DJob) : Par fin (spec_srGoodK some x0) (spec_srGoodK fin x0) := by
  unfold spec_srGoodK
  repeat' (first | exact .fin | exact .none | refine .cond ?_ ?_ | refine .bind fun _ => ?_ | refine .sum (fun _ => ?_) fun _ => ?_)
def c45 : Callee := mkC [.agg [.ro TJob]] 1 [.one (.ro .bool)] fun x => spec_srGood x
theorem e45 (x : PK.dens [.agg [.ro TJob]]) : evalFn Try.prog EL45 or0 Try.f45 (PK.outs [.agg [.ro TJob]] x) =
    spec_srGoodK (fun y => some (tupOf ((PK.outs [.one (.ro .bool)] y).take 1), (PK.outs [.one (.ro .bool)] y).drop 1)) x := by kernel_rfl
theorem k45 : CalleeOk Try.prog 45 c45 := callee_mk Try.func45 (code := codeOf Try.f45) (by kernel_rfl) vL45 mixed (LoOk.nil (by kernel_rfl)) fun x y h => (e45 x).trans (p45 _ x y h)
end
end Go.OAI
