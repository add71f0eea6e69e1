/- Contracts: GNodesOf. -/
import Derived.Test.YtaiopbdbnellhaaGA
import Derived.Test.YtaiopbdbnellhaaGSr
import Derived.Test.YtaiopbdbnellhaaGRootBound
import Derived.Test.YtaiopbdbnellhaaGSearchPlan
import Derived.Test.YtaiopbdbnellhaaGBestPlan
namespace Go.OAI
open Go.Proofs
set_option linter.unusedVariables false
noncomputable section


/-- spec.NodesOf -/
def EL29 : Nat → Option Callee := addE 67 c67 env0
theorem vL29 : EnvOk Try.prog EL29 := EnvOk.nil.add Try.func67 rfl (by kernel_rfl) k67
def spec_NodesOfK {R : Type} (fin : Int × Bool → Option R) (x0 : DJob) : Option R :=
  (spec_srBest x0).bind fun y1 =>
  sumO y1 (fun y2 =>
  fin (0, false))
  (fun y3 =>
  cond (!y3.2)
    (fin (0, false))
    (fin (y3.1.2.2.2.2.2.2.2.2.2.2.2.2, true)))
def spec_NodesOf (x0 : DJob) : Option (Int × Bool) := spec_NodesOfK some x0
theorem p29 {R : Type} (fin : Int × Bool → Option R) (x0 : DJob) : Par fin (spec_NodesOfK some x0) (spec_NodesOfK fin x0) := by
  unfold spec_NodesOfK
  repeat' (first | exact .fin | exact .none | refine .cond ?_ ?_ | refine .bind fun _ => ?_ | refine .sum (fun _ => ?_) fun _ => ?_)
def c29 : Callee := mkC [.agg [.ro TJob]] 2 [.one (.ro (.int .i64)), .one (.ro .bool)] fun x => spec_NodesOf x
theorem e29 (x : PK.dens [.agg [.ro TJob]]) : evalFn Try.prog EL29 or0 Try.f29 (PK.outs [.agg [.ro TJob]] x) =
    spec_NodesOfK (fun y => some (tupOf ((PK.outs [.one (.ro (.int .i64)), .one (.ro .bool)] y).take 2), (PK.outs [.one (.ro (.int .i64)), .one (.ro .bool)] y).drop 2)) x := by kernel_rfl
theorem k29 : CalleeOk Try.prog 29 c29 := callee_mk Try.func29 (code := codeOf Try.f29) (by kernel_rfl) vL29 mixed (LoOk.nil (by kernel_rfl)) fun x y h => (e29 x).trans (p29 _ x y h)

/-- impl.NodesOf -/
def EL30 : Nat → Option Callee := addE 68 c68 (addE 54 c54 (addE 16 c16 env0))
theorem vL30 : EnvOk Try.prog EL30 := ((EnvOk.nil.add Try.func16 rfl (by kernel_rfl) k16).add Try.func54 rfl (by kernel_rfl) k54).add Try.func68 rfl (by kernel_rfl) k68
def impl_NodesOfK {R : Type} (fin : Int × Bool → Option R) (x0 : DJob) : Option R :=
  (impl_IsSearchable x0).bind fun y1 =>
  cond (!y1)
  (fin (0, false))
  ((impl_newSearch x0 20000).bind fun y2 =>
    (impl_planSearch_visit y2 0 0).bind fun y3 =>
    cond (y3.2.2.2.2.2.2.2.2.2.2.2.2.2.2.2.2.2.2)
    (fin (0, false))
    (fin (y3.2.2.2.2.2.2.2.2.2.2.2.2.2.2.2.2.1, true)))
def impl_NodesOf (x0 : DJob) : Option (Int × Bool) := impl_NodesOfK some x0
theorem p30 {R : Type} (fin : Int × Bool → Option R) (x0 : DJob) : Par fin (impl_NodesOfK some x0) (impl_NodesOfK fin x0) := by
  unfold impl_NodesOfK
  repeat' (first | exact .fin | exact .none | refine .cond ?_ ?_ | refine .bind fun _ => ?_ | refine .sum (fun _ => ?_) fun _ => ?_)
def c30 : Callee := mkC [.agg [.ro TJob]] 2 [.one (.ro (.int .i64)), .one (.ro .bool)] fun x => impl_NodesOf x
theorem e30 (x : PK.dens [.agg [.ro TJob]]) : evalFn Try.prog EL30 or0 Try.f30 (PK.outs [.agg [.ro TJob]] x) =
    impl_NodesOfK (fun y => some (tupOf ((PK.outs [.one (.ro (.int .i64)), .one (.ro .bool)] y).take 2), (PK.outs [.one (.ro (.int .i64)), .one (.ro .bool)] y).drop 2)) x := by kernel_rfl
theorem k30 : CalleeOk Try.prog 30 c30 := callee_mk Try.func30 (code := codeOf Try.f30) (by kernel_rfl) vL30 mixed (LoOk.nil (by kernel_rfl)) fun x y h => (e30 x).trans (p30 _ x y h)

/-- laws.FnExactNodesOf -/
def EL8 : Nat → Option Callee := addE 17 c17 (addE 30 c30 (addE 29 c29 (addE 15 c15 (addE 13 c13 env0))))
theorem vL8 : EnvOk Try.prog EL8 := ((((EnvOk.nil.add Try.func13 rfl (by kernel_rfl) k13).add Try.func15 rfl (by kernel_rfl) k15).add Try.func29 rfl (by kernel_rfl) k29).add Try.func30 rfl (by kernel_rfl) k30).add Try.func17 rfl (by kernel_rfl) k17
def laws_FnExactNodesOfK {R : Type} (fin : Bool → Option R) (x0 : DJob) : Option R :=
  (laws_szJob x0 1048576).bind fun y1 =>
  cond (decide (y1 < 0))
  (fin true)
  ((laws_toJob x0).bind fun y2 =>
    (spec_NodesOf (y2.1, (y2.2.1, (y2.2.2.1, ((y2.2.2.2.1, (y2.2.2.2.2.1, ())), (y2.2.2.2.2.2.1, (y2.2.2.2.2.2.2.1, (y2.2.2.2.2.2.2.2, ())))))))).bind fun y3 =>
    (laws_toJob x0).bind fun y4 =>
    (impl_NodesOf (y4.1, (y4.2.1, (y4.2.2.1, ((y4.2.2.2.1, (y4.2.2.2.2.1, ())), (y4.2.2.2.2.2.1, (y4.2.2.2.2.2.2.1, (y4.2.2.2.2.2.2.2, ())))))))).bind fun y5 =>
    cond (y5.1 != y3.1)
    (fin false)
    (cond (!(y5.2 == y3.2))
      (fin false)
      ((laws_toJob x0).bind fun y6 =>
        (laws_eqJob (y4.1, (y4.2.1, (y4.2.2.1, ((y4.2.2.2.1, (y4.2.2.2.2.1, ())), (y4.2.2.2.2.2.1, (y4.2.2.2.2.2.2.1, (y4.2.2.2.2.2.2.2, ()))))))) (y6.1, (y6.2.1, (y6.2.2.1, ((y6.2.2.2.1, (y6.2.2.2.2.1, ())), (y6.2.2.2.2.2.1, (y6.2.2.2.2.2.2.1, (y6.2.2.2.2.2.2.2, ())))))))).bind fun y7 =>
        cond (!y7)
        (fin false)
        (fin true))))
def laws_FnExactNodesOf (x0 : DJob) : Option (Bool) := laws_FnExactNodesOfK some x0
theorem p8 {R : Type} (fin : Bool → Option R) (x0 : DJob) : Par fin (laws_FnExactNodesOfK some x0) (laws_FnExactNodesOfK fin x0) := by
  unfold laws_FnExactNodesOfK
  repeat' (first | exact .fin | exact .none | refine .cond ?_ ?_ | refine .bind fun _ => ?_ | refine .sum (fun _ => ?_) fun _ => ?_)
def c8 : Callee := mkC [.agg [.ro TJob]] 1 [.one (.ro .bool)] fun x => laws_FnExactNodesOf x
theorem e8 (x : PK.dens [.agg [.ro TJob]]) : evalFn Try.prog EL8 or0 Try.f8 (PK.outs [.agg [.ro TJob]] x) =
    laws_FnExactNodesOfK (fun y => some (tupOf ((PK.outs [.one (.ro .bool)] y).take 1), (PK.outs [.one (.ro .bool)] y).drop 1)) x := by kernel_rfl
theorem k8 : CalleeOk Try.prog 8 c8 := callee_mk Try.func8 (code := codeOf Try.f8) (by kernel_rfl) vL8 mixed (LoOk.nil (by kernel_rfl)) fun x y h => (e8 x).trans (p8 _ x y h)
end
end Go.OAI
