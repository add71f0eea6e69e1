/- Contracts: GIsBest. -/
import Derived.Test.YtaiopbdbnellhaaGA
import Derived.Test.YtaiopbdbnellhaaGW
import Derived.Test.YtaiopbdbnellhaaGSr
import Derived.Test.YtaiopbdbnellhaaGF
import Derived.Test.YtaiopbdbnellhaaGScaledWorth
import Derived.Test.YtaiopbdbnellhaaGBestPlan
namespace Go.OAI
open Go.Proofs
set_option linter.unusedVariables false
noncomputable section


/-- spec.IsBest -/
def EL38 : Nat → Option Callee := addE 56 c56 (addE 76 c76 (addE 67 c67 (addE 55 c55 env0)))
theorem vL38 : EnvOk Try.prog EL38 := (((EnvOk.nil.add Try.func55 rfl (by kernel_rfl) k55).add Try.func67 rfl (by kernel_rfl) k67).add Try.func76 rfl (by kernel_rfl) k76).add Try.func56 rfl (by kernel_rfl) k56
def spec_IsBestK {R : Type} (fin : Bool × Bool → Option R) (x0 : DJob) (x1 : DPlan) : Option R :=
  (spec_srBoth x0 x1).bind fun y1 =>
  cond (!y1)
  (fin (false, false))
  ((spec_srBest x0).bind fun y2 =>
    sumO y2 (fun y3 =>
    fin (false, false))
    (fun y4 =>
    cond (!y4.2)
      (fin (false, false))
      ((spec_plFeasible x0 x1).bind fun y5 =>
        cond (y5)
        ((spec_srWorth x0 x1.2.1).bind fun y6 =>
          fin (y6 == y4.1.2.2.2.2.2.2.2.2.2.2.1, true))
        (fin (false, true)))))
def spec_IsBest (x0 : DJob) (x1 : DPlan) : Option (Bool × Bool) := spec_IsBestK some x0 x1
theorem p38 {R : Type} (fin : Bool × Bool → Option R) (x0 : DJob) (x1 : DPlan) : Par fin (spec_IsBestK some x0 x1) (spec_IsBestK fin x0 x1) := by
  unfold spec_IsBestK
  repeat' (first | exact .fin | exact .none | refine .cond ?_ ?_ | refine .bind fun _ => ?_ | refine .sum (fun _ => ?_) fun _ => ?_)
def c38 : Callee := mkC [.agg [.ro TJob], .agg [.ro TPlan]] 2 [.one (.ro .bool), .one (.ro .bool)] fun x => spec_IsBest x.1 x.2
theorem e38 (x : PK.dens [.agg [.ro TJob], .agg [.ro TPlan]]) : evalFn Try.prog EL38 or0 Try.f38 (PK.outs [.agg [.ro TJob], .agg [.ro TPlan]] x) =
    spec_IsBestK (fun y => some (tupOf ((PK.outs [.one (.ro .bool), .one (.ro .bool)] y).take 2), (PK.outs [.one (.ro .bool), .one (.ro .bool)] y).drop 2)) x.1 x.2 := by kernel_rfl
theorem k38 : CalleeOk Try.prog 38 c38 := callee_mk Try.func38 (code := codeOf Try.f38) (by kernel_rfl) vL38 mixed (LoOk.nil (by kernel_rfl)) fun x y h => (e38 x).trans (p38 _ x.1 x.2 y h)

/-- impl.IsBest -/
def EL39 : Nat → Option Callee := addE 58 c58 (addE 77 c77 (addE 37 c37 (addE 57 c57 (addE 16 c16 env0))))
theorem vL39 : EnvOk Try.prog EL39 := ((((EnvOk.nil.add Try.func16 rfl (by kernel_rfl) k16).add Try.func57 rfl (by kernel_rfl) k57).add Try.func37 rfl (by kernel_rfl) k37).add Try.func77 rfl (by kernel_rfl) k77).add Try.func58 rfl (by kernel_rfl) k58
def impl_IsBestK {R : Type} (fin : Bool × Bool → Option R) (x0 : DJob) (x1 : DPlan) : Option R :=
  (impl_IsSearchable x0).bind fun y1 =>
  cond (!y1)
  (fin (false, false))
  ((impl_isPlan x0 x1).bind fun y2 =>
    cond (!y2)
    (fin (false, false))
    ((impl_BestPlan x0).bind fun y3 =>
      cond (!y3.2.2)
      (fin (false, false))
      ((impl_isFeasible x0 x1).bind fun y4 =>
        cond (y4)
        ((impl_scaledWorth x0 x1).bind fun y5 =>
          fin (y5 == y3.2.1, true))
        (fin (false, true)))))
def impl_IsBest (x0 : DJob) (x1 : DPlan) : Option (Bool × Bool) := impl_IsBestK some x0 x1
theorem p39 {R : Type} (fin : Bool × Bool → Option R) (x0 : DJob) (x1 : DPlan) : Par fin (impl_IsBestK some x0 x1) (impl_IsBestK fin x0 x1) := by
  unfold impl_IsBestK
  repeat' (first | exact .fin | exact .none | refine .cond ?_ ?_ | refine .bind fun _ => ?_ | refine .sum (fun _ => ?_) fun _ => ?_)
def c39 : Callee := mkC [.agg [.ro TJob], .agg [.ro TPlan]] 2 [.one (.ro .bool), .one (.ro .bool)] fun x => impl_IsBest x.1 x.2
theorem e39 (x : PK.dens [.agg [.ro TJob], .agg [.ro TPlan]]) : evalFn Try.prog EL39 or0 Try.f39 (PK.outs [.agg [.ro TJob], .agg [.ro TPlan]] x) =
    impl_IsBestK (fun y => some (tupOf ((PK.outs [.one (.ro .bool), .one (.ro .bool)] y).take 2), (PK.outs [.one (.ro .bool), .one (.ro .bool)] y).drop 2)) x.1 x.2 := by kernel_rfl
theorem k39 : CalleeOk Try.prog 39 c39 := callee_mk Try.func39 (code := codeOf Try.f39) (by kernel_rfl) vL39 mixed (LoOk.nil (by kernel_rfl)) fun x y h => (e39 x).trans (p39 _ x.1 x.2 y h)

/-- laws.FnExactIsBest -/
def EL11 : Nat → Option Callee := addE 24 c24 (addE 17 c17 (addE 39 c39 (addE 38 c38 (addE 22 c22 (addE 15 c15 (addE 20 c20 (addE 13 c13 env0)))))))
theorem vL11 : EnvOk Try.prog EL11 := (((((((EnvOk.nil.add Try.func13 rfl (by kernel_rfl) k13).add Try.func20 rfl (by kernel_rfl) k20).add Try.func15 rfl (by kernel_rfl) k15).add Try.func22 rfl (by kernel_rfl) k22).add Try.func38 rfl (by kernel_rfl) k38).add Try.func39 rfl (by kernel_rfl) k39).add Try.func17 rfl (by kernel_rfl) k17).add Try.func24 rfl (by kernel_rfl) k24
def laws_FnExactIsBestK {R : Type} (fin : Bool → Option R) (x0 : DJob) (x1 : DPlan) : Option R :=
  (laws_szJob x0 1048576).bind fun y1 =>
  cond (decide (y1 < 0))
  (fin true)
  ((laws_szPlan x1 y1).bind fun y2 =>
    cond (decide (y2 < 0))
    (fin true)
    ((laws_toJob x0).bind fun y3 =>
      (laws_toPlan x1).bind fun y4 =>
      (spec_IsBest (y3.1, (y3.2.1, (y3.2.2.1, ((y3.2.2.2.1, (y3.2.2.2.2.1, ())), (y3.2.2.2.2.2.1, (y3.2.2.2.2.2.2.1, (y3.2.2.2.2.2.2.2, ()))))))) (y4.1, (y4.2, ()))).bind fun y5 =>
      (laws_toJob x0).bind fun y6 =>
      (laws_toPlan x1).bind fun y7 =>
      (impl_IsBest (y6.1, (y6.2.1, (y6.2.2.1, ((y6.2.2.2.1, (y6.2.2.2.2.1, ())), (y6.2.2.2.2.2.1, (y6.2.2.2.2.2.2.1, (y6.2.2.2.2.2.2.2, ()))))))) (y7.1, (y7.2, ()))).bind fun y8 =>
      cond (!(y8.1 == y5.1))
      (fin false)
      (cond (!(y8.2 == y5.2))
        (fin false)
        ((laws_toJob x0).bind fun y9 =>
          (laws_eqJob (y6.1, (y6.2.1, (y6.2.2.1, ((y6.2.2.2.1, (y6.2.2.2.2.1, ())), (y6.2.2.2.2.2.1, (y6.2.2.2.2.2.2.1, (y6.2.2.2.2.2.2.2, ()))))))) (y9.1, (y9.2.1, (y9.2.2.1, ((y9.2.2.2.1, (y9.2.2.2.2.1, ())), (y9.2.2.2.2.2.1, (y9.2.2.2.2.2.2.1, (y9.2.2.2.2.2.2.2, ())))))))).bind fun y10 =>
          cond (!y10)
          (fin false)
          ((laws_toPlan x1).bind fun y11 =>
            (laws_eqPlan (y7.1, (y7.2, ())) (y11.1, (y11.2, ()))).bind fun y12 =>
            cond (!y12)
            (fin false)
            (fin true))))))
def laws_FnExactIsBest (x0 : DJob) (x1 : DPlan) : Option (Bool) := laws_FnExactIsBestK some x0 x1
theorem p11 {R : Type} (fin : Bool → Option R) (x0 : DJob) (x1 : DPlan) : Par fin (laws_FnExactIsBestK some x0 x1) (laws_FnExactIsBestK fin x0 x1) := by
  unfold laws_FnExactIsBestK
  repeat' (first | exact .fin | exact .none | refine .cond ?_ ?_ | refine .bind fun _ => ?_ | refine .sum (fun _ => ?_) fun _ => ?_)
def c11 : Callee := mkC [.agg [.ro TJob], .agg [.ro TPlan]] 1 [.one (.ro .bool)] fun x => laws_FnExactIsBest x.1 x.2
theorem e11 (x : PK.dens [.agg [.ro TJob], .agg [.ro TPlan]]) : evalFn Try.prog EL11 or0 Try.f11 (PK.outs [.agg [.ro TJob], .agg [.ro TPlan]] x) =
    laws_FnExactIsBestK (fun y => some (tupOf ((PK.outs [.one (.ro .bool)] y).take 1), (PK.outs [.one (.ro .bool)] y).drop 1)) x.1 x.2 := by kernel_rfl
theorem k11 : CalleeOk Try.prog 11 c11 := callee_mk Try.func11 (code := codeOf Try.f11) (by kernel_rfl) vL11 mixed (LoOk.nil (by kernel_rfl)) fun x y h => (e11 x).trans (p11 _ x.1 x.2 y h)
end
end Go.OAI
