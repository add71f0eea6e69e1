/- Contracts: GIsPeak. -/
import Derived.Test.YtnmeejeedfeolaaGA
import Derived.Test.YtnmeejeedfeolaaGK
import Derived.Test.YtnmeejeedfeolaaGBm
namespace Go.OAI
open Go.Proofs
set_option linter.unusedVariables false
noncomputable section


/-- spec.IsPeak -/
def EL58 : Nat → Option Callee := addE 106 c106 (addE 100 c100 env0)
theorem vL58 : EnvOk Try.prog EL58 := (EnvOk.nil.add Try.func100 rfl (by kernel_rfl) k100).add Try.func106 rfl (by kernel_rfl) k106
def spec_IsPeakK {R : Type} (fin : Bool × Bool → Option R) (x0 : DJob) (x1 : DPlan) : Option R :=
  (spec_wiGood x0 x1).bind fun y1 =>
  cond (!y1)
  (fin (false, false))
  ((spec_wiMove x0 x1).bind fun y2 =>
    fin (y2.2.2 == 0, true))
def spec_IsPeak (x0 : DJob) (x1 : DPlan) : Option (Bool × Bool) := spec_IsPeakK some x0 x1
theorem p58 {R : Type} (fin : Bool × Bool → Option R) (x0 : DJob) (x1 : DPlan) : Par fin (spec_IsPeakK some x0 x1) (spec_IsPeakK fin x0 x1) := by
  unfold spec_IsPeakK
  repeat' (first | exact .fin | exact .none | refine .cond ?_ ?_ | refine .bind fun _ => ?_ | refine .sum (fun _ => ?_) fun _ => ?_)
def c58 : Callee := mkC [.agg [.ro TJob], .agg [.ro TPlan]] 2 [.one (.ro .bool), .one (.ro .bool)] fun x => spec_IsPeak x.1 x.2
theorem e58 (x : PK.dens [.agg [.ro TJob], .agg [.ro TPlan]]) : evalFn Try.prog EL58 or0 Try.f58 (PK.outs [.agg [.ro TJob], .agg [.ro TPlan]] x) =
    spec_IsPeakK (fun y => some (tupOf ((PK.outs [.one (.ro .bool), .one (.ro .bool)] y).take 2), (PK.outs [.one (.ro .bool), .one (.ro .bool)] y).drop 2)) x.1 x.2 := by kernel_rfl
theorem k58 : CalleeOk Try.prog 58 c58 := callee_mk Try.func58 (code := codeOf Try.f58) (by kernel_rfl) vL58 mixed (LoOk.nil (by kernel_rfl)) fun x y h => (e58 x).trans (p58 _ x.1 x.2 y h)

/-- impl.IsPeak -/
def EL59 : Nat → Option Callee := addE 107 c107 (addE 102 c102 env0)
theorem vL59 : EnvOk Try.prog EL59 := (EnvOk.nil.add Try.func102 rfl (by kernel_rfl) k102).add Try.func107 rfl (by kernel_rfl) k107
def impl_IsPeakK {R : Type} (fin : Bool × Bool → Option R) (x0 : DJob) (x1 : DPlan) : Option R :=
  (impl_isKept x0 x1).bind fun y1 =>
  cond (!y1)
  (fin (false, false))
  ((impl_bestMove x0 x1).bind fun y2 =>
    fin (!y2.2.2.2, true))
def impl_IsPeak (x0 : DJob) (x1 : DPlan) : Option (Bool × Bool) := impl_IsPeakK some x0 x1
theorem p59 {R : Type} (fin : Bool × Bool → Option R) (x0 : DJob) (x1 : DPlan) : Par fin (impl_IsPeakK some x0 x1) (impl_IsPeakK fin x0 x1) := by
  unfold impl_IsPeakK
  repeat' (first | exact .fin | exact .none | refine .cond ?_ ?_ | refine .bind fun _ => ?_ | refine .sum (fun _ => ?_) fun _ => ?_)
def c59 : Callee := mkC [.agg [.ro TJob], .agg [.ro TPlan]] 2 [.one (.ro .bool), .one (.ro .bool)] fun x => impl_IsPeak x.1 x.2
theorem e59 (x : PK.dens [.agg [.ro TJob], .agg [.ro TPlan]]) : evalFn Try.prog EL59 or0 Try.f59 (PK.outs [.agg [.ro TJob], .agg [.ro TPlan]] x) =
    impl_IsPeakK (fun y => some (tupOf ((PK.outs [.one (.ro .bool), .one (.ro .bool)] y).take 2), (PK.outs [.one (.ro .bool), .one (.ro .bool)] y).drop 2)) x.1 x.2 := by kernel_rfl
theorem k59 : CalleeOk Try.prog 59 c59 := callee_mk Try.func59 (code := codeOf Try.f59) (by kernel_rfl) vL59 mixed (LoOk.nil (by kernel_rfl)) fun x y h => (e59 x).trans (p59 _ x.1 x.2 y h)

/-- laws.FnExactIsPeak -/
def EL16 : Nat → Option Callee := addE 30 c30 (addE 24 c24 (addE 59 c59 (addE 58 c58 (addE 28 c28 (addE 21 c21 (addE 26 c26 (addE 19 c19 env0)))))))
theorem vL16 : EnvOk Try.prog EL16 := (((((((EnvOk.nil.add Try.func19 rfl (by kernel_rfl) k19).add Try.func26 rfl (by kernel_rfl) k26).add Try.func21 rfl (by kernel_rfl) k21).add Try.func28 rfl (by kernel_rfl) k28).add Try.func58 rfl (by kernel_rfl) k58).add Try.func59 rfl (by kernel_rfl) k59).add Try.func24 rfl (by kernel_rfl) k24).add Try.func30 rfl (by kernel_rfl) k30
def laws_FnExactIsPeakK {R : Type} (fin : Bool → Option R) (x0 : DJob) (x1 : DPlan) : Option R :=
  (laws_szJob x0 1048576).bind fun y1 =>
  cond (decide (y1 < 0))
  (fin true)
  ((laws_szPlan x1 y1).bind fun y2 =>
    cond (decide (y2 < 0))
    (fin true)
    ((laws_toJob x0).bind fun y3 =>
      (laws_toPlan x1).bind fun y4 =>
      (spec_IsPeak (y3.1, (y3.2.1, (y3.2.2.1, ((y3.2.2.2.1, (y3.2.2.2.2.1, ())), (y3.2.2.2.2.2.1, (y3.2.2.2.2.2.2.1, (y3.2.2.2.2.2.2.2, ()))))))) (y4.1, (y4.2, ()))).bind fun y5 =>
      (laws_toJob x0).bind fun y6 =>
      (laws_toPlan x1).bind fun y7 =>
      (impl_IsPeak (y6.1, (y6.2.1, (y6.2.2.1, ((y6.2.2.2.1, (y6.2.2.2.2.1, ())), (y6.2.2.2.2.2.1, (y6.2.2.2.2.2.2.1, (y6.2.2.2.2.2.2.2, ()))))))) (y7.1, (y7.2, ()))).bind fun y8 =>
      cond (!(y8.1 == y5.1))
      (fin false)
      (cond (!(y8.2 == y5.2))
        (fin false)
        ((laws_toJob x0).bind fun y9 =>
          (laws_eqJob (y6.1, (y6.2.1, (y6.2.2.1, ((y6.2.2.2.1, (y6.2.2.2.2.1, ())), (y6.2.2.2.2.2.1, (y6.2.2.2.2.2.2.1, (y6.2.2.2.2.2.2.2, ()))))))) (y9.1, (y9.2.1, (y9.2.2.1, ((y9.2.2.2.1, (y9.2.2.2.2.1, ())), (y9.2.2.2.2.2.1, (y9.2.2.2.2.2.2.1, (y9.2.2.2.2.2.2.2, ())))))))).bind fun y10 =>
          cond (!y10)
          (fin false)
          ((laws_toPlan x1).bind fun y11 =>
            (laws_eqPlan (y7.1, (y7.2, ())) (y11.1, (y11.2, ()))).bind fun y12 =>
            cond (!y12)
            (fin false)
            (fin true))))))
def laws_FnExactIsPeak (x0 : DJob) (x1 : DPlan) : Option (Bool) := laws_FnExactIsPeakK some x0 x1
theorem p16 {R : Type} (fin : Bool → Option R) (x0 : DJob) (x1 : DPlan) : Par fin (laws_FnExactIsPeakK some x0 x1) (laws_FnExactIsPeakK fin x0 x1) := by
  unfold laws_FnExactIsPeakK
  repeat' (first | exact .fin | exact .none | refine .cond ?_ ?_ | refine .bind fun _ => ?_ | refine .sum (fun _ => ?_) fun _ => ?_)
def c16 : Callee := mkC [.agg [.ro TJob], .agg [.ro TPlan]] 1 [.one (.ro .bool)] fun x => laws_FnExactIsPeak x.1 x.2
theorem e16 (x : PK.dens [.agg [.ro TJob], .agg [.ro TPlan]]) : evalFn Try.prog EL16 or0 Try.f16 (PK.outs [.agg [.ro TJob], .agg [.ro TPlan]] x) =
    laws_FnExactIsPeakK (fun y => some (tupOf ((PK.outs [.one (.ro .bool)] y).take 1), (PK.outs [.one (.ro .bool)] y).drop 1)) x.1 x.2 := by kernel_rfl
theorem k16 : CalleeOk Try.prog 16 c16 := callee_mk Try.func16 (code := codeOf Try.f16) (by kernel_rfl) vL16 mixed (LoOk.nil (by kernel_rfl)) fun x y h => (e16 x).trans (p16 _ x.1 x.2 y h)
end
end Go.OAI
