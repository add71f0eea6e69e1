/- Contracts: GScaledWorth. -/
import Derived.Test.YtaiopbdbnellhaaGA
import Derived.Test.YtaiopbdbnellhaaGW
import Derived.Test.YtaiopbdbnellhaaGSr
namespace Go.OAI
open Go.Proofs
set_option linter.unusedVariables false
noncomputable section


/-- spec.srBoth -/
def EL55 : Nat → Option Callee := addE 59 c59 (addE 45 c45 env0)
theorem vL55 : EnvOk Try.prog EL55 := (EnvOk.nil.add Try.func45 rfl (by kernel_rfl) k45).add Try.func59 rfl (by kernel_rfl) k59
def spec_srBothK {R : Type} (fin : Bool → Option R) (x0 : DJob) (x1 : DPlan) : Option R :=
  (spec_srGood x0).bind fun y1 =>
  cond (y1)
  ((spec_plGood x0 x1).bind fun y2 =>
    fin y2)
  (fin false)
def spec_srBoth (x0 : DJob) (x1 : DPlan) : Option (Bool) := spec_srBothK some x0 x1
theorem p55 {R : Type} (fin : Bool → Option R) (x0 : DJob) (x1 : DPlan) : Par fin (spec_srBothK some x0 x1) (spec_srBothK fin x0 x1) := by
  unfold spec_srBothK
  repeat' (first | exact .fin | exact .none | refine .cond ?_ ?_ | refine .bind fun _ => ?_ | refine .sum (fun _ => ?_) fun _ => ?_)
def c55 : Callee := mkC [.agg [.ro TJob], .agg [.ro TPlan]] 1 [.one (.ro .bool)] fun x => spec_srBoth x.1 x.2
theorem e55 (x : PK.dens [.agg [.ro TJob], .agg [.ro TPlan]]) : evalFn Try.prog EL55 or0 Try.f55 (PK.outs [.agg [.ro TJob], .agg [.ro TPlan]] x) =
    spec_srBothK (fun y => some (tupOf ((PK.outs [.one (.ro .bool)] y).take 1), (PK.outs [.one (.ro .bool)] y).drop 1)) x.1 x.2 := by kernel_rfl
theorem k55 : CalleeOk Try.prog 55 c55 := callee_mk Try.func55 (code := codeOf Try.f55) (by kernel_rfl) vL55 mixed (LoOk.nil (by kernel_rfl)) fun x y h => (e55 x).trans (p55 _ x.1 x.2 y h)

/-- spec.ScaledWorth -/
def EL21 : Nat → Option Callee := addE 56 c56 (addE 55 c55 env0)
theorem vL21 : EnvOk Try.prog EL21 := (EnvOk.nil.add Try.func55 rfl (by kernel_rfl) k55).add Try.func56 rfl (by kernel_rfl) k56
def spec_ScaledWorthK {R : Type} (fin : Int × Bool → Option R) (x0 : DJob) (x1 : DPlan) : Option R :=
  (spec_srBoth x0 x1).bind fun y1 =>
  cond (!y1)
  (fin (0, false))
  ((spec_srWorth x0 x1.2.1).bind fun y2 =>
    fin (y2, true))
def spec_ScaledWorth (x0 : DJob) (x1 : DPlan) : Option (Int × Bool) := spec_ScaledWorthK some x0 x1
theorem p21 {R : Type} (fin : Int × Bool → Option R) (x0 : DJob) (x1 : DPlan) : Par fin (spec_ScaledWorthK some x0 x1) (spec_ScaledWorthK fin x0 x1) := by
  unfold spec_ScaledWorthK
  repeat' (first | exact .fin | exact .none | refine .cond ?_ ?_ | refine .bind fun _ => ?_ | refine .sum (fun _ => ?_) fun _ => ?_)
def c21 : Callee := mkC [.agg [.ro TJob], .agg [.ro TPlan]] 2 [.one (.ro (.int .i64)), .one (.ro .bool)] fun x => spec_ScaledWorth x.1 x.2
theorem e21 (x : PK.dens [.agg [.ro TJob], .agg [.ro TPlan]]) : evalFn Try.prog EL21 or0 Try.f21 (PK.outs [.agg [.ro TJob], .agg [.ro TPlan]] x) =
    spec_ScaledWorthK (fun y => some (tupOf ((PK.outs [.one (.ro (.int .i64)), .one (.ro .bool)] y).take 2), (PK.outs [.one (.ro (.int .i64)), .one (.ro .bool)] y).drop 2)) x.1 x.2 := by kernel_rfl
theorem k21 : CalleeOk Try.prog 21 c21 := callee_mk Try.func21 (code := codeOf Try.f21) (by kernel_rfl) vL21 mixed (LoOk.nil (by kernel_rfl)) fun x y h => (e21 x).trans (p21 _ x.1 x.2 y h)

/-- impl.ScaledWorth -/
def EL23 : Nat → Option Callee := addE 58 c58 (addE 57 c57 (addE 16 c16 env0))
theorem vL23 : EnvOk Try.prog EL23 := ((EnvOk.nil.add Try.func16 rfl (by kernel_rfl) k16).add Try.func57 rfl (by kernel_rfl) k57).add Try.func58 rfl (by kernel_rfl) k58
def impl_ScaledWorthK {R : Type} (fin : Int × Bool → Option R) (x0 : DJob) (x1 : DPlan) : Option R :=
  (impl_IsSearchable x0).bind fun y1 =>
  cond (!y1)
  (fin (0, false))
  ((impl_isPlan x0 x1).bind fun y2 =>
    cond (!y2)
    (fin (0, false))
    ((impl_scaledWorth x0 x1).bind fun y3 =>
      fin (y3, true)))
def impl_ScaledWorth (x0 : DJob) (x1 : DPlan) : Option (Int × Bool) := impl_ScaledWorthK some x0 x1
theorem p23 {R : Type} (fin : Int × Bool → Option R) (x0 : DJob) (x1 : DPlan) : Par fin (impl_ScaledWorthK some x0 x1) (impl_ScaledWorthK fin x0 x1) := by
  unfold impl_ScaledWorthK
  repeat' (first | exact .fin | exact .none | refine .cond ?_ ?_ | refine .bind fun _ => ?_ | refine .sum (fun _ => ?_) fun _ => ?_)
def c23 : Callee := mkC [.agg [.ro TJob], .agg [.ro TPlan]] 2 [.one (.ro (.int .i64)), .one (.ro .bool)] fun x => impl_ScaledWorth x.1 x.2
theorem e23 (x : PK.dens [.agg [.ro TJob], .agg [.ro TPlan]]) : evalFn Try.prog EL23 or0 Try.f23 (PK.outs [.agg [.ro TJob], .agg [.ro TPlan]] x) =
    impl_ScaledWorthK (fun y => some (tupOf ((PK.outs [.one (.ro (.int .i64)), .one (.ro .bool)] y).take 2), (PK.outs [.one (.ro (.int .i64)), .one (.ro .bool)] y).drop 2)) x.1 x.2 := by kernel_rfl
theorem k23 : CalleeOk Try.prog 23 c23 := callee_mk Try.func23 (code := codeOf Try.f23) (by kernel_rfl) vL23 mixed (LoOk.nil (by kernel_rfl)) fun x y h => (e23 x).trans (p23 _ x.1 x.2 y h)

/-- laws.FnExactScaledWorth -/
def EL5 : Nat → Option Callee := addE 24 c24 (addE 17 c17 (addE 23 c23 (addE 21 c21 (addE 22 c22 (addE 15 c15 (addE 20 c20 (addE 13 c13 env0)))))))
theorem vL5 : EnvOk Try.prog EL5 := (((((((EnvOk.nil.add Try.func13 rfl (by kernel_rfl) k13).add Try.func20 rfl (by kernel_rfl) k20).add Try.func15 rfl (by kernel_rfl) k15).add Try.func22 rfl (by kernel_rfl) k22).add Try.func21 rfl (by kernel_rfl) k21).add Try.func23 rfl (by kernel_rfl) k23).add Try.func17 rfl (by kernel_rfl) k17).add Try.func24 rfl (by kernel_rfl) k24
def laws_FnExactScaledWorthK {R : Type} (fin : Bool → Option R) (x0 : DJob) (x1 : DPlan) : Option R :=
  (laws_szJob x0 1048576).bind fun y1 =>
  cond (decide (y1 < 0))
  (fin true)
  ((laws_szPlan x1 y1).bind fun y2 =>
    cond (decide (y2 < 0))
    (fin true)
    ((laws_toJob x0).bind fun y3 =>
      (laws_toPlan x1).bind fun y4 =>
      (spec_ScaledWorth (y3.1, (y3.2.1, (y3.2.2.1, ((y3.2.2.2.1, (y3.2.2.2.2.1, ())), (y3.2.2.2.2.2.1, (y3.2.2.2.2.2.2.1, (y3.2.2.2.2.2.2.2, ()))))))) (y4.1, (y4.2, ()))).bind fun y5 =>
      (laws_toJob x0).bind fun y6 =>
      (laws_toPlan x1).bind fun y7 =>
      (impl_ScaledWorth (y6.1, (y6.2.1, (y6.2.2.1, ((y6.2.2.2.1, (y6.2.2.2.2.1, ())), (y6.2.2.2.2.2.1, (y6.2.2.2.2.2.2.1, (y6.2.2.2.2.2.2.2, ()))))))) (y7.1, (y7.2, ()))).bind fun y8 =>
      cond (y8.1 != y5.1)
      (fin false)
      (cond (!(y8.2 == y5.2))
        (fin false)
        ((laws_toJob x0).bind fun y9 =>
          (laws_eqJob (y6.1, (y6.2.1, (y6.2.2.1, ((y6.2.2.2.1, (y6.2.2.2.2.1, ())), (y6.2.2.2.2.2.1, (y6.2.2.2.2.2.2.1, (y6.2.2.2.2.2.2.2, ()))))))) (y9.1, (y9.2.1, (y9.2.2.1, ((y9.2.2.2.1, (y9.2.2.2.2.1, ())), (y9.2.2.2.2.2.1, (y9.2.2.2.2.2.2.1, (y9.2.2.2.2.2.2.2, ())))))))).bind fun y10 =>
          cond (!y10)
          (fin false)
          ((laws_toPlan x1).bind fun y11 =>
            (laws_eqPlan (y7.1, (y7.2, ())) (y11.1, (y11.2, ()))).bind fun y12 =>
            cond (!y12)
            (fin false)
            (fin true))))))
def laws_FnExactScaledWorth (x0 : DJob) (x1 : DPlan) : Option (Bool) := laws_FnExactScaledWorthK some x0 x1
theorem p5 {R : Type} (fin : Bool → Option R) (x0 : DJob) (x1 : DPlan) : Par fin (laws_FnExactScaledWorthK some x0 x1) (laws_FnExactScaledWorthK fin x0 x1) := by
  unfold laws_FnExactScaledWorthK
  repeat' (first | exact .fin | exact .none | refine .cond ?_ ?_ | refine .bind fun _ => ?_ | refine .sum (fun _ => ?_) fun _ => ?_)
def c5 : Callee := mkC [.agg [.ro TJob], .agg [.ro TPlan]] 1 [.one (.ro .bool)] fun x => laws_FnExactScaledWorth x.1 x.2
theorem e5 (x : PK.dens [.agg [.ro TJob], .agg [.ro TPlan]]) : evalFn Try.prog EL5 or0 Try.f5 (PK.outs [.agg [.ro TJob], .agg [.ro TPlan]] x) =
    laws_FnExactScaledWorthK (fun y => some (tupOf ((PK.outs [.one (.ro .bool)] y).take 1), (PK.outs [.one (.ro .bool)] y).drop 1)) x.1 x.2 := by kernel_rfl
theorem k5 : CalleeOk Try.prog 5 c5 := callee_mk Try.func5 (code := codeOf Try.f5) (by kernel_rfl) vL5 mixed (LoOk.nil (by kernel_rfl)) fun x y h => (e5 x).trans (p5 _ x.1 x.2 y h)
end
end Go.OAI
