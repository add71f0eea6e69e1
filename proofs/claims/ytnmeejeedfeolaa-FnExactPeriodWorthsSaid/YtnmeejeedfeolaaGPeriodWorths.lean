/- Contracts: GPeriodWorths. -/
import Derived.Test.YtnmeejeedfeolaaGA
import Derived.Test.YtnmeejeedfeolaaGW
namespace Go.OAI
open Go.Proofs
set_option linter.unusedVariables false
noncomputable section


/-- spec.PeriodWorths -/
def EL41 : Nat → Option Callee := addE 82 c82 (addE 74 c74 env0)
theorem vL41 : EnvOk Try.prog EL41 := (EnvOk.nil.add Try.func74 rfl (by kernel_rfl) k74).add Try.func82 rfl (by kernel_rfl) k82
def spec_PeriodWorthsK {R : Type} (fin : (List Int) × Bool → Option R) (x0 : DJob) (x1 : DPlan) : Option R :=
  (spec_plBoth x0 x1).bind fun y1 =>
  cond (!y1)
  (fin ([], false))
  ((spec_woPeriods x0 x1).bind fun y2 =>
    fin (y2, true))
def spec_PeriodWorths (x0 : DJob) (x1 : DPlan) : Option ((List Int) × Bool) := spec_PeriodWorthsK some x0 x1
theorem p41 {R : Type} (fin : (List Int) × Bool → Option R) (x0 : DJob) (x1 : DPlan) : Par fin (spec_PeriodWorthsK some x0 x1) (spec_PeriodWorthsK fin x0 x1) := by
  unfold spec_PeriodWorthsK
  repeat' (first | exact .fin | exact .none | refine .cond ?_ ?_ | refine .bind fun _ => ?_ | refine .sum (fun _ => ?_) fun _ => ?_)
def or41 : Ora := { lo := lo0, fin := [.own (.slot 4) (.int .i64)] }
def c41 : Callee := mkC [.agg [.ro TJob], .agg [.ro TPlan]] 2 [.one (.sl (.int .i64)), .one (.ro .bool)] fun x => spec_PeriodWorths x.1 x.2
theorem e41 (x : PK.dens [.agg [.ro TJob], .agg [.ro TPlan]]) : evalFn Try.prog EL41 or41 Try.f41 (PK.outs [.agg [.ro TJob], .agg [.ro TPlan]] x) =
    spec_PeriodWorthsK (fun y => some (tupOf ((PK.outs [.one (.sl (.int .i64)), .one (.ro .bool)] y).take 2), (PK.outs [.one (.sl (.int .i64)), .one (.ro .bool)] y).drop 2)) x.1 x.2 := by kernel_rfl
theorem k41 : CalleeOk Try.prog 41 c41 := callee_mk Try.func41 (code := codeOf Try.f41) (by kernel_rfl) vL41 mixed (LoOk.nil (by kernel_rfl)) fun x y h => (e41 x).trans (p41 _ x.1 x.2 y h)

/-- impl.PeriodWorths -/
def EL42 : Nat → Option Callee := addE 83 c83 (addE 78 c78 (addE 70 c70 env0))
theorem vL42 : EnvOk Try.prog EL42 := ((EnvOk.nil.add Try.func70 rfl (by kernel_rfl) k70).add Try.func78 rfl (by kernel_rfl) k78).add Try.func83 rfl (by kernel_rfl) k83
def impl_PeriodWorthsK {R : Type} (fin : (List Int) × Bool → Option R) (x0 : DJob) (x1 : DPlan) : Option R :=
  (impl_IsJob x0).bind fun y1 =>
  cond (!y1)
  (fin ([], false))
  ((impl_isPlan x0 x1).bind fun y2 =>
    cond (!y2)
    (fin ([], false))
    ((impl_periodWorths x0 x1).bind fun y3 =>
      fin (y3, true)))
def impl_PeriodWorths (x0 : DJob) (x1 : DPlan) : Option ((List Int) × Bool) := impl_PeriodWorthsK some x0 x1
theorem p42 {R : Type} (fin : (List Int) × Bool → Option R) (x0 : DJob) (x1 : DPlan) : Par fin (impl_PeriodWorthsK some x0 x1) (impl_PeriodWorthsK fin x0 x1) := by
  unfold impl_PeriodWorthsK
  repeat' (first | exact .fin | exact .none | refine .cond ?_ ?_ | refine .bind fun _ => ?_ | refine .sum (fun _ => ?_) fun _ => ?_)
def or42 : Ora := { lo := lo0, fin := [.own (.slot 4) (.int .i64)] }
def c42 : Callee := mkC [.agg [.ro TJob], .agg [.ro TPlan]] 2 [.one (.sl (.int .i64)), .one (.ro .bool)] fun x => impl_PeriodWorths x.1 x.2
theorem e42 (x : PK.dens [.agg [.ro TJob], .agg [.ro TPlan]]) : evalFn Try.prog EL42 or42 Try.f42 (PK.outs [.agg [.ro TJob], .agg [.ro TPlan]] x) =
    impl_PeriodWorthsK (fun y => some (tupOf ((PK.outs [.one (.sl (.int .i64)), .one (.ro .bool)] y).take 2), (PK.outs [.one (.sl (.int .i64)), .one (.ro .bool)] y).drop 2)) x.1 x.2 := by kernel_rfl
theorem k42 : CalleeOk Try.prog 42 c42 := callee_mk Try.func42 (code := codeOf Try.f42) (by kernel_rfl) vL42 mixed (LoOk.nil (by kernel_rfl)) fun x y h => (e42 x).trans (p42 _ x.1 x.2 y h)

/-- laws.FnExactPeriodWorths -/
def EL8 : Nat → Option Callee := addE 36 c36 (addE 35 c35 (addE 34 c34 (addE 33 c33 (addE 30 c30 (addE 24 c24 (addE 25 c25 (addE 42 c42 (addE 41 c41 (addE 28 c28 (addE 21 c21 (addE 26 c26 (addE 19 c19 env0))))))))))))
theorem vL8 : EnvOk Try.prog EL8 := ((((((((((((EnvOk.nil.add Try.func19 rfl (by kernel_rfl) k19).add Try.func26 rfl (by kernel_rfl) k26).add Try.func21 rfl (by kernel_rfl) k21).add Try.func28 rfl (by kernel_rfl) k28).add Try.func41 rfl (by kernel_rfl) k41).add Try.func42 rfl (by kernel_rfl) k42).add Try.func25 rfl (by kernel_rfl) k25).add Try.func24 rfl (by kernel_rfl) k24).add Try.func30 rfl (by kernel_rfl) k30).add Try.func33 rfl (by kernel_rfl) k33).add Try.func34 rfl (by kernel_rfl) k34).add Try.func35 rfl (by kernel_rfl) k35).add Try.func36 rfl (by kernel_rfl) k36
def laws_FnExactPeriodWorthsK {R : Type} (fin : Bool → Option R) (x0 : DJob) (x1 : DPlan) : Option R :=
  (laws_szJob x0 1048576).bind fun y1 =>
  cond (decide (y1 < 0))
  (fin true)
  ((laws_szPlan x1 y1).bind fun y2 =>
    cond (decide (y2 < 0))
    (fin true)
    ((laws_toJob x0).bind fun y3 =>
      (laws_toPlan x1).bind fun y4 =>
      (spec_PeriodWorths (y3.1, (y3.2.1, (y3.2.2.1, ((y3.2.2.2.1, (y3.2.2.2.2.1, ())), (y3.2.2.2.2.2.1, (y3.2.2.2.2.2.2.1, (y3.2.2.2.2.2.2.2, ()))))))) (y4.1, (y4.2, ()))).bind fun y5 =>
      (laws_toJob x0).bind fun y6 =>
      (laws_toPlan x1).bind fun y7 =>
      (impl_PeriodWorths (y6.1, (y6.2.1, (y6.2.2.1, ((y6.2.2.2.1, (y6.2.2.2.2.1, ())), (y6.2.2.2.2.2.1, (y6.2.2.2.2.2.2.1, (y6.2.2.2.2.2.2.2, ()))))))) (y7.1, (y7.2, ()))).bind fun y8 =>
      (laws_eqIntS y8.1 y5.1).bind fun y9 =>
      cond (!y9)
      (fin false)
      (cond (!(y8.2 == y5.2))
        (fin false)
        ((laws_toJob x0).bind fun y10 =>
          (laws_eqJob (y6.1, (y6.2.1, (y6.2.2.1, ((y6.2.2.2.1, (y6.2.2.2.2.1, ())), (y6.2.2.2.2.2.1, (y6.2.2.2.2.2.2.1, (y6.2.2.2.2.2.2.2, ()))))))) (y10.1, (y10.2.1, (y10.2.2.1, ((y10.2.2.2.1, (y10.2.2.2.2.1, ())), (y10.2.2.2.2.2.1, (y10.2.2.2.2.2.2.1, (y10.2.2.2.2.2.2.2, ())))))))).bind fun y11 =>
          cond (!y11)
          (fin false)
          ((laws_toPlan x1).bind fun y12 =>
            (laws_eqPlan (y7.1, (y7.2, ())) (y12.1, (y12.2, ()))).bind fun y13 =>
            cond (!y13)
            (fin false)
            ((laws_markJob y6 1).bind fun y14 =>
              (laws_markPlan y7 y14.1).bind fun y15 =>
              cond (decide (y15.1 < 0))
              (fin false)
              ((laws_eqIntS y8.1 y5.1).bind fun y16 =>
                cond (!y16)
                (fin false)
                (cond (!(y8.2 == y5.2))
                  (fin false)
                  ((laws_markIntS y8.1 1).bind fun y17 =>
                    (laws_heldIntS y17.2 1).bind fun y18 =>
                    cond (decide (y18 < 0))
                    (fin false)
                    (cond (y18 != y17.1)
                      (fin false)
                      ((laws_toJob x0).bind fun y19 =>
                        (laws_toPlan x1).bind fun y20 =>
                        (impl_PeriodWorths (y19.1, (y19.2.1, (y19.2.2.1, ((y19.2.2.2.1, (y19.2.2.2.2.1, ())), (y19.2.2.2.2.2.1, (y19.2.2.2.2.2.2.1, (y19.2.2.2.2.2.2.2, ()))))))) (y20.1, (y20.2, ()))).bind fun y21 =>
                        (laws_eqIntS y21.1 y5.1).bind fun y22 =>
                        cond (!y22)
                        (fin false)
                        (cond (!(y21.2 == y5.2))
                          (fin false)
                          ((laws_heldIntS y17.2 1).bind fun y23 =>
                            cond (decide (y23 < 0))
                            (fin false)
                            (cond (y23 != y17.1)
                              (fin false)
                              (fin true)))))))))))))))
def laws_FnExactPeriodWorths (x0 : DJob) (x1 : DPlan) : Option (Bool) := laws_FnExactPeriodWorthsK some x0 x1
theorem p8 {R : Type} (fin : Bool → Option R) (x0 : DJob) (x1 : DPlan) : Par fin (laws_FnExactPeriodWorthsK some x0 x1) (laws_FnExactPeriodWorthsK fin x0 x1) := by
  unfold laws_FnExactPeriodWorthsK
  repeat' (first | exact .fin | exact .none | refine .cond ?_ ?_ | refine .bind fun _ => ?_ | refine .sum (fun _ => ?_) fun _ => ?_)
def c8 : Callee := mkC [.agg [.ro TJob], .agg [.ro TPlan]] 1 [.one (.ro .bool)] fun x => laws_FnExactPeriodWorths x.1 x.2
theorem e8 (x : PK.dens [.agg [.ro TJob], .agg [.ro TPlan]]) : evalFn Try.prog EL8 or0 Try.f8 (PK.outs [.agg [.ro TJob], .agg [.ro TPlan]] x) =
    laws_FnExactPeriodWorthsK (fun y => some (tupOf ((PK.outs [.one (.ro .bool)] y).take 1), (PK.outs [.one (.ro .bool)] y).drop 1)) x.1 x.2 := by kernel_rfl
theorem k8 : CalleeOk Try.prog 8 c8 := callee_mk Try.func8 (code := codeOf Try.f8) (by kernel_rfl) vL8 mixed (LoOk.nil (by kernel_rfl)) fun x y h => (e8 x).trans (p8 _ x.1 x.2 y h)
end
end Go.OAI
