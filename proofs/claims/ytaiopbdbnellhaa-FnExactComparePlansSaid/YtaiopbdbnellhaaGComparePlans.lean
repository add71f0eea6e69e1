/- Contracts: GComparePlans. -/
import Derived.Test.YtaiopbdbnellhaaGA
import Derived.Test.YtaiopbdbnellhaaGW
import Derived.Test.YtaiopbdbnellhaaGSr
import Derived.Test.YtaiopbdbnellhaaGScaledWorth
namespace Go.OAI
open Go.Proofs
set_option linter.unusedVariables false
noncomputable section


/-- spec.l1Sign -/
def EL60 : Nat → Option Callee := env0
theorem vL60 : EnvOk Try.prog EL60 := EnvOk.nil
def spec_l1SignK {R : Type} (fin : Int → Option R) (x0 : Int) : Option R :=
  cond (decide (x0 > 0))
  (fin 1)
  (cond (decide (x0 < 0))
    (fin (-1))
    (fin 0))
def spec_l1Sign (x0 : Int) : Option (Int) := spec_l1SignK some x0
theorem p60 {R : Type} (fin : Int → Option R) (x0 : Int) : Par fin (spec_l1SignK some x0) (spec_l1SignK fin x0) := by
  unfold spec_l1SignK
  repeat' (first | exact .fin | exact .none | refine .cond ?_ ?_ | refine .bind fun _ => ?_ | refine .sum (fun _ => ?_) fun _ => ?_)
def c60 : Callee := mkC [.one (.ro (.int .i64))] 1 [.one (.ro (.int .i64))] fun x => spec_l1Sign x
theorem e60 (x : PK.dens [.one (.ro (.int .i64))]) : evalFn Try.prog EL60 or0 Try.f60 (PK.outs [.one (.ro (.int .i64))] x) =
    spec_l1SignK (fun y => some (tupOf ((PK.outs [.one (.ro (.int .i64))] y).take 1), (PK.outs [.one (.ro (.int .i64))] y).drop 1)) x := by kernel_rfl
theorem k60 : CalleeOk Try.prog 60 c60 := callee_mk Try.func60 (code := codeOf Try.f60) (by kernel_rfl) vL60 mixed (LoOk.nil (by kernel_rfl)) fun x y h => (e60 x).trans (p60 _ x y h)

/-- spec.ComparePlans -/
def EL25 : Nat → Option Callee := addE 60 c60 (addE 56 c56 (addE 59 c59 (addE 55 c55 env0)))
theorem vL25 : EnvOk Try.prog EL25 := (((EnvOk.nil.add Try.func55 rfl (by kernel_rfl) k55).add Try.func59 rfl (by kernel_rfl) k59).add Try.func56 rfl (by kernel_rfl) k56).add Try.func60 rfl (by kernel_rfl) k60
def spec_ComparePlansK {R : Type} (fin : Int × Bool → Option R) (x0 : DJob) (x1 : DPlan) (x2 : DPlan) : Option R :=
  (spec_srBoth x0 x1).bind fun y1 =>
  cond (!y1)
  (fin (0, false))
  ((spec_plGood x0 x2).bind fun y2 =>
    cond (!y2)
    (fin (0, false))
    ((spec_srWorth x0 x1.2.1).bind fun y3 =>
      (spec_srWorth x0 x2.2.1).bind fun y4 =>
      (spec_l1Sign (IntKind.i64.wrap (y3 - y4))).bind fun y5 =>
      fin (y5, true)))
def spec_ComparePlans (x0 : DJob) (x1 : DPlan) (x2 : DPlan) : Option (Int × Bool) := spec_ComparePlansK some x0 x1 x2
theorem p25 {R : Type} (fin : Int × Bool → Option R) (x0 : DJob) (x1 : DPlan) (x2 : DPlan) : Par fin (spec_ComparePlansK some x0 x1 x2) (spec_ComparePlansK fin x0 x1 x2) := by
  unfold spec_ComparePlansK
  repeat' (first | exact .fin | exact .none | refine .cond ?_ ?_ | refine .bind fun _ => ?_ | refine .sum (fun _ => ?_) fun _ => ?_)
def c25 : Callee := mkC [.agg [.ro TJob], .agg [.ro TPlan], .agg [.ro TPlan]] 2 [.one (.ro (.int .i64)), .one (.ro .bool)] fun x => spec_ComparePlans x.1 x.2.1 x.2.2
theorem e25 (x : PK.dens [.agg [.ro TJob], .agg [.ro TPlan], .agg [.ro TPlan]]) : evalFn Try.prog EL25 or0 Try.f25 (PK.outs [.agg [.ro TJob], .agg [.ro TPlan], .agg [.ro TPlan]] x) =
    spec_ComparePlansK (fun y => some (tupOf ((PK.outs [.one (.ro (.int .i64)), .one (.ro .bool)] y).take 2), (PK.outs [.one (.ro (.int .i64)), .one (.ro .bool)] y).drop 2)) x.1 x.2.1 x.2.2 := by kernel_rfl
theorem k25 : CalleeOk Try.prog 25 c25 := callee_mk Try.func25 (code := codeOf Try.f25) (by kernel_rfl) vL25 mixed (LoOk.nil (by kernel_rfl)) fun x y h => (e25 x).trans (p25 _ x.1 x.2.1 x.2.2 y h)

/-- cmp.isNaN[int] -/
def EL88 : Nat → Option Callee := env0
theorem vL88 : EnvOk Try.prog EL88 := EnvOk.nil
def cmp_isNaN_intK {R : Type} (fin : Bool → Option R) (x0 : Int) : Option R :=
  fin (x0 != x0)
def cmp_isNaN_int (x0 : Int) : Option (Bool) := cmp_isNaN_intK some x0
theorem p88 {R : Type} (fin : Bool → Option R) (x0 : Int) : Par fin (cmp_isNaN_intK some x0) (cmp_isNaN_intK fin x0) := by
  unfold cmp_isNaN_intK
  repeat' (first | exact .fin | exact .none | refine .cond ?_ ?_ | refine .bind fun _ => ?_ | refine .sum (fun _ => ?_) fun _ => ?_)
def c88 : Callee := mkC [.one (.ro (.int .i64))] 1 [.one (.ro .bool)] fun x => cmp_isNaN_int x
theorem e88 (x : PK.dens [.one (.ro (.int .i64))]) : evalFn Try.prog EL88 or0 Try.f88 (PK.outs [.one (.ro (.int .i64))] x) =
    cmp_isNaN_intK (fun y => some (tupOf ((PK.outs [.one (.ro .bool)] y).take 1), (PK.outs [.one (.ro .bool)] y).drop 1)) x := by kernel_rfl
theorem k88 : CalleeOk Try.prog 88 c88 := callee_mk Try.func88 (code := codeOf Try.f88) (by kernel_rfl) vL88 mixed (LoOk.nil (by kernel_rfl)) fun x y h => (e88 x).trans (p88 _ x y h)

/-- cmp.Compare[int] -/
def EL61 : Nat → Option Callee := addE 88 c88 env0
theorem vL61 : EnvOk Try.prog EL61 := EnvOk.nil.add Try.func88 rfl (by kernel_rfl) k88
def cmp_Compare_intK {R : Type} (fin : Int → Option R) (x0 : Int) (x1 : Int) : Option R :=
  (cmp_isNaN_int x0).bind fun y1 =>
  (cmp_isNaN_int x1).bind fun y2 =>
  cond (y1)
  (cond (y2)
    (fin 0)
    (fin (-1)))
  (cond (y2)
    (fin 1)
    (cond (decide (x0 < x1))
      (fin (-1))
      (cond (decide (x0 > x1))
        (fin 1)
        (fin 0))))
def cmp_Compare_int (x0 : Int) (x1 : Int) : Option (Int) := cmp_Compare_intK some x0 x1
theorem p61 {R : Type} (fin : Int → Option R) (x0 : Int) (x1 : Int) : Par fin (cmp_Compare_intK some x0 x1) (cmp_Compare_intK fin x0 x1) := by
  unfold cmp_Compare_intK
  repeat' (first | exact .fin | exact .none | refine .cond ?_ ?_ | refine .bind fun _ => ?_ | refine .sum (fun _ => ?_) fun _ => ?_)
def c61 : Callee := mkC [.one (.ro (.int .i64)), .one (.ro (.int .i64))] 1 [.one (.ro (.int .i64))] fun x => cmp_Compare_int x.1 x.2
theorem e61 (x : PK.dens [.one (.ro (.int .i64)), .one (.ro (.int .i64))]) : evalFn Try.prog EL61 or0 Try.f61 (PK.outs [.one (.ro (.int .i64)), .one (.ro (.int .i64))] x) =
    cmp_Compare_intK (fun y => some (tupOf ((PK.outs [.one (.ro (.int .i64))] y).take 1), (PK.outs [.one (.ro (.int .i64))] y).drop 1)) x.1 x.2 := by kernel_rfl
theorem k61 : CalleeOk Try.prog 61 c61 := callee_mk Try.func61 (code := codeOf Try.f61) (by kernel_rfl) vL61 mixed (LoOk.nil (by kernel_rfl)) fun x y h => (e61 x).trans (p61 _ x.1 x.2 y h)

/-- impl.ComparePlans -/
def EL26 : Nat → Option Callee := addE 61 c61 (addE 58 c58 (addE 57 c57 (addE 16 c16 env0)))
theorem vL26 : EnvOk Try.prog EL26 := (((EnvOk.nil.add Try.func16 rfl (by kernel_rfl) k16).add Try.func57 rfl (by kernel_rfl) k57).add Try.func58 rfl (by kernel_rfl) k58).add Try.func61 rfl (by kernel_rfl) k61
def impl_ComparePlansK {R : Type} (fin : Int × Bool → Option R) (x0 : DJob) (x1 : DPlan) (x2 : DPlan) : Option R :=
  (impl_IsSearchable x0).bind fun y1 =>
  cond (!y1)
  (fin (0, false))
  ((impl_isPlan x0 x1).bind fun y2 =>
    cond (!y2)
    (fin (0, false))
    ((impl_isPlan x0 x2).bind fun y3 =>
      cond (!y3)
      (fin (0, false))
      ((impl_scaledWorth x0 x1).bind fun y4 =>
        (impl_scaledWorth x0 x2).bind fun y5 =>
        (cmp_Compare_int y4 y5).bind fun y6 =>
        fin (y6, true))))
def impl_ComparePlans (x0 : DJob) (x1 : DPlan) (x2 : DPlan) : Option (Int × Bool) := impl_ComparePlansK some x0 x1 x2
theorem p26 {R : Type} (fin : Int × Bool → Option R) (x0 : DJob) (x1 : DPlan) (x2 : DPlan) : Par fin (impl_ComparePlansK some x0 x1 x2) (impl_ComparePlansK fin x0 x1 x2) := by
  unfold impl_ComparePlansK
  repeat' (first | exact .fin | exact .none | refine .cond ?_ ?_ | refine .bind fun _ => ?_ | refine .sum (fun _ => ?_) fun _ => ?_)
def c26 : Callee := mkC [.agg [.ro TJob], .agg [.ro TPlan], .agg [.ro TPlan]] 2 [.one (.ro (.int .i64)), .one (.ro .bool)] fun x => impl_ComparePlans x.1 x.2.1 x.2.2
theorem e26 (x : PK.dens [.agg [.ro TJob], .agg [.ro TPlan], .agg [.ro TPlan]]) : evalFn Try.prog EL26 or0 Try.f26 (PK.outs [.agg [.ro TJob], .agg [.ro TPlan], .agg [.ro TPlan]] x) =
    impl_ComparePlansK (fun y => some (tupOf ((PK.outs [.one (.ro (.int .i64)), .one (.ro .bool)] y).take 2), (PK.outs [.one (.ro (.int .i64)), .one (.ro .bool)] y).drop 2)) x.1 x.2.1 x.2.2 := by kernel_rfl
theorem k26 : CalleeOk Try.prog 26 c26 := callee_mk Try.func26 (code := codeOf Try.f26) (by kernel_rfl) vL26 mixed (LoOk.nil (by kernel_rfl)) fun x y h => (e26 x).trans (p26 _ x.1 x.2.1 x.2.2 y h)

/-- laws.FnExactComparePlans -/
def EL6 : Nat → Option Callee := addE 24 c24 (addE 17 c17 (addE 26 c26 (addE 25 c25 (addE 22 c22 (addE 15 c15 (addE 20 c20 (addE 13 c13 env0)))))))
theorem vL6 : EnvOk Try.prog EL6 := (((((((EnvOk.nil.add Try.func13 rfl (by kernel_rfl) k13).add Try.func20 rfl (by kernel_rfl) k20).add Try.func15 rfl (by kernel_rfl) k15).add Try.func22 rfl (by kernel_rfl) k22).add Try.func25 rfl (by kernel_rfl) k25).add Try.func26 rfl (by kernel_rfl) k26).add Try.func17 rfl (by kernel_rfl) k17).add Try.func24 rfl (by kernel_rfl) k24
def laws_FnExactComparePlansK {R : Type} (fin : Bool → Option R) (x0 : DJob) (x1 : DPlan) (x2 : DPlan) : Option R :=
  (laws_szJob x0 1048576).bind fun y1 =>
  cond (decide (y1 < 0))
  (fin true)
  ((laws_szPlan x1 y1).bind fun y2 =>
    cond (decide (y2 < 0))
    (fin true)
    ((laws_szPlan x2 y2).bind fun y3 =>
      cond (decide (y3 < 0))
      (fin true)
      ((laws_toJob x0).bind fun y4 =>
        (laws_toPlan x1).bind fun y5 =>
        (laws_toPlan x2).bind fun y6 =>
        (spec_ComparePlans (y4.1, (y4.2.1, (y4.2.2.1, ((y4.2.2.2.1, (y4.2.2.2.2.1, ())), (y4.2.2.2.2.2.1, (y4.2.2.2.2.2.2.1, (y4.2.2.2.2.2.2.2, ()))))))) (y5.1, (y5.2, ())) (y6.1, (y6.2, ()))).bind fun y7 =>
        (laws_toJob x0).bind fun y8 =>
        (laws_toPlan x1).bind fun y9 =>
        (laws_toPlan x2).bind fun y10 =>
        (impl_ComparePlans (y8.1, (y8.2.1, (y8.2.2.1, ((y8.2.2.2.1, (y8.2.2.2.2.1, ())), (y8.2.2.2.2.2.1, (y8.2.2.2.2.2.2.1, (y8.2.2.2.2.2.2.2, ()))))))) (y9.1, (y9.2, ())) (y10.1, (y10.2, ()))).bind fun y11 =>
        cond (y11.1 != y7.1)
        (fin false)
        (cond (!(y11.2 == y7.2))
          (fin false)
          ((laws_toJob x0).bind fun y12 =>
            (laws_eqJob (y8.1, (y8.2.1, (y8.2.2.1, ((y8.2.2.2.1, (y8.2.2.2.2.1, ())), (y8.2.2.2.2.2.1, (y8.2.2.2.2.2.2.1, (y8.2.2.2.2.2.2.2, ()))))))) (y12.1, (y12.2.1, (y12.2.2.1, ((y12.2.2.2.1, (y12.2.2.2.2.1, ())), (y12.2.2.2.2.2.1, (y12.2.2.2.2.2.2.1, (y12.2.2.2.2.2.2.2, ())))))))).bind fun y13 =>
            cond (!y13)
            (fin false)
            ((laws_toPlan x1).bind fun y14 =>
              (laws_eqPlan (y9.1, (y9.2, ())) (y14.1, (y14.2, ()))).bind fun y15 =>
              cond (!y15)
              (fin false)
              ((laws_toPlan x2).bind fun y16 =>
                (laws_eqPlan (y10.1, (y10.2, ())) (y16.1, (y16.2, ()))).bind fun y17 =>
                cond (!y17)
                (fin false)
                (fin true))))))))
def laws_FnExactComparePlans (x0 : DJob) (x1 : DPlan) (x2 : DPlan) : Option (Bool) := laws_FnExactComparePlansK some x0 x1 x2
theorem p6 {R : Type} (fin : Bool → Option R) (x0 : DJob) (x1 : DPlan) (x2 : DPlan) : Par fin (laws_FnExactComparePlansK some x0 x1 x2) (laws_FnExactComparePlansK fin x0 x1 x2) := by
  unfold laws_FnExactComparePlansK
  repeat' (first | exact .fin | exact .none | refine .cond ?_ ?_ | refine .bind fun _ => ?_ | refine .sum (fun _ => ?_) fun _ => ?_)
def c6 : Callee := mkC [.agg [.ro TJob], .agg [.ro TPlan], .agg [.ro TPlan]] 1 [.one (.ro .bool)] fun x => laws_FnExactComparePlans x.1 x.2.1 x.2.2
theorem e6 (x : PK.dens [.agg [.ro TJob], .agg [.ro TPlan], .agg [.ro TPlan]]) : evalFn Try.prog EL6 or0 Try.f6 (PK.outs [.agg [.ro TJob], .agg [.ro TPlan], .agg [.ro TPlan]] x) =
    laws_FnExactComparePlansK (fun y => some (tupOf ((PK.outs [.one (.ro .bool)] y).take 1), (PK.outs [.one (.ro .bool)] y).drop 1)) x.1 x.2.1 x.2.2 := by kernel_rfl
theorem k6 : CalleeOk Try.prog 6 c6 := callee_mk Try.func6 (code := codeOf Try.f6) (by kernel_rfl) vL6 mixed (LoOk.nil (by kernel_rfl)) fun x y h => (e6 x).trans (p6 _ x.1 x.2.1 x.2.2 y h)
end
end Go.OAI
