/- Contracts: GBestPlan. -/
import Derived.Test.YtaiopbdbnellhaaGA
import Derived.Test.YtaiopbdbnellhaaGSr
import Derived.Test.YtaiopbdbnellhaaGRootBound
import Derived.Test.YtaiopbdbnellhaaGSearchPlan
namespace Go.OAI
open Go.Proofs
set_option linter.unusedVariables false
noncomputable section


/-- spec.srBest -/
def EL67 : Nat → Option Callee := addE 70 c70 (addE 45 c45 env0)
theorem vL67 : EnvOk Try.prog EL67 := (EnvOk.nil.add Try.func45 rfl (by kernel_rfl) k45).add Try.func70 rfl (by kernel_rfl) k70
def spec_srBestK {R : Type} (fin : ((Unit × Unit) ⊕ (((List (List Int)) × (List Int) × (List Int) × Int × Int × Int × Int × Int × Int × (List Int) × Int × Int × Int) × Bool)) → Option R) (x0 : DJob) : Option R :=
  (spec_srGood x0).bind fun y1 =>
  cond (!y1)
  (fin (.inl ((), ())))
  ((spec_srSearch x0 20001).bind fun y2 =>
    fin (.inr (y2, decide (y2.2.2.2.2.2.2.2.2.2.2.2.2 ≤ 20000))))
def spec_srBest (x0 : DJob) : Option ((Unit × Unit) ⊕ (((List (List Int)) × (List Int) × (List Int) × Int × Int × Int × Int × Int × Int × (List Int) × Int × Int × Int) × Bool)) := spec_srBestK some x0
theorem p67 {R : Type} (fin : ((Unit × Unit) ⊕ (((List (List Int)) × (List Int) × (List Int) × Int × Int × Int × Int × Int × Int × (List Int) × Int × Int × Int) × Bool)) → Option R) (x0 : DJob) : Par fin (spec_srBestK some x0) (spec_srBestK fin x0) := by
  unfold spec_srBestK
  repeat' (first | exact .fin | exact .none | refine .cond ?_ ?_ | refine .bind fun _ => ?_ | refine .sum (fun _ => ?_) fun _ => ?_)
def c67 : Callee := mkS [.agg [.ro TJob]] 2 [.gone, .lit false] [.box [.ro (.slice (.slice (.int .i64))), .ro (.slice (.int .i64)), .ro (.slice (.int .i64)), .ro (.int .i64), .ro (.int .i64), .ro (.int .i64), .ro (.int .i64), .ro (.int .i64), .ro (.int .i64), .ro (.slice (.int .i64)), .ro (.int .i64), .ro (.int .i64), .ro (.int .i64)], .one (.ro .bool)] fun x => spec_srBest x
theorem e67 (x : PK.dens [.agg [.ro TJob]]) : evalFn Try.prog EL67 or0 Try.f67 (PK.outs [.agg [.ro TJob]] x) =
    spec_srBestK (finS 2 [.gone, .lit false] [.box [.ro (.slice (.slice (.int .i64))), .ro (.slice (.int .i64)), .ro (.slice (.int .i64)), .ro (.int .i64), .ro (.int .i64), .ro (.int .i64), .ro (.int .i64), .ro (.int .i64), .ro (.int .i64), .ro (.slice (.int .i64)), .ro (.int .i64), .ro (.int .i64), .ro (.int .i64)], .one (.ro .bool)]) x := by kernel_rfl
theorem k67 : CalleeOk Try.prog 67 c67 := callee_mkS Try.func67 (code := codeOf Try.f67) (by kernel_rfl) vL67 mixed (LoOk.nil (by kernel_rfl)) fun x y h => (e67 x).trans (p67 _ x y h)

/-- spec.BestPlan -/
def EL36 : Nat → Option Callee := addE 71 c71 (addE 67 c67 env0)
theorem vL36 : EnvOk Try.prog EL36 := (EnvOk.nil.add Try.func67 rfl (by kernel_rfl) k67).add Try.func71 rfl (by kernel_rfl) k71
def spec_BestPlanK {R : Type} (fin : (Int × (List Int)) × Int × Bool → Option R) (x0 : DJob) : Option R :=
  (spec_srBest x0).bind fun y1 =>
  sumO y1 (fun y2 =>
  fin ((0, []), (0, false)))
  (fun y3 =>
  cond (!y3.2)
    (fin ((0, []), (0, false)))
    ((spec_l1Own y3.1.2.2.2.2.2.2.2.2.2.1).bind fun y4 =>
      fin ((x0.2.2.2.2.1, y4), (y3.1.2.2.2.2.2.2.2.2.2.2.1, true))))
def spec_BestPlan (x0 : DJob) : Option ((Int × (List Int)) × Int × Bool) := spec_BestPlanK some x0
theorem p36 {R : Type} (fin : (Int × (List Int)) × Int × Bool → Option R) (x0 : DJob) : Par fin (spec_BestPlanK some x0) (spec_BestPlanK fin x0) := by
  unfold spec_BestPlanK
  repeat' (first | exact .fin | exact .none | refine .cond ?_ ?_ | refine .bind fun _ => ?_ | refine .sum (fun _ => ?_) fun _ => ?_)
def or36 : Ora := { lo := lo0, fin := [.own (.cell 2 1) (.int .i64)] }
def c36 : Callee := mkC [.agg [.ro TJob]] 3 [.agg [.ro (.int .i64), .sl (.int .i64)], .one (.ro (.int .i64)), .one (.ro .bool)] fun x => spec_BestPlan x
theorem e36 (x : PK.dens [.agg [.ro TJob]]) : evalFn Try.prog EL36 or36 Try.f36 (PK.outs [.agg [.ro TJob]] x) =
    spec_BestPlanK (fun y => some (tupOf ((PK.outs [.agg [.ro (.int .i64), .sl (.int .i64)], .one (.ro (.int .i64)), .one (.ro .bool)] y).take 3), (PK.outs [.agg [.ro (.int .i64), .sl (.int .i64)], .one (.ro (.int .i64)), .one (.ro .bool)] y).drop 3)) x := by kernel_rfl
theorem k36 : CalleeOk Try.prog 36 c36 := callee_mk Try.func36 (code := codeOf Try.f36) (by kernel_rfl) vL36 mixed (LoOk.nil (by kernel_rfl)) fun x y h => (e36 x).trans (p36 _ x y h)

/-- impl.BestPlan -/
def EL37 : Nat → Option Callee := addE 68 c68 (addE 54 c54 (addE 16 c16 env0))
theorem vL37 : EnvOk Try.prog EL37 := ((EnvOk.nil.add Try.func16 rfl (by kernel_rfl) k16).add Try.func54 rfl (by kernel_rfl) k54).add Try.func68 rfl (by kernel_rfl) k68
def impl_BestPlanK {R : Type} (fin : (Int × (List Int)) × Int × Bool → Option R) (x0 : DJob) : Option R :=
  (impl_IsSearchable x0).bind fun y1 =>
  cond (!y1)
  (fin ((0, []), (0, false)))
  ((impl_newSearch x0 20000).bind fun y2 =>
    (impl_planSearch_visit y2 0 0).bind fun y3 =>
    cond (y3.2.2.2.2.2.2.2.2.2.2.2.2.2.2.2.2.2.2)
    (fin ((0, []), (0, false)))
    (fin ((y3.2.2.2.2.2.2.2.2.2.2.2.2.1, y3.2.2.2.2.2.2.2.2.2.2.2.2.2.1), (y3.2.2.2.2.2.2.2.2.2.2.2.2.2.2.1, true))))
def impl_BestPlan (x0 : DJob) : Option ((Int × (List Int)) × Int × Bool) := impl_BestPlanK some x0
theorem p37 {R : Type} (fin : (Int × (List Int)) × Int × Bool → Option R) (x0 : DJob) : Par fin (impl_BestPlanK some x0) (impl_BestPlanK fin x0) := by
  unfold impl_BestPlanK
  repeat' (first | exact .fin | exact .none | refine .cond ?_ ?_ | refine .bind fun _ => ?_ | refine .sum (fun _ => ?_) fun _ => ?_)
def or37 : Ora := { lo := lo0, fin := [.own (.cell 2 1) (.int .i64)] }
def c37 : Callee := mkC [.agg [.ro TJob]] 3 [.agg [.ro (.int .i64), .sl (.int .i64)], .one (.ro (.int .i64)), .one (.ro .bool)] fun x => impl_BestPlan x
theorem e37 (x : PK.dens [.agg [.ro TJob]]) : evalFn Try.prog EL37 or37 Try.f37 (PK.outs [.agg [.ro TJob]] x) =
    impl_BestPlanK (fun y => some (tupOf ((PK.outs [.agg [.ro (.int .i64), .sl (.int .i64)], .one (.ro (.int .i64)), .one (.ro .bool)] y).take 3), (PK.outs [.agg [.ro (.int .i64), .sl (.int .i64)], .one (.ro (.int .i64)), .one (.ro .bool)] y).drop 3)) x := by kernel_rfl
theorem k37 : CalleeOk Try.prog 37 c37 := callee_mk Try.func37 (code := codeOf Try.f37) (by kernel_rfl) vL37 mixed (LoOk.nil (by kernel_rfl)) fun x y h => (e37 x).trans (p37 _ x y h)

/-- laws.FnExactBestPlan -/
def EL10 : Nat → Option Callee := addE 35 c35 (addE 34 c34 (addE 33 c33 (addE 17 c17 (addE 24 c24 (addE 37 c37 (addE 36 c36 (addE 15 c15 (addE 13 c13 env0))))))))
theorem vL10 : EnvOk Try.prog EL10 := ((((((((EnvOk.nil.add Try.func13 rfl (by kernel_rfl) k13).add Try.func15 rfl (by kernel_rfl) k15).add Try.func36 rfl (by kernel_rfl) k36).add Try.func37 rfl (by kernel_rfl) k37).add Try.func24 rfl (by kernel_rfl) k24).add Try.func17 rfl (by kernel_rfl) k17).add Try.func33 rfl (by kernel_rfl) k33).add Try.func34 rfl (by kernel_rfl) k34).add Try.func35 rfl (by kernel_rfl) k35
def laws_FnExactBestPlanK {R : Type} (fin : Bool → Option R) (x0 : DJob) : Option R :=
  (laws_szJob x0 1048576).bind fun y1 =>
  cond (decide (y1 < 0))
  (fin true)
  ((laws_toJob x0).bind fun y2 =>
    (spec_BestPlan (y2.1, (y2.2.1, (y2.2.2.1, ((y2.2.2.2.1, (y2.2.2.2.2.1, ())), (y2.2.2.2.2.2.1, (y2.2.2.2.2.2.2.1, (y2.2.2.2.2.2.2.2, ())))))))).bind fun y3 =>
    (laws_toJob x0).bind fun y4 =>
    (impl_BestPlan (y4.1, (y4.2.1, (y4.2.2.1, ((y4.2.2.2.1, (y4.2.2.2.2.1, ())), (y4.2.2.2.2.2.1, (y4.2.2.2.2.2.2.1, (y4.2.2.2.2.2.2.2, ())))))))).bind fun y5 =>
    (laws_eqPlan (y5.1.1, (y5.1.2, ())) (y3.1.1, (y3.1.2, ()))).bind fun y6 =>
    cond (!y6)
    (fin false)
    (cond (y5.2.1 != y3.2.1)
      (fin false)
      (cond (!(y5.2.2 == y3.2.2))
        (fin false)
        ((laws_toJob x0).bind fun y7 =>
          (laws_eqJob (y4.1, (y4.2.1, (y4.2.2.1, ((y4.2.2.2.1, (y4.2.2.2.2.1, ())), (y4.2.2.2.2.2.1, (y4.2.2.2.2.2.2.1, (y4.2.2.2.2.2.2.2, ()))))))) (y7.1, (y7.2.1, (y7.2.2.1, ((y7.2.2.2.1, (y7.2.2.2.2.1, ())), (y7.2.2.2.2.2.1, (y7.2.2.2.2.2.2.1, (y7.2.2.2.2.2.2.2, ())))))))).bind fun y8 =>
          cond (!y8)
          (fin false)
          ((laws_markJob y4 1).bind fun y9 =>
            cond (decide (y9.1 < 0))
            (fin false)
            ((laws_eqPlan (y5.1.1, (y5.1.2, ())) (y3.1.1, (y3.1.2, ()))).bind fun y10 =>
              cond (!y10)
              (fin false)
              (cond (y5.2.1 != y3.2.1)
                (fin false)
                (cond (!(y5.2.2 == y3.2.2))
                  (fin false)
                  ((laws_markPlan y5.1 1).bind fun y11 =>
                    (laws_heldPlan (y5.1.1, (y11.2.2, ())) 1).bind fun y12 =>
                    cond (decide (y12 < 0))
                    (fin false)
                    (cond (y12 != y11.1)
                      (fin false)
                      ((laws_toJob x0).bind fun y13 =>
                        (impl_BestPlan (y13.1, (y13.2.1, (y13.2.2.1, ((y13.2.2.2.1, (y13.2.2.2.2.1, ())), (y13.2.2.2.2.2.1, (y13.2.2.2.2.2.2.1, (y13.2.2.2.2.2.2.2, ())))))))).bind fun y14 =>
                        (laws_eqPlan (y14.1.1, (y14.1.2, ())) (y3.1.1, (y3.1.2, ()))).bind fun y15 =>
                        cond (!y15)
                        (fin false)
                        (cond (y14.2.1 != y3.2.1)
                          (fin false)
                          (cond (!(y14.2.2 == y3.2.2))
                            (fin false)
                            ((laws_heldPlan (y5.1.1, (y11.2.2, ())) 1).bind fun y16 =>
                              cond (decide (y16 < 0))
                              (fin false)
                              (cond (y16 != y11.1)
                                (fin false)
                                (fin true))))))))))))))))
def laws_FnExactBestPlan (x0 : DJob) : Option (Bool) := laws_FnExactBestPlanK some x0
theorem p10 {R : Type} (fin : Bool → Option R) (x0 : DJob) : Par fin (laws_FnExactBestPlanK some x0) (laws_FnExactBestPlanK fin x0) := by
  unfold laws_FnExactBestPlanK
  repeat' (first | exact .fin | exact .none | refine .cond ?_ ?_ | refine .bind fun _ => ?_ | refine .sum (fun _ => ?_) fun _ => ?_)
def c10 : Callee := mkC [.agg [.ro TJob]] 1 [.one (.ro .bool)] fun x => laws_FnExactBestPlan x
theorem e10 (x : PK.dens [.agg [.ro TJob]]) : evalFn Try.prog EL10 or0 Try.f10 (PK.outs [.agg [.ro TJob]] x) =
    laws_FnExactBestPlanK (fun y => some (tupOf ((PK.outs [.one (.ro .bool)] y).take 1), (PK.outs [.one (.ro .bool)] y).drop 1)) x := by kernel_rfl
theorem k10 : CalleeOk Try.prog 10 c10 := callee_mk Try.func10 (code := codeOf Try.f10) (by kernel_rfl) vL10 mixed (LoOk.nil (by kernel_rfl)) fun x y h => (e10 x).trans (p10 _ x y h)
end
end Go.OAI
