/- Contracts: GRelaxedPlan. -/
import Derived.Test.YtokaffjipngphaaGA
import Derived.Test.YtokaffjipngphaaGM
import Derived.Test.YtokaffjipngphaaGRe
namespace Go.OAI
open Go.Proofs
set_option linter.unusedVariables false
noncomputable section


/-- spec.RelaxedPlan -/
def EL17 : Nat → Option Callee := addE 57 c57 (addE 56 c56 env0)
theorem vL17 : EnvOk Try.prog EL17 := (EnvOk.nil.add Try.func56 rfl (by kernel_rfl) k56).add Try.func57 rfl (by kernel_rfl) k57
def spec_RelaxedPlanK {R : Type} (fin : (Int × (List Int)) × Bool → Option R) (x0 : DJob) (x1 : List Int) : Option R :=
  (spec_reGood x0 x1).bind fun y1 =>
  cond (!y1)
  (fin ((0, []), false))
  ((spec_rePlan x0 x1).bind fun y2 =>
    fin (y2, true))
def spec_RelaxedPlan (x0 : DJob) (x1 : List Int) : Option ((Int × (List Int)) × Bool) := spec_RelaxedPlanK some x0 x1
theorem p17 {R : Type} (fin : (Int × (List Int)) × Bool → Option R) (x0 : DJob) (x1 : List Int) : Par fin (spec_RelaxedPlanK some x0 x1) (spec_RelaxedPlanK fin x0 x1) := by
  unfold spec_RelaxedPlanK
  repeat' (first | exact .fin | exact .none | refine .cond ?_ ?_ | refine .bind fun _ => ?_ | refine .sum (fun _ => ?_) fun _ => ?_)
def or17 : Ora := { lo := lo0, fin := [.own (.cell 4 1) (.int .i64)] }
def c17 : Callee := mkC [.agg [.ro TJob], .one (.ro (.slice (.int .i64)))] 2 [.agg [.ro (.int .i64), .sl (.int .i64)], .one (.ro .bool)] fun x => spec_RelaxedPlan x.1 x.2
theorem e17 (x : PK.dens [.agg [.ro TJob], .one (.ro (.slice (.int .i64)))]) : evalFn Try.prog EL17 or17 Try.f17 (PK.outs [.agg [.ro TJob], .one (.ro (.slice (.int .i64)))] x) =
    spec_RelaxedPlanK (fun y => some (tupOf ((PK.outs [.agg [.ro (.int .i64), .sl (.int .i64)], .one (.ro .bool)] y).take 2), (PK.outs [.agg [.ro (.int .i64), .sl (.int .i64)], .one (.ro .bool)] y).drop 2)) x.1 x.2 := by kernel_rfl
theorem k17 : CalleeOk Try.prog 17 c17 := callee_mk Try.func17 (code := codeOf Try.f17) (by kernel_rfl) vL17 mixed (LoOk.nil (by kernel_rfl)) fun x y h => (e17 x).trans (p17 _ x.1 x.2 y h)

/-- impl.RelaxedPlan -/
def EL19 : Nat → Option Callee := addE 59 c59 (addE 58 c58 (addE 52 c52 env0))
theorem vL19 : EnvOk Try.prog EL19 := ((EnvOk.nil.add Try.func52 rfl (by kernel_rfl) k52).add Try.func58 rfl (by kernel_rfl) k58).add Try.func59 rfl (by kernel_rfl) k59
def impl_RelaxedPlanK {R : Type} (fin : (Int × (List Int)) × Bool → Option R) (x0 : DJob) (x1 : List Int) : Option R :=
  (impl_IsJob x0).bind fun y1 =>
  cond (!y1)
  (fin ((0, []), false))
  ((impl_areMultipliers x0 x1).bind fun y2 =>
    cond (!y2)
    (fin ((0, []), false))
    ((impl_relaxedPlan x0 x1).bind fun y3 =>
      fin (y3, true)))
def impl_RelaxedPlan (x0 : DJob) (x1 : List Int) : Option ((Int × (List Int)) × Bool) := impl_RelaxedPlanK some x0 x1
theorem p19 {R : Type} (fin : (Int × (List Int)) × Bool → Option R) (x0 : DJob) (x1 : List Int) : Par fin (impl_RelaxedPlanK some x0 x1) (impl_RelaxedPlanK fin x0 x1) := by
  unfold impl_RelaxedPlanK
  repeat' (first | exact .fin | exact .none | refine .cond ?_ ?_ | refine .bind fun _ => ?_ | refine .sum (fun _ => ?_) fun _ => ?_)
def or19 : Ora := { lo := lo0, fin := [.own (.cell 4 1) (.int .i64)] }
def c19 : Callee := mkC [.agg [.ro TJob], .one (.ro (.slice (.int .i64)))] 2 [.agg [.ro (.int .i64), .sl (.int .i64)], .one (.ro .bool)] fun x => impl_RelaxedPlan x.1 x.2
theorem e19 (x : PK.dens [.agg [.ro TJob], .one (.ro (.slice (.int .i64)))]) : evalFn Try.prog EL19 or19 Try.f19 (PK.outs [.agg [.ro TJob], .one (.ro (.slice (.int .i64)))] x) =
    impl_RelaxedPlanK (fun y => some (tupOf ((PK.outs [.agg [.ro (.int .i64), .sl (.int .i64)], .one (.ro .bool)] y).take 2), (PK.outs [.agg [.ro (.int .i64), .sl (.int .i64)], .one (.ro .bool)] y).drop 2)) x.1 x.2 := by kernel_rfl
theorem k19 : CalleeOk Try.prog 19 c19 := callee_mk Try.func19 (code := codeOf Try.f19) (by kernel_rfl) vL19 mixed (LoOk.nil (by kernel_rfl)) fun x y h => (e19 x).trans (p19 _ x.1 x.2 y h)

/-- laws.FnExactRelaxedPlan -/
def EL4 : Nat → Option Callee := addE 25 c25 (addE 24 c24 (addE 23 c23 (addE 22 c22 (addE 21 c21 (addE 16 c16 (addE 20 c20 (addE 19 c19 (addE 17 c17 (addE 18 c18 (addE 14 c14 (addE 12 c12 env0)))))))))))
theorem vL4 : EnvOk Try.prog EL4 := (((((((((((EnvOk.nil.add Try.func12 rfl (by kernel_rfl) k12).add Try.func14 rfl (by kernel_rfl) k14).add Try.func18 rfl (by kernel_rfl) k18).add Try.func17 rfl (by kernel_rfl) k17).add Try.func19 rfl (by kernel_rfl) k19).add Try.func20 rfl (by kernel_rfl) k20).add Try.func16 rfl (by kernel_rfl) k16).add Try.func21 rfl (by kernel_rfl) k21).add Try.func22 rfl (by kernel_rfl) k22).add Try.func23 rfl (by kernel_rfl) k23).add Try.func24 rfl (by kernel_rfl) k24).add Try.func25 rfl (by kernel_rfl) k25
def laws_FnExactRelaxedPlanK {R : Type} (fin : Bool → Option R) (x0 : DJob) (x1 : List Int) : Option R :=
  cond (decide ((x1.length : Int) > 1048576))
  (fin true)
  ((laws_szJob x0 1048576).bind fun y1 =>
    cond (decide (y1 < 0))
    (fin true)
    ((laws_toJob x0).bind fun y2 =>
      (laws_toIntS x1).bind fun y3 =>
      (spec_RelaxedPlan (y2.1, (y2.2.1, (y2.2.2.1, ((y2.2.2.2.1, (y2.2.2.2.2.1, ())), (y2.2.2.2.2.2.1, (y2.2.2.2.2.2.2.1, (y2.2.2.2.2.2.2.2, ()))))))) y3).bind fun y4 =>
      (laws_toJob x0).bind fun y5 =>
      (laws_toIntS x1).bind fun y6 =>
      (impl_RelaxedPlan (y5.1, (y5.2.1, (y5.2.2.1, ((y5.2.2.2.1, (y5.2.2.2.2.1, ())), (y5.2.2.2.2.2.1, (y5.2.2.2.2.2.2.1, (y5.2.2.2.2.2.2.2, ()))))))) y6).bind fun y7 =>
      (laws_eqPlan (y7.1.1, (y7.1.2, ())) (y4.1.1, (y4.1.2, ()))).bind fun y8 =>
      cond (!y8)
      (fin false)
      (cond (!(y7.2 == y4.2))
        (fin false)
        ((laws_toJob x0).bind fun y9 =>
          (laws_eqJob (y5.1, (y5.2.1, (y5.2.2.1, ((y5.2.2.2.1, (y5.2.2.2.2.1, ())), (y5.2.2.2.2.2.1, (y5.2.2.2.2.2.2.1, (y5.2.2.2.2.2.2.2, ()))))))) (y9.1, (y9.2.1, (y9.2.2.1, ((y9.2.2.2.1, (y9.2.2.2.2.1, ())), (y9.2.2.2.2.2.1, (y9.2.2.2.2.2.2.1, (y9.2.2.2.2.2.2.2, ())))))))).bind fun y10 =>
          cond (!y10)
          (fin false)
          ((laws_toIntS x1).bind fun y11 =>
            (laws_eqIntS y6 y11).bind fun y12 =>
            cond (!y12)
            (fin false)
            ((laws_markJob y5 1).bind fun y13 =>
              (laws_markIntS y6 y13.1).bind fun y14 =>
              cond (decide (y14.1 < 0))
              (fin false)
              ((laws_eqPlan (y7.1.1, (y7.1.2, ())) (y4.1.1, (y4.1.2, ()))).bind fun y15 =>
                cond (!y15)
                (fin false)
                (cond (!(y7.2 == y4.2))
                  (fin false)
                  ((laws_markPlan y7.1 1).bind fun y16 =>
                    (laws_heldPlan (y7.1.1, (y16.2.2, ())) 1).bind fun y17 =>
                    cond (decide (y17 < 0))
                    (fin false)
                    (cond (y17 != y16.1)
                      (fin false)
                      ((laws_toJob x0).bind fun y18 =>
                        (laws_toIntS x1).bind fun y19 =>
                        (impl_RelaxedPlan (y18.1, (y18.2.1, (y18.2.2.1, ((y18.2.2.2.1, (y18.2.2.2.2.1, ())), (y18.2.2.2.2.2.1, (y18.2.2.2.2.2.2.1, (y18.2.2.2.2.2.2.2, ()))))))) y19).bind fun y20 =>
                        (laws_eqPlan (y20.1.1, (y20.1.2, ())) (y4.1.1, (y4.1.2, ()))).bind fun y21 =>
                        cond (!y21)
                        (fin false)
                        (cond (!(y20.2 == y4.2))
                          (fin false)
                          ((laws_heldPlan (y7.1.1, (y16.2.2, ())) 1).bind fun y22 =>
                            cond (decide (y22 < 0))
                            (fin false)
                            (cond (y22 != y16.1)
                              (fin false)
                              (fin true)))))))))))))))
def laws_FnExactRelaxedPlan (x0 : DJob) (x1 : List Int) : Option (Bool) := laws_FnExactRelaxedPlanK some x0 x1
theorem p4 {R : Type} (fin : Bool → Option R) (x0 : DJob) (x1 : List Int) : Par fin (laws_FnExactRelaxedPlanK some x0 x1) (laws_FnExactRelaxedPlanK fin x0 x1) := by
  unfold laws_FnExactRelaxedPlanK
  repeat' (first | exact .fin | exact .none | refine .cond ?_ ?_ | refine .bind fun _ => ?_ | refine .sum (fun _ => ?_) fun _ => ?_)
def c4 : Callee := mkC [.agg [.ro TJob], .one (.ro (.slice (.int .i64)))] 1 [.one (.ro .bool)] fun x => laws_FnExactRelaxedPlan x.1 x.2
theorem e4 (x : PK.dens [.agg [.ro TJob], .one (.ro (.slice (.int .i64)))]) : evalFn Try.prog EL4 or0 Try.f4 (PK.outs [.agg [.ro TJob], .one (.ro (.slice (.int .i64)))] x) =
    laws_FnExactRelaxedPlanK (fun y => some (tupOf ((PK.outs [.one (.ro .bool)] y).take 1), (PK.outs [.one (.ro .bool)] y).drop 1)) x.1 x.2 := by kernel_rfl
theorem k4 : CalleeOk Try.prog 4 c4 := callee_mk Try.func4 (code := codeOf Try.f4) (by kernel_rfl) vL4 mixed (LoOk.nil (by kernel_rfl)) fun x y h => (e4 x).trans (p4 _ x.1 x.2 y h)
end
end Go.OAI
