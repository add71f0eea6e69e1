/- Contracts: GBestMove. -/
import Derived.Test.YtnmeejeedfeolaaGA
import Derived.Test.YtnmeejeedfeolaaGK
import Derived.Test.YtnmeejeedfeolaaGBm
namespace Go.OAI
open Go.Proofs
set_option linter.unusedVariables false
noncomputable section


/-- spec.BestMove -/
def EL54 : Nat → Option Callee := addE 106 c106 (addE 100 c100 env0)
theorem vL54 : EnvOk Try.prog EL54 := (EnvOk.nil.add Try.func100 rfl (by kernel_rfl) k100).add Try.func106 rfl (by kernel_rfl) k106
def spec_BestMoveK {R : Type} (fin : Int × Int × Int × Bool → Option R) (x0 : DJob) (x1 : DPlan) : Option R :=
  (spec_wiGood x0 x1).bind fun y1 =>
  cond (!y1)
  (fin (0, (0, (0, false))))
  ((spec_wiMove x0 x1).bind fun y2 =>
    fin (y2.1, (y2.2.1, (y2.2.2, decide (y2.2.2 > 0)))))
def spec_BestMove (x0 : DJob) (x1 : DPlan) : Option (Int × Int × Int × Bool) := spec_BestMoveK some x0 x1
theorem p54 {R : Type} (fin : Int × Int × Int × Bool → Option R) (x0 : DJob) (x1 : DPlan) : Par fin (spec_BestMoveK some x0 x1) (spec_BestMoveK fin x0 x1) := by
  unfold spec_BestMoveK
  repeat' (first | exact .fin | exact .none | refine .cond ?_ ?_ | refine .bind fun _ => ?_ | refine .sum (fun _ => ?_) fun _ => ?_)
def c54 : Callee := mkC [.agg [.ro TJob], .agg [.ro TPlan]] 4 [.one (.ro (.int .i64)), .one (.ro (.int .i64)), .one (.ro (.int .i64)), .one (.ro .bool)] fun x => spec_BestMove x.1 x.2
theorem e54 (x : PK.dens [.agg [.ro TJob], .agg [.ro TPlan]]) : evalFn Try.prog EL54 or0 Try.f54 (PK.outs [.agg [.ro TJob], .agg [.ro TPlan]] x) =
    spec_BestMoveK (fun y => some (tupOf ((PK.outs [.one (.ro (.int .i64)), .one (.ro (.int .i64)), .one (.ro (.int .i64)), .one (.ro .bool)] y).take 4), (PK.outs [.one (.ro (.int .i64)), .one (.ro (.int .i64)), .one (.ro (.int .i64)), .one (.ro .bool)] y).drop 4)) x.1 x.2 := by kernel_rfl
theorem k54 : CalleeOk Try.prog 54 c54 := callee_mk Try.func54 (code := codeOf Try.f54) (by kernel_rfl) vL54 mixed (LoOk.nil (by kernel_rfl)) fun x y h => (e54 x).trans (p54 _ x.1 x.2 y h)

/-- impl.BestMove -/
def EL55 : Nat → Option Callee := addE 107 c107 (addE 102 c102 env0)
theorem vL55 : EnvOk Try.prog EL55 := (EnvOk.nil.add Try.func102 rfl (by kernel_rfl) k102).add Try.func107 rfl (by kernel_rfl) k107
def impl_BestMoveK {R : Type} (fin : Int × Int × Int × Bool → Option R) (x0 : DJob) (x1 : DPlan) : Option R :=
  (impl_isKept x0 x1).bind fun y1 =>
  cond (!y1)
  (fin (0, (0, (0, false))))
  ((impl_bestMove x0 x1).bind fun y2 =>
    fin y2)
def impl_BestMove (x0 : DJob) (x1 : DPlan) : Option (Int × Int × Int × Bool) := impl_BestMoveK some x0 x1
theorem p55 {R : Type} (fin : Int × Int × Int × Bool → Option R) (x0 : DJob) (x1 : DPlan) : Par fin (impl_BestMoveK some x0 x1) (impl_BestMoveK fin x0 x1) := by
  unfold impl_BestMoveK
  repeat' (first | exact .fin | exact .none | refine .cond ?_ ?_ | refine .bind fun _ => ?_ | refine .sum (fun _ => ?_) fun _ => ?_)
def c55 : Callee := mkC [.agg [.ro TJob], .agg [.ro TPlan]] 4 [.one (.ro (.int .i64)), .one (.ro (.int .i64)), .one (.ro (.int .i64)), .one (.ro .bool)] fun x => impl_BestMove x.1 x.2
theorem e55 (x : PK.dens [.agg [.ro TJob], .agg [.ro TPlan]]) : evalFn Try.prog EL55 or0 Try.f55 (PK.outs [.agg [.ro TJob], .agg [.ro TPlan]] x) =
    impl_BestMoveK (fun y => some (tupOf ((PK.outs [.one (.ro (.int .i64)), .one (.ro (.int .i64)), .one (.ro (.int .i64)), .one (.ro .bool)] y).take 4), (PK.outs [.one (.ro (.int .i64)), .one (.ro (.int .i64)), .one (.ro (.int .i64)), .one (.ro .bool)] y).drop 4)) x.1 x.2 := by kernel_rfl
theorem k55 : CalleeOk Try.prog 55 c55 := callee_mk Try.func55 (code := codeOf Try.f55) (by kernel_rfl) vL55 mixed (LoOk.nil (by kernel_rfl)) fun x y h => (e55 x).trans (p55 _ x.1 x.2 y h)

/-- laws.FnExactBestMove -/
def EL14 : Nat → Option Callee := addE 30 c30 (addE 24 c24 (addE 55 c55 (addE 54 c54 (addE 28 c28 (addE 21 c21 (addE 26 c26 (addE 19 c19 env0)))))))
theorem vL14 : EnvOk Try.prog EL14 := (((((((EnvOk.nil.add Try.func19 rfl (by kernel_rfl) k19).add Try.func26 rfl (by kernel_rfl) k26).add Try.func21 rfl (by kernel_rfl) k21).add Try.func28 rfl (by kernel_rfl) k28).add Try.func54 rfl (by kernel_rfl) k54).add Try.func55 rfl (by kernel_rfl) k55).add Try.func24 rfl (by kernel_rfl) k24).add Try.func30 rfl (by kernel_rfl) k30
def laws_FnExactBestMoveK {R : Type} (fin : Bool → Option R) (x0 : DJob) (x1 : DPlan) : Option R :=
  (laws_szJob x0 1048576).bind fun y1 =>
  cond (decide (y1 < 0))
  (fin true)
  ((laws_szPlan x1 y1).bind fun y2 =>
    cond (decide (y2 < 0))
    (fin true)
    ((laws_toJob x0).bind fun y3 =>
      (laws_toPlan x1).bind fun y4 =>
      (spec_BestMove (y3.1, (y3.2.1, (y3.2.2.1, ((y3.2.2.2.1, (y3.2.2.2.2.1, ())), (y3.2.2.2.2.2.1, (y3.2.2.2.2.2.2.1, (y3.2.2.2.2.2.2.2, ()))))))) (y4.1, (y4.2, ()))).bind fun y5 =>
      (laws_toJob x0).bind fun y6 =>
      (laws_toPlan x1).bind fun y7 =>
      (impl_BestMove (y6.1, (y6.2.1, (y6.2.2.1, ((y6.2.2.2.1, (y6.2.2.2.2.1, ())), (y6.2.2.2.2.2.1, (y6.2.2.2.2.2.2.1, (y6.2.2.2.2.2.2.2, ()))))))) (y7.1, (y7.2, ()))).bind fun y8 =>
      cond (y8.1 != y5.1)
      (fin false)
      (cond (y8.2.1 != y5.2.1)
        (fin false)
        (cond (y8.2.2.1 != y5.2.2.1)
          (fin false)
          (cond (!(y8.2.2.2 == y5.2.2.2))
            (fin false)
            ((laws_toJob x0).bind fun y9 =>
              (laws_eqJob (y6.1, (y6.2.1, (y6.2.2.1, ((y6.2.2.2.1, (y6.2.2.2.2.1, ())), (y6.2.2.2.2.2.1, (y6.2.2.2.2.2.2.1, (y6.2.2.2.2.2.2.2, ()))))))) (y9.1, (y9.2.1, (y9.2.2.1, ((y9.2.2.2.1, (y9.2.2.2.2.1, ())), (y9.2.2.2.2.2.1, (y9.2.2.2.2.2.2.1, (y9.2.2.2.2.2.2.2, ())))))))).bind fun y10 =>
              cond (!y10)
              (fin false)
              ((laws_toPlan x1).bind fun y11 =>
                (laws_eqPlan (y7.1, (y7.2, ())) (y11.1, (y11.2, ()))).bind fun y12 =>
                cond (!y12)
                (fin false)
                (fin true))))))))
def laws_FnExactBestMove (x0 : DJob) (x1 : DPlan) : Option (Bool) := laws_FnExactBestMoveK some x0 x1
theorem p14 {R : Type} (fin : Bool → Option R) (x0 : DJob) (x1 : DPlan) : Par fin (laws_FnExactBestMoveK some x0 x1) (laws_FnExactBestMoveK fin x0 x1) := by
  unfold laws_FnExactBestMoveK
  repeat' (first | exact .fin | exact .none | refine .cond ?_ ?_ | refine .bind fun _ => ?_ | refine .sum (fun _ => ?_) fun _ => ?_)
def c14 : Callee := mkC [.agg [.ro TJob], .agg [.ro TPlan]] 1 [.one (.ro .bool)] fun x => laws_FnExactBestMove x.1 x.2
theorem e14 (x : PK.dens [.agg [.ro TJob], .agg [.ro TPlan]]) : evalFn Try.prog EL14 or0 Try.f14 (PK.outs [.agg [.ro TJob], .agg [.ro TPlan]] x) =
    laws_FnExactBestMoveK (fun y => some (tupOf ((PK.outs [.one (.ro .bool)] y).take 1), (PK.outs [.one (.ro .bool)] y).drop 1)) x.1 x.2 := by kernel_rfl
theorem k14 : CalleeOk Try.prog 14 c14 := callee_mk Try.func14 (code := codeOf Try.f14) (by kernel_rfl) vL14 mixed (LoOk.nil (by kernel_rfl)) fun x y h => (e14 x).trans (p14 _ x.1 x.2 y h)
end
end Go.OAI
