/- Contracts: GMoveGain. -/
import Derived.Test.YtnmeejeedfeolaaGA
import Derived.Test.YtnmeejeedfeolaaGW
import Derived.Test.YtnmeejeedfeolaaGF
namespace Go.OAI
open Go.Proofs
set_option linter.unusedVariables false
noncomputable section


/-- spec.MoveGain -/
def EL27 : Nat → Option Callee := addE 76 c76 (addE 77 c77 (addE 75 c75 (addE 74 c74 env0)))
theorem vL27 : EnvOk Try.prog EL27 := (((EnvOk.nil.add Try.func74 rfl (by kernel_rfl) k74).add Try.func75 rfl (by kernel_rfl) k75).add Try.func77 rfl (by kernel_rfl) k77).add Try.func76 rfl (by kernel_rfl) k76
def spec_MoveGainK {R : Type} (fin : Int × Bool → Option R) (x0 : DJob) (x1 : DPlan) (x2 : Int) (x3 : Int) : Option R :=
  (spec_plBoth x0 x1).bind fun y1 =>
  cond (!y1)
  (fin (0, false))
  ((spec_l1In x2 0 (IntKind.i64.wrap ((x0.1.length : Int) - 1))).bind fun y2 =>
    cond (!y2)
    (fin (0, false))
    ((spec_l1In x3 (-1) (IntKind.i64.wrap (x0.2.2.2.2.1 - 1))).bind fun y3 =>
      cond (!y3)
      (fin (0, false))
      ((spec_plWith x1 x2 x3).bind fun y4 =>
        (spec_srWorth x0 y4.2).bind fun y5 =>
        (spec_srWorth x0 x1.2.1).bind fun y6 =>
        fin (IntKind.i64.wrap (y5 - y6), true))))
def spec_MoveGain (x0 : DJob) (x1 : DPlan) (x2 : Int) (x3 : Int) : Option (Int × Bool) := spec_MoveGainK some x0 x1 x2 x3
theorem p27 {R : Type} (fin : Int × Bool → Option R) (x0 : DJob) (x1 : DPlan) (x2 : Int) (x3 : Int) : Par fin (spec_MoveGainK some x0 x1 x2 x3) (spec_MoveGainK fin x0 x1 x2 x3) := by
  unfold spec_MoveGainK
  repeat' (first | exact .fin | exact .none | refine .cond ?_ ?_ | refine .bind fun _ => ?_ | refine .sum (fun _ => ?_) fun _ => ?_)
def c27 : Callee := mkC [.agg [.ro TJob], .agg [.ro TPlan], .one (.ro (.int .i64)), .one (.ro (.int .i64))] 2 [.one (.ro (.int .i64)), .one (.ro .bool)] fun x => spec_MoveGain x.1 x.2.1 x.2.2.1 x.2.2.2
theorem e27 (x : PK.dens [.agg [.ro TJob], .agg [.ro TPlan], .one (.ro (.int .i64)), .one (.ro (.int .i64))]) : evalFn Try.prog EL27 or0 Try.f27 (PK.outs [.agg [.ro TJob], .agg [.ro TPlan], .one (.ro (.int .i64)), .one (.ro (.int .i64))] x) =
    spec_MoveGainK (fun y => some (tupOf ((PK.outs [.one (.ro (.int .i64)), .one (.ro .bool)] y).take 2), (PK.outs [.one (.ro (.int .i64)), .one (.ro .bool)] y).drop 2)) x.1 x.2.1 x.2.2.1 x.2.2.2 := by kernel_rfl
theorem k27 : CalleeOk Try.prog 27 c27 := callee_mk Try.func27 (code := codeOf Try.f27) (by kernel_rfl) vL27 mixed (LoOk.nil (by kernel_rfl)) fun x y h => (e27 x).trans (p27 _ x.1 x.2.1 x.2.2.1 x.2.2.2 y h)

/-- impl.MoveGain -/
def EL29 : Nat → Option Callee := addE 79 c79 (addE 78 c78 (addE 70 c70 env0))
theorem vL29 : EnvOk Try.prog EL29 := ((EnvOk.nil.add Try.func70 rfl (by kernel_rfl) k70).add Try.func78 rfl (by kernel_rfl) k78).add Try.func79 rfl (by kernel_rfl) k79
def impl_MoveGainK {R : Type} (fin : Int × Bool → Option R) (x0 : DJob) (x1 : DPlan) (x2 : Int) (x3 : Int) : Option R :=
  (impl_IsJob x0).bind fun y1 =>
  cond (!y1)
  (fin (0, false))
  ((impl_isPlan x0 x1).bind fun y2 =>
    cond (!y2)
    (fin (0, false))
    (cond (decide (x2 < 0))
      (fin (0, false))
      (cond (decide (x2 ≥ (x1.2.1.length : Int)))
        (fin (0, false))
        (cond (decide (x3 < (-1)))
          (fin (0, false))
          (cond (decide (x3 ≥ x0.2.2.2.2.1))
            (fin (0, false))
            ((lat x0.2.2.1 x2).bind fun e3 =>
              (impl_scaledFactor x0 x3).bind fun y4 =>
              (lat x1.2.1 x2).bind fun e5 =>
              (impl_scaledFactor x0 e5).bind fun y6 =>
              fin (IntKind.i64.wrap (e3 * (IntKind.i64.wrap (y4 - y6))), true)))))))
def impl_MoveGain (x0 : DJob) (x1 : DPlan) (x2 : Int) (x3 : Int) : Option (Int × Bool) := impl_MoveGainK some x0 x1 x2 x3
theorem p29 {R : Type} (fin : Int × Bool → Option R) (x0 : DJob) (x1 : DPlan) (x2 : Int) (x3 : Int) : Par fin (impl_MoveGainK some x0 x1 x2 x3) (impl_MoveGainK fin x0 x1 x2 x3) := by
  unfold impl_MoveGainK
  repeat' (first | exact .fin | exact .none | refine .cond ?_ ?_ | refine .bind fun _ => ?_ | refine .sum (fun _ => ?_) fun _ => ?_)
def c29 : Callee := mkC [.agg [.ro TJob], .agg [.ro TPlan], .one (.ro (.int .i64)), .one (.ro (.int .i64))] 2 [.one (.ro (.int .i64)), .one (.ro .bool)] fun x => impl_MoveGain x.1 x.2.1 x.2.2.1 x.2.2.2
theorem e29 (x : PK.dens [.agg [.ro TJob], .agg [.ro TPlan], .one (.ro (.int .i64)), .one (.ro (.int .i64))]) : evalFn Try.prog EL29 or0 Try.f29 (PK.outs [.agg [.ro TJob], .agg [.ro TPlan], .one (.ro (.int .i64)), .one (.ro (.int .i64))] x) =
    impl_MoveGainK (fun y => some (tupOf ((PK.outs [.one (.ro (.int .i64)), .one (.ro .bool)] y).take 2), (PK.outs [.one (.ro (.int .i64)), .one (.ro .bool)] y).drop 2)) x.1 x.2.1 x.2.2.1 x.2.2.2 := by kernel_rfl
theorem k29 : CalleeOk Try.prog 29 c29 := callee_mk Try.func29 (code := codeOf Try.f29) (by kernel_rfl) vL29 mixed (LoOk.nil (by kernel_rfl)) fun x y h => (e29 x).trans (p29 _ x.1 x.2.1 x.2.2.1 x.2.2.2 y h)

/-- laws.FnExactMoveGain -/
def EL4 : Nat → Option Callee := addE 30 c30 (addE 24 c24 (addE 29 c29 (addE 27 c27 (addE 28 c28 (addE 21 c21 (addE 26 c26 (addE 19 c19 env0)))))))
theorem vL4 : EnvOk Try.prog EL4 := (((((((EnvOk.nil.add Try.func19 rfl (by kernel_rfl) k19).add Try.func26 rfl (by kernel_rfl) k26).add Try.func21 rfl (by kernel_rfl) k21).add Try.func28 rfl (by kernel_rfl) k28).add Try.func27 rfl (by kernel_rfl) k27).add Try.func29 rfl (by kernel_rfl) k29).add Try.func24 rfl (by kernel_rfl) k24).add Try.func30 rfl (by kernel_rfl) k30
def laws_FnExactMoveGainK {R : Type} (fin : Bool → Option R) (x0 : DJob) (x1 : DPlan) (x2 : Int) (x3 : Int) : Option R :=
  (laws_szJob x0 1048576).bind fun y1 =>
  cond (decide (y1 < 0))
  (fin true)
  ((laws_szPlan x1 y1).bind fun y2 =>
    cond (decide (y2 < 0))
    (fin true)
    ((laws_toJob x0).bind fun y3 =>
      (laws_toPlan x1).bind fun y4 =>
      (spec_MoveGain (y3.1, (y3.2.1, (y3.2.2.1, ((y3.2.2.2.1, (y3.2.2.2.2.1, ())), (y3.2.2.2.2.2.1, (y3.2.2.2.2.2.2.1, (y3.2.2.2.2.2.2.2, ()))))))) (y4.1, (y4.2, ())) x2 x3).bind fun y5 =>
      (laws_toJob x0).bind fun y6 =>
      (laws_toPlan x1).bind fun y7 =>
      (impl_MoveGain (y6.1, (y6.2.1, (y6.2.2.1, ((y6.2.2.2.1, (y6.2.2.2.2.1, ())), (y6.2.2.2.2.2.1, (y6.2.2.2.2.2.2.1, (y6.2.2.2.2.2.2.2, ()))))))) (y7.1, (y7.2, ())) x2 x3).bind fun y8 =>
      cond (y8.1 != y5.1)
      (fin false)
      (cond (!(y8.2 == y5.2))
        (fin false)
        ((laws_toJob x0).bind fun y9 =>
          (laws_eqJob (y6.1, (y6.2.1, (y6.2.2.1, ((y6.2.2.2.1, (y6.2.2.2.2.1, ())), (y6.2.2.2.2.2.1, (y6.2.2.2.2.2.2.1, (y6.2.2.2.2.2.2.2, ()))))))) (y9.1, (y9.2.1, (y9.2.2.1, ((y9.2.2.2.1, (y9.2.2.2.2.1, ())), (y9.2.2.2.2.2.1, (y9.2.2.2.2.2.2.1, (y9.2.2.2.2.2.2.2, ())))))))).bind fun y10 =>
          cond (!y10)
          (fin false)
          ((laws_toPlan x1).bind fun y11 =>
            (laws_eqPlan (y7.1, (y7.2, ())) (y11.1, (y11.2, ()))).bind fun y12 =>
            cond (!y12)
            (fin false)
            (fin true))))))
def laws_FnExactMoveGain (x0 : DJob) (x1 : DPlan) (x2 : Int) (x3 : Int) : Option (Bool) := laws_FnExactMoveGainK some x0 x1 x2 x3
theorem p4 {R : Type} (fin : Bool → Option R) (x0 : DJob) (x1 : DPlan) (x2 : Int) (x3 : Int) : Par fin (laws_FnExactMoveGainK some x0 x1 x2 x3) (laws_FnExactMoveGainK fin x0 x1 x2 x3) := by
  unfold laws_FnExactMoveGainK
  repeat' (first | exact .fin | exact .none | refine .cond ?_ ?_ | refine .bind fun _ => ?_ | refine .sum (fun _ => ?_) fun _ => ?_)
def c4 : Callee := mkC [.agg [.ro TJob], .agg [.ro TPlan], .one (.ro (.int .i64)), .one (.ro (.int .i64))] 1 [.one (.ro .bool)] fun x => laws_FnExactMoveGain x.1 x.2.1 x.2.2.1 x.2.2.2
theorem e4 (x : PK.dens [.agg [.ro TJob], .agg [.ro TPlan], .one (.ro (.int .i64)), .one (.ro (.int .i64))]) : evalFn Try.prog EL4 or0 Try.f4 (PK.outs [.agg [.ro TJob], .agg [.ro TPlan], .one (.ro (.int .i64)), .one (.ro (.int .i64))] x) =
    laws_FnExactMoveGainK (fun y => some (tupOf ((PK.outs [.one (.ro .bool)] y).take 1), (PK.outs [.one (.ro .bool)] y).drop 1)) x.1 x.2.1 x.2.2.1 x.2.2.2 := by kernel_rfl
theorem k4 : CalleeOk Try.prog 4 c4 := callee_mk Try.func4 (code := codeOf Try.f4) (by kernel_rfl) vL4 mixed (LoOk.nil (by kernel_rfl)) fun x y h => (e4 x).trans (p4 _ x.1 x.2.1 x.2.2.1 x.2.2.2 y h)
end
end Go.OAI
