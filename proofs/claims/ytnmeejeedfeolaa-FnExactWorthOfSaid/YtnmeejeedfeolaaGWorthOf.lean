/- Contracts: GWorthOf. -/
import Derived.Test.YtnmeejeedfeolaaGA
import Derived.Test.YtnmeejeedfeolaaGFr
import Derived.Test.YtnmeejeedfeolaaGW
namespace Go.OAI
open Go.Proofs
set_option linter.unusedVariables false
noncomputable section


/-- spec.woScale -/
def EL86 : Nat → Option Callee := addE 119 c119 env0
theorem vL86 : EnvOk Try.prog EL86 := EnvOk.nil.add Try.func119 rfl (by kernel_rfl) k119
def spec_woScaleK {R : Type} (fin : Int → Option R) (x0 : DJob) : Option R :=
  (spec_srPower x0.2.2.2.2.2.2.1 (IntKind.i64.wrap (x0.2.2.2.2.1 - 1))).bind fun y1 =>
  fin y1
def spec_woScale (x0 : DJob) : Option (Int) := spec_woScaleK some x0
theorem p86 {R : Type} (fin : Int → Option R) (x0 : DJob) : Par fin (spec_woScaleK some x0) (spec_woScaleK fin x0) := by
  unfold spec_woScaleK
  repeat' (first | exact .fin | exact .none | refine .cond ?_ ?_ | refine .bind fun _ => ?_ | refine .sum (fun _ => ?_) fun _ => ?_)
def c86 : Callee := mkC [.agg [.ro TJob]] 1 [.one (.ro (.int .i64))] fun x => spec_woScale x
theorem e86 (x : PK.dens [.agg [.ro TJob]]) : evalFn Try.prog EL86 or0 Try.f86 (PK.outs [.agg [.ro TJob]] x) =
    spec_woScaleK (fun y => some (tupOf ((PK.outs [.one (.ro (.int .i64))] y).take 1), (PK.outs [.one (.ro (.int .i64))] y).drop 1)) x := by kernel_rfl
theorem k86 : CalleeOk Try.prog 86 c86 := callee_mk Try.func86 (code := codeOf Try.f86) (by kernel_rfl) vL86 mixed (LoOk.nil (by kernel_rfl)) fun x y h => (e86 x).trans (p86 _ x y h)

/-- spec.WorthOf -/
def EL43 : Nat → Option Callee := addE 85 c85 (addE 86 c86 (addE 76 c76 (addE 74 c74 env0)))
theorem vL43 : EnvOk Try.prog EL43 := (((EnvOk.nil.add Try.func74 rfl (by kernel_rfl) k74).add Try.func76 rfl (by kernel_rfl) k76).add Try.func86 rfl (by kernel_rfl) k86).add Try.func85 rfl (by kernel_rfl) k85
def spec_WorthOfK {R : Type} (fin : Int × Int × Bool → Option R) (x0 : DJob) (x1 : DPlan) : Option R :=
  (spec_plBoth x0 x1).bind fun y1 =>
  cond (!y1)
  (fin (0, (0, false)))
  ((spec_srWorth x0 x1.2.1).bind fun y2 =>
    (spec_woScale x0).bind fun y3 =>
    (spec_woPart y2 y3).bind fun y4 =>
    fin (y4.1, (y4.2, true)))
def spec_WorthOf (x0 : DJob) (x1 : DPlan) : Option (Int × Int × Bool) := spec_WorthOfK some x0 x1
theorem p43 {R : Type} (fin : Int × Int × Bool → Option R) (x0 : DJob) (x1 : DPlan) : Par fin (spec_WorthOfK some x0 x1) (spec_WorthOfK fin x0 x1) := by
  unfold spec_WorthOfK
  repeat' (first | exact .fin | exact .none | refine .cond ?_ ?_ | refine .bind fun _ => ?_ | refine .sum (fun _ => ?_) fun _ => ?_)
def c43 : Callee := mkC [.agg [.ro TJob], .agg [.ro TPlan]] 3 [.one (.ro (.int .i64)), .one (.ro (.int .i64)), .one (.ro .bool)] fun x => spec_WorthOf x.1 x.2
theorem e43 (x : PK.dens [.agg [.ro TJob], .agg [.ro TPlan]]) : evalFn Try.prog EL43 or0 Try.f43 (PK.outs [.agg [.ro TJob], .agg [.ro TPlan]] x) =
    spec_WorthOfK (fun y => some (tupOf ((PK.outs [.one (.ro (.int .i64)), .one (.ro (.int .i64)), .one (.ro .bool)] y).take 3), (PK.outs [.one (.ro (.int .i64)), .one (.ro (.int .i64)), .one (.ro .bool)] y).drop 3)) x.1 x.2 := by kernel_rfl
theorem k43 : CalleeOk Try.prog 43 c43 := callee_mk Try.func43 (code := codeOf Try.f43) (by kernel_rfl) vL43 mixed (LoOk.nil (by kernel_rfl)) fun x y h => (e43 x).trans (p43 _ x.1 x.2 y h)

/-- impl.WorthOf -/
def EL44 : Nat → Option Callee := addE 87 c87 (addE 89 c89 (addE 88 c88 (addE 78 c78 (addE 70 c70 env0))))
theorem vL44 : EnvOk Try.prog EL44 := ((((EnvOk.nil.add Try.func70 rfl (by kernel_rfl) k70).add Try.func78 rfl (by kernel_rfl) k78).add Try.func88 rfl (by kernel_rfl) k88).add Try.func89 rfl (by kernel_rfl) k89).add Try.func87 rfl (by kernel_rfl) k87
def impl_WorthOfK {R : Type} (fin : Int × Int × Bool → Option R) (x0 : DJob) (x1 : DPlan) : Option R :=
  (impl_IsJob x0).bind fun y1 =>
  cond (!y1)
  (fin (0, (0, false)))
  ((impl_isPlan x0 x1).bind fun y2 =>
    cond (!y2)
    (fin (0, (0, false)))
    ((impl_scaledWorth x0 x1).bind fun y3 =>
      (impl_power x0.2.2.2.2.2.2.1 (IntKind.i64.wrap (x0.2.2.2.2.1 - 1))).bind fun y4 =>
      (impl_lowest y3 y4).bind fun y5 =>
      fin (y5.1, (y5.2, true))))
def impl_WorthOf (x0 : DJob) (x1 : DPlan) : Option (Int × Int × Bool) := impl_WorthOfK some x0 x1
theorem p44 {R : Type} (fin : Int × Int × Bool → Option R) (x0 : DJob) (x1 : DPlan) : Par fin (impl_WorthOfK some x0 x1) (impl_WorthOfK fin x0 x1) := by
  unfold impl_WorthOfK
  repeat' (first | exact .fin | exact .none | refine .cond ?_ ?_ | refine .bind fun _ => ?_ | refine .sum (fun _ => ?_) fun _ => ?_)
def c44 : Callee := mkC [.agg [.ro TJob], .agg [.ro TPlan]] 3 [.one (.ro (.int .i64)), .one (.ro (.int .i64)), .one (.ro .bool)] fun x => impl_WorthOf x.1 x.2
theorem e44 (x : PK.dens [.agg [.ro TJob], .agg [.ro TPlan]]) : evalFn Try.prog EL44 or0 Try.f44 (PK.outs [.agg [.ro TJob], .agg [.ro TPlan]] x) =
    impl_WorthOfK (fun y => some (tupOf ((PK.outs [.one (.ro (.int .i64)), .one (.ro (.int .i64)), .one (.ro .bool)] y).take 3), (PK.outs [.one (.ro (.int .i64)), .one (.ro (.int .i64)), .one (.ro .bool)] y).drop 3)) x.1 x.2 := by kernel_rfl
theorem k44 : CalleeOk Try.prog 44 c44 := callee_mk Try.func44 (code := codeOf Try.f44) (by kernel_rfl) vL44 mixed (LoOk.nil (by kernel_rfl)) fun x y h => (e44 x).trans (p44 _ x.1 x.2 y h)

/-- laws.FnExactWorthOf -/
def EL9 : Nat → Option Callee := addE 30 c30 (addE 24 c24 (addE 44 c44 (addE 43 c43 (addE 28 c28 (addE 21 c21 (addE 26 c26 (addE 19 c19 env0)))))))
theorem vL9 : EnvOk Try.prog EL9 := (((((((EnvOk.nil.add Try.func19 rfl (by kernel_rfl) k19).add Try.func26 rfl (by kernel_rfl) k26).add Try.func21 rfl (by kernel_rfl) k21).add Try.func28 rfl (by kernel_rfl) k28).add Try.func43 rfl (by kernel_rfl) k43).add Try.func44 rfl (by kernel_rfl) k44).add Try.func24 rfl (by kernel_rfl) k24).add Try.func30 rfl (by kernel_rfl) k30
def laws_FnExactWorthOfK {R : Type} (fin : Bool → Option R) (x0 : DJob) (x1 : DPlan) : Option R :=
  (laws_szJob x0 1048576).bind fun y1 =>
  cond (decide (y1 < 0))
  (fin true)
  ((laws_szPlan x1 y1).bind fun y2 =>
    cond (decide (y2 < 0))
    (fin true)
    ((laws_toJob x0).bind fun y3 =>
      (laws_toPlan x1).bind fun y4 =>
      (spec_WorthOf (y3.1, (y3.2.1, (y3.2.2.1, ((y3.2.2.2.1, (y3.2.2.2.2.1, ())), (y3.2.2.2.2.2.1, (y3.2.2.2.2.2.2.1, (y3.2.2.2.2.2.2.2, ()))))))) (y4.1, (y4.2, ()))).bind fun y5 =>
      (laws_toJob x0).bind fun y6 =>
      (laws_toPlan x1).bind fun y7 =>
      (impl_WorthOf (y6.1, (y6.2.1, (y6.2.2.1, ((y6.2.2.2.1, (y6.2.2.2.2.1, ())), (y6.2.2.2.2.2.1, (y6.2.2.2.2.2.2.1, (y6.2.2.2.2.2.2.2, ()))))))) (y7.1, (y7.2, ()))).bind fun y8 =>
      cond (y8.1 != y5.1)
      (fin false)
      (cond (y8.2.1 != y5.2.1)
        (fin false)
        (cond (!(y8.2.2 == y5.2.2))
          (fin false)
          ((laws_toJob x0).bind fun y9 =>
            (laws_eqJob (y6.1, (y6.2.1, (y6.2.2.1, ((y6.2.2.2.1, (y6.2.2.2.2.1, ())), (y6.2.2.2.2.2.1, (y6.2.2.2.2.2.2.1, (y6.2.2.2.2.2.2.2, ()))))))) (y9.1, (y9.2.1, (y9.2.2.1, ((y9.2.2.2.1, (y9.2.2.2.2.1, ())), (y9.2.2.2.2.2.1, (y9.2.2.2.2.2.2.1, (y9.2.2.2.2.2.2.2, ())))))))).bind fun y10 =>
            cond (!y10)
            (fin false)
            ((laws_toPlan x1).bind fun y11 =>
              (laws_eqPlan (y7.1, (y7.2, ())) (y11.1, (y11.2, ()))).bind fun y12 =>
              cond (!y12)
              (fin false)
              (fin true)))))))
def laws_FnExactWorthOf (x0 : DJob) (x1 : DPlan) : Option (Bool) := laws_FnExactWorthOfK some x0 x1
theorem p9 {R : Type} (fin : Bool → Option R) (x0 : DJob) (x1 : DPlan) : Par fin (laws_FnExactWorthOfK some x0 x1) (laws_FnExactWorthOfK fin x0 x1) := by
  unfold laws_FnExactWorthOfK
  repeat' (first | exact .fin | exact .none | refine .cond ?_ ?_ | refine .bind fun _ => ?_ | refine .sum (fun _ => ?_) fun _ => ?_)
def c9 : Callee := mkC [.agg [.ro TJob], .agg [.ro TPlan]] 1 [.one (.ro .bool)] fun x => laws_FnExactWorthOf x.1 x.2
theorem e9 (x : PK.dens [.agg [.ro TJob], .agg [.ro TPlan]]) : evalFn Try.prog EL9 or0 Try.f9 (PK.outs [.agg [.ro TJob], .agg [.ro TPlan]] x) =
    laws_FnExactWorthOfK (fun y => some (tupOf ((PK.outs [.one (.ro .bool)] y).take 1), (PK.outs [.one (.ro .bool)] y).drop 1)) x.1 x.2 := by kernel_rfl
theorem k9 : CalleeOk Try.prog 9 c9 := callee_mk Try.func9 (code := codeOf Try.f9) (by kernel_rfl) vL9 mixed (LoOk.nil (by kernel_rfl)) fun x y h => (e9 x).trans (p9 _ x.1 x.2 y h)
end
end Go.OAI
