/- Contracts: GBoundGap. -/
import Derived.Test.YtokaffjipngphaaGA
import Derived.Test.YtokaffjipngphaaGW
import Derived.Test.YtokaffjipngphaaGF
import Derived.Test.YtokaffjipngphaaGM
import Derived.Test.YtokaffjipngphaaGRe
import Derived.Test.YtokaffjipngphaaGRb
namespace Go.OAI
open Go.Proofs
set_option linter.unusedVariables false
noncomputable section


/-- spec.BoundGap -/
def EL39 : Nat → Option Callee := addE 70 c70 (addE 61 c61 (addE 69 c69 (addE 68 c68 (addE 56 c56 env0))))
theorem vL39 : EnvOk Try.prog EL39 := ((((EnvOk.nil.add Try.func56 rfl (by kernel_rfl) k56).add Try.func68 rfl (by kernel_rfl) k68).add Try.func69 rfl (by kernel_rfl) k69).add Try.func61 rfl (by kernel_rfl) k61).add Try.func70 rfl (by kernel_rfl) k70
def spec_BoundGapK {R : Type} (fin : Int × Bool → Option R) (x0 : DJob) (x1 : List Int) (x2 : DPlan) : Option R :=
  (spec_reGood x0 x1).bind fun y1 =>
  cond (!y1)
  (fin (0, false))
  ((spec_plGood x0 x2).bind fun y2 =>
    cond (!y2)
    (fin (0, false))
    ((spec_plFeasible x0 x2).bind fun y3 =>
      cond (!y3)
      (fin (0, false))
      ((spec_reBound x0 x1).bind fun y4 =>
        (spec_srWorth x0 x2.2.1).bind fun y5 =>
        fin (IntKind.i64.wrap (y4 - y5), true))))
def spec_BoundGap (x0 : DJob) (x1 : List Int) (x2 : DPlan) : Option (Int × Bool) := spec_BoundGapK some x0 x1 x2
theorem p39 {R : Type} (fin : Int × Bool → Option R) (x0 : DJob) (x1 : List Int) (x2 : DPlan) : Par fin (spec_BoundGapK some x0 x1 x2) (spec_BoundGapK fin x0 x1 x2) := by
  unfold spec_BoundGapK
  repeat' (first | exact .fin | exact .none | refine .cond ?_ ?_ | refine .bind fun _ => ?_ | refine .sum (fun _ => ?_) fun _ => ?_)
def c39 : Callee := mkC [.agg [.ro TJob], .one (.ro (.slice (.int .i64))), .agg [.ro TPlan]] 2 [.one (.ro (.int .i64)), .one (.ro .bool)] fun x => spec_BoundGap x.1 x.2.1 x.2.2
theorem e39 (x : PK.dens [.agg [.ro TJob], .one (.ro (.slice (.int .i64))), .agg [.ro TPlan]]) : evalFn Try.prog EL39 or0 Try.f39 (PK.outs [.agg [.ro TJob], .one (.ro (.slice (.int .i64))), .agg [.ro TPlan]] x) =
    spec_BoundGapK (fun y => some (tupOf ((PK.outs [.one (.ro (.int .i64)), .one (.ro .bool)] y).take 2), (PK.outs [.one (.ro (.int .i64)), .one (.ro .bool)] y).drop 2)) x.1 x.2.1 x.2.2 := by kernel_rfl
theorem k39 : CalleeOk Try.prog 39 c39 := callee_mk Try.func39 (code := codeOf Try.f39) (by kernel_rfl) vL39 mixed (LoOk.nil (by kernel_rfl)) fun x y h => (e39 x).trans (p39 _ x.1 x.2.1 x.2.2 y h)

/-- impl.BoundGap -/
def EL41 : Nat → Option Callee := addE 73 c73 (addE 62 c62 (addE 59 c59 (addE 72 c72 (addE 71 c71 (addE 58 c58 (addE 52 c52 env0))))))
theorem vL41 : EnvOk Try.prog EL41 := ((((((EnvOk.nil.add Try.func52 rfl (by kernel_rfl) k52).add Try.func58 rfl (by kernel_rfl) k58).add Try.func71 rfl (by kernel_rfl) k71).add Try.func72 rfl (by kernel_rfl) k72).add Try.func59 rfl (by kernel_rfl) k59).add Try.func62 rfl (by kernel_rfl) k62).add Try.func73 rfl (by kernel_rfl) k73
def impl_BoundGapK {R : Type} (fin : Int × Bool → Option R) (x0 : DJob) (x1 : List Int) (x2 : DPlan) : Option R :=
  (impl_IsJob x0).bind fun y1 =>
  cond (!y1)
  (fin (0, false))
  ((impl_areMultipliers x0 x1).bind fun y2 =>
    cond (!y2)
    (fin (0, false))
    ((impl_isPlan x0 x2).bind fun y3 =>
      cond (!y3)
      (fin (0, false))
      ((impl_isFeasible x0 x2).bind fun y4 =>
        cond (!y4)
        (fin (0, false))
        ((impl_relaxedPlan x0 x1).bind fun y5 =>
          (impl_paidWorth x0 x1 (y5.1, (y5.2, ()))).bind fun y6 =>
          (impl_scaledWorth x0 x2).bind fun y7 =>
          fin (IntKind.i64.wrap (y6 - y7), true)))))
def impl_BoundGap (x0 : DJob) (x1 : List Int) (x2 : DPlan) : Option (Int × Bool) := impl_BoundGapK some x0 x1 x2
theorem p41 {R : Type} (fin : Int × Bool → Option R) (x0 : DJob) (x1 : List Int) (x2 : DPlan) : Par fin (impl_BoundGapK some x0 x1 x2) (impl_BoundGapK fin x0 x1 x2) := by
  unfold impl_BoundGapK
  repeat' (first | exact .fin | exact .none | refine .cond ?_ ?_ | refine .bind fun _ => ?_ | refine .sum (fun _ => ?_) fun _ => ?_)
def c41 : Callee := mkC [.agg [.ro TJob], .one (.ro (.slice (.int .i64))), .agg [.ro TPlan]] 2 [.one (.ro (.int .i64)), .one (.ro .bool)] fun x => impl_BoundGap x.1 x.2.1 x.2.2
theorem e41 (x : PK.dens [.agg [.ro TJob], .one (.ro (.slice (.int .i64))), .agg [.ro TPlan]]) : evalFn Try.prog EL41 or0 Try.f41 (PK.outs [.agg [.ro TJob], .one (.ro (.slice (.int .i64))), .agg [.ro TPlan]] x) =
    impl_BoundGapK (fun y => some (tupOf ((PK.outs [.one (.ro (.int .i64)), .one (.ro .bool)] y).take 2), (PK.outs [.one (.ro (.int .i64)), .one (.ro .bool)] y).drop 2)) x.1 x.2.1 x.2.2 := by kernel_rfl
theorem k41 : CalleeOk Try.prog 41 c41 := callee_mk Try.func41 (code := codeOf Try.f41) (by kernel_rfl) vL41 mixed (LoOk.nil (by kernel_rfl)) fun x y h => (e41 x).trans (p41 _ x.1 x.2.1 x.2.2 y h)

/-- laws.FnExactBoundGap -/
def EL9 : Nat → Option Callee := addE 20 c20 (addE 21 c21 (addE 16 c16 (addE 41 c41 (addE 39 c39 (addE 40 c40 (addE 18 c18 (addE 14 c14 (addE 38 c38 (addE 12 c12 env0)))))))))
theorem vL9 : EnvOk Try.prog EL9 := (((((((((EnvOk.nil.add Try.func12 rfl (by kernel_rfl) k12).add Try.func38 rfl (by kernel_rfl) k38).add Try.func14 rfl (by kernel_rfl) k14).add Try.func18 rfl (by kernel_rfl) k18).add Try.func40 rfl (by kernel_rfl) k40).add Try.func39 rfl (by kernel_rfl) k39).add Try.func41 rfl (by kernel_rfl) k41).add Try.func16 rfl (by kernel_rfl) k16).add Try.func21 rfl (by kernel_rfl) k21).add Try.func20 rfl (by kernel_rfl) k20
def laws_FnExactBoundGapK {R : Type} (fin : Bool → Option R) (x0 : DJob) (x1 : List Int) (x2 : DPlan) : Option R :=
  cond (decide ((x1.length : Int) > 1048576))
  (fin true)
  ((laws_szJob x0 1048576).bind fun y1 =>
    cond (decide (y1 < 0))
    (fin true)
    ((laws_szPlan x2 y1).bind fun y2 =>
      cond (decide (y2 < 0))
      (fin true)
      ((laws_toJob x0).bind fun y3 =>
        (laws_toIntS x1).bind fun y4 =>
        (laws_toPlan x2).bind fun y5 =>
        (spec_BoundGap (y3.1, (y3.2.1, (y3.2.2.1, ((y3.2.2.2.1, (y3.2.2.2.2.1, ())), (y3.2.2.2.2.2.1, (y3.2.2.2.2.2.2.1, (y3.2.2.2.2.2.2.2, ()))))))) y4 (y5.1, (y5.2, ()))).bind fun y6 =>
        (laws_toJob x0).bind fun y7 =>
        (laws_toIntS x1).bind fun y8 =>
        (laws_toPlan x2).bind fun y9 =>
        (impl_BoundGap (y7.1, (y7.2.1, (y7.2.2.1, ((y7.2.2.2.1, (y7.2.2.2.2.1, ())), (y7.2.2.2.2.2.1, (y7.2.2.2.2.2.2.1, (y7.2.2.2.2.2.2.2, ()))))))) y8 (y9.1, (y9.2, ()))).bind fun y10 =>
        cond (y10.1 != y6.1)
        (fin false)
        (cond (!(y10.2 == y6.2))
          (fin false)
          ((laws_toJob x0).bind fun y11 =>
            (laws_eqJob (y7.1, (y7.2.1, (y7.2.2.1, ((y7.2.2.2.1, (y7.2.2.2.2.1, ())), (y7.2.2.2.2.2.1, (y7.2.2.2.2.2.2.1, (y7.2.2.2.2.2.2.2, ()))))))) (y11.1, (y11.2.1, (y11.2.2.1, ((y11.2.2.2.1, (y11.2.2.2.2.1, ())), (y11.2.2.2.2.2.1, (y11.2.2.2.2.2.2.1, (y11.2.2.2.2.2.2.2, ())))))))).bind fun y12 =>
            cond (!y12)
            (fin false)
            ((laws_toIntS x1).bind fun y13 =>
              (laws_eqIntS y8 y13).bind fun y14 =>
              cond (!y14)
              (fin false)
              ((laws_toPlan x2).bind fun y15 =>
                (laws_eqPlan (y9.1, (y9.2, ())) (y15.1, (y15.2, ()))).bind fun y16 =>
                cond (!y16)
                (fin false)
                (fin true))))))))
def laws_FnExactBoundGap (x0 : DJob) (x1 : List Int) (x2 : DPlan) : Option (Bool) := laws_FnExactBoundGapK some x0 x1 x2
theorem p9 {R : Type} (fin : Bool → Option R) (x0 : DJob) (x1 : List Int) (x2 : DPlan) : Par fin (laws_FnExactBoundGapK some x0 x1 x2) (laws_FnExactBoundGapK fin x0 x1 x2) := by
  unfold laws_FnExactBoundGapK
  repeat' (first | exact .fin | exact .none | refine .cond ?_ ?_ | refine .bind fun _ => ?_ | refine .sum (fun _ => ?_) fun _ => ?_)
def c9 : Callee := mkC [.agg [.ro TJob], .one (.ro (.slice (.int .i64))), .agg [.ro TPlan]] 1 [.one (.ro .bool)] fun x => laws_FnExactBoundGap x.1 x.2.1 x.2.2
theorem e9 (x : PK.dens [.agg [.ro TJob], .one (.ro (.slice (.int .i64))), .agg [.ro TPlan]]) : evalFn Try.prog EL9 or0 Try.f9 (PK.outs [.agg [.ro TJob], .one (.ro (.slice (.int .i64))), .agg [.ro TPlan]] x) =
    laws_FnExactBoundGapK (fun y => some (tupOf ((PK.outs [.one (.ro .bool)] y).take 1), (PK.outs [.one (.ro .bool)] y).drop 1)) x.1 x.2.1 x.2.2 := by kernel_rfl
theorem k9 : CalleeOk Try.prog 9 c9 := callee_mk Try.func9 (code := codeOf Try.f9) (by kernel_rfl) vL9 mixed (LoOk.nil (by kernel_rfl)) fun x y h => (e9 x).trans (p9 _ x.1 x.2.1 x.2.2 y h)
end
end Go.OAI
