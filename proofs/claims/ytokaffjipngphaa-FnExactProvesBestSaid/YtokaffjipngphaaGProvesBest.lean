/- Contracts: GProvesBest. -/
import Derived.Test.YtokaffjipngphaaGA
import Derived.Test.YtokaffjipngphaaGBoundGap
namespace Go.OAI
open Go.Proofs
set_option linter.unusedVariables false
noncomputable section


/-- spec.ProvesBest -/
def EL42 : Nat → Option Callee := addE 39 c39 env0
theorem vL42 : EnvOk Try.prog EL42 := EnvOk.nil.add Try.func39 rfl (by kernel_rfl) k39
def spec_ProvesBestK {R : Type} (fin : Bool × Bool → Option R) (x0 : DJob) (x1 : List Int) (x2 : DPlan) : Option R :=
  (spec_BoundGap x0 x1 x2).bind fun y1 =>
  cond (y1.2)
  (fin (y1.1 == 0, y1.2))
  (fin (false, y1.2))
def spec_ProvesBest (x0 : DJob) (x1 : List Int) (x2 : DPlan) : Option (Bool × Bool) := spec_ProvesBestK some x0 x1 x2
theorem p42 {R : Type} (fin : Bool × Bool → Option R) (x0 : DJob) (x1 : List Int) (x2 : DPlan) : Par fin (spec_ProvesBestK some x0 x1 x2) (spec_ProvesBestK fin x0 x1 x2) := by
  unfold spec_ProvesBestK
  repeat' (first | exact .fin | exact .none | refine .cond ?_ ?_ | refine .bind fun _ => ?_ | refine .sum (fun _ => ?_) fun _ => ?_)
def c42 : Callee := mkC [.agg [.ro TJob], .one (.ro (.slice (.int .i64))), .agg [.ro TPlan]] 2 [.one (.ro .bool), .one (.ro .bool)] fun x => spec_ProvesBest x.1 x.2.1 x.2.2
theorem e42 (x : PK.dens [.agg [.ro TJob], .one (.ro (.slice (.int .i64))), .agg [.ro TPlan]]) : evalFn Try.prog EL42 or0 Try.f42 (PK.outs [.agg [.ro TJob], .one (.ro (.slice (.int .i64))), .agg [.ro TPlan]] x) =
    spec_ProvesBestK (fun y => some (tupOf ((PK.outs [.one (.ro .bool), .one (.ro .bool)] y).take 2), (PK.outs [.one (.ro .bool), .one (.ro .bool)] y).drop 2)) x.1 x.2.1 x.2.2 := by kernel_rfl
theorem k42 : CalleeOk Try.prog 42 c42 := callee_mk Try.func42 (code := codeOf Try.f42) (by kernel_rfl) vL42 mixed (LoOk.nil (by kernel_rfl)) fun x y h => (e42 x).trans (p42 _ x.1 x.2.1 x.2.2 y h)

/-- impl.ProvesBest -/
def EL43 : Nat → Option Callee := addE 41 c41 env0
theorem vL43 : EnvOk Try.prog EL43 := EnvOk.nil.add Try.func41 rfl (by kernel_rfl) k41
def impl_ProvesBestK {R : Type} (fin : Bool × Bool → Option R) (x0 : DJob) (x1 : List Int) (x2 : DPlan) : Option R :=
  (impl_BoundGap x0 x1 x2).bind fun y1 =>
  cond (y1.2)
  (fin (y1.1 == 0, y1.2))
  (fin (false, y1.2))
def impl_ProvesBest (x0 : DJob) (x1 : List Int) (x2 : DPlan) : Option (Bool × Bool) := impl_ProvesBestK some x0 x1 x2
theorem p43 {R : Type} (fin : Bool × Bool → Option R) (x0 : DJob) (x1 : List Int) (x2 : DPlan) : Par fin (impl_ProvesBestK some x0 x1 x2) (impl_ProvesBestK fin x0 x1 x2) := by
  unfold impl_ProvesBestK
  repeat' (first | exact .fin | exact .none | refine .cond ?_ ?_ | refine .bind fun _ => ?_ | refine .sum (fun _ => ?_) fun _ => ?_)
def c43 : Callee := mkC [.agg [.ro TJob], .one (.ro (.slice (.int .i64))), .agg [.ro TPlan]] 2 [.one (.ro .bool), .one (.ro .bool)] fun x => impl_ProvesBest x.1 x.2.1 x.2.2
theorem e43 (x : PK.dens [.agg [.ro TJob], .one (.ro (.slice (.int .i64))), .agg [.ro TPlan]]) : evalFn Try.prog EL43 or0 Try.f43 (PK.outs [.agg [.ro TJob], .one (.ro (.slice (.int .i64))), .agg [.ro TPlan]] x) =
    impl_ProvesBestK (fun y => some (tupOf ((PK.outs [.one (.ro .bool), .one (.ro .bool)] y).take 2), (PK.outs [.one (.ro .bool), .one (.ro .bool)] y).drop 2)) x.1 x.2.1 x.2.2 := by kernel_rfl
theorem k43 : CalleeOk Try.prog 43 c43 := callee_mk Try.func43 (code := codeOf Try.f43) (by kernel_rfl) vL43 mixed (LoOk.nil (by kernel_rfl)) fun x y h => (e43 x).trans (p43 _ x.1 x.2.1 x.2.2 y h)

/-- laws.FnExactProvesBest -/
def EL10 : Nat → Option Callee := addE 20 c20 (addE 21 c21 (addE 16 c16 (addE 43 c43 (addE 42 c42 (addE 40 c40 (addE 18 c18 (addE 14 c14 (addE 38 c38 (addE 12 c12 env0)))))))))
theorem vL10 : EnvOk Try.prog EL10 := (((((((((EnvOk.nil.add Try.func12 rfl (by kernel_rfl) k12).add Try.func38 rfl (by kernel_rfl) k38).add Try.func14 rfl (by kernel_rfl) k14).add Try.func18 rfl (by kernel_rfl) k18).add Try.func40 rfl (by kernel_rfl) k40).add Try.func42 rfl (by kernel_rfl) k42).add Try.func43 rfl (by kernel_rfl) k43).add Try.func16 rfl (by kernel_rfl) k16).add Try.func21 rfl (by kernel_rfl) k21).add Try.func20 rfl (by kernel_rfl) k20
def laws_FnExactProvesBestK {R : Type} (fin : Bool → Option R) (x0 : DJob) (x1 : List Int) (x2 : DPlan) : Option R :=
  cond (decide ((x1.length : Int) > 1048576))
  (fin true)
  ((laws_szJob x0 1048576).bind fun y1 =>
    cond (decide (y1 < 0))
    (fin true)
    ((laws_szPlan x2 y1).bind fun y2 =>
      cond (decide (y2 < 0))
      (fin true)
      ((laws_toJob x0).bind fun y3 =>
        (laws_toIntS x1).bind fun y4 =>
        (laws_toPlan x2).bind fun y5 =>
        (spec_ProvesBest (y3.1, (y3.2.1, (y3.2.2.1, ((y3.2.2.2.1, (y3.2.2.2.2.1, ())), (y3.2.2.2.2.2.1, (y3.2.2.2.2.2.2.1, (y3.2.2.2.2.2.2.2, ()))))))) y4 (y5.1, (y5.2, ()))).bind fun y6 =>
        (laws_toJob x0).bind fun y7 =>
        (laws_toIntS x1).bind fun y8 =>
        (laws_toPlan x2).bind fun y9 =>
        (impl_ProvesBest (y7.1, (y7.2.1, (y7.2.2.1, ((y7.2.2.2.1, (y7.2.2.2.2.1, ())), (y7.2.2.2.2.2.1, (y7.2.2.2.2.2.2.1, (y7.2.2.2.2.2.2.2, ()))))))) y8 (y9.1, (y9.2, ()))).bind fun y10 =>
        cond (!(y10.1 == y6.1))
        (fin false)
        (cond (!(y10.2 == y6.2))
          (fin false)
          ((laws_toJob x0).bind fun y11 =>
            (laws_eqJob (y7.1, (y7.2.1, (y7.2.2.1, ((y7.2.2.2.1, (y7.2.2.2.2.1, ())), (y7.2.2.2.2.2.1, (y7.2.2.2.2.2.2.1, (y7.2.2.2.2.2.2.2, ()))))))) (y11.1, (y11.2.1, (y11.2.2.1, ((y11.2.2.2.1, (y11.2.2.2.2.1, ())), (y11.2.2.2.2.2.1, (y11.2.2.2.2.2.2.1, (y11.2.2.2.2.2.2.2, ())))))))).bind fun y12 =>
            cond (!y12)
            (fin false)
            ((laws_toIntS x1).bind fun y13 =>
              (laws_eqIntS y8 y13).bind fun y14 =>
              cond (!y14)
              (fin false)
              ((laws_toPlan x2).bind fun y15 =>
                (laws_eqPlan (y9.1, (y9.2, ())) (y15.1, (y15.2, ()))).bind fun y16 =>
                cond (!y16)
                (fin false)
                (fin true))))))))
def laws_FnExactProvesBest (x0 : DJob) (x1 : List Int) (x2 : DPlan) : Option (Bool) := laws_FnExactProvesBestK some x0 x1 x2
theorem p10 {R : Type} (fin : Bool → Option R) (x0 : DJob) (x1 : List Int) (x2 : DPlan) : Par fin (laws_FnExactProvesBestK some x0 x1 x2) (laws_FnExactProvesBestK fin x0 x1 x2) := by
  unfold laws_FnExactProvesBestK
  repeat' (first | exact .fin | exact .none | refine .cond ?_ ?_ | refine .bind fun _ => ?_ | refine .sum (fun _ => ?_) fun _ => ?_)
def c10 : Callee := mkC [.agg [.ro TJob], .one (.ro (.slice (.int .i64))), .agg [.ro TPlan]] 1 [.one (.ro .bool)] fun x => laws_FnExactProvesBest x.1 x.2.1 x.2.2
theorem e10 (x : PK.dens [.agg [.ro TJob], .one (.ro (.slice (.int .i64))), .agg [.ro TPlan]]) : evalFn Try.prog EL10 or0 Try.f10 (PK.outs [.agg [.ro TJob], .one (.ro (.slice (.int .i64))), .agg [.ro TPlan]] x) =
    laws_FnExactProvesBestK (fun y => some (tupOf ((PK.outs [.one (.ro .bool)] y).take 1), (PK.outs [.one (.ro .bool)] y).drop 1)) x.1 x.2.1 x.2.2 := by kernel_rfl
theorem k10 : CalleeOk Try.prog 10 c10 := callee_mk Try.func10 (code := codeOf Try.f10) (by kernel_rfl) vL10 mixed (LoOk.nil (by kernel_rfl)) fun x y h => (e10 x).trans (p10 _ x.1 x.2.1 x.2.2 y h)
end
end Go.OAI
