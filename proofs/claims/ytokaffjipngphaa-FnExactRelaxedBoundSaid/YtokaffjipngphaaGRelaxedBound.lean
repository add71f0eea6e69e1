/- Contracts: GRelaxedBound. -/
import Derived.Test.YtokaffjipngphaaGA
import Derived.Test.YtokaffjipngphaaGM
import Derived.Test.YtokaffjipngphaaGRe
import Derived.Test.YtokaffjipngphaaGRb
namespace Go.OAI
open Go.Proofs
set_option linter.unusedVariables false
noncomputable section


/-- spec.RelaxedBound -/
def EL26 : Nat → Option Callee := addE 61 c61 (addE 56 c56 env0)
theorem vL26 : EnvOk Try.prog EL26 := (EnvOk.nil.add Try.func56 rfl (by kernel_rfl) k56).add Try.func61 rfl (by kernel_rfl) k61
def spec_RelaxedBoundK {R : Type} (fin : Int × Bool → Option R) (x0 : DJob) (x1 : List Int) : Option R :=
  (spec_reGood x0 x1).bind fun y1 =>
  cond (!y1)
  (fin (0, false))
  ((spec_reBound x0 x1).bind fun y2 =>
    fin (y2, true))
def spec_RelaxedBound (x0 : DJob) (x1 : List Int) : Option (Int × Bool) := spec_RelaxedBoundK some x0 x1
theorem p26 {R : Type} (fin : Int × Bool → Option R) (x0 : DJob) (x1 : List Int) : Par fin (spec_RelaxedBoundK some x0 x1) (spec_RelaxedBoundK fin x0 x1) := by
  unfold spec_RelaxedBoundK
  repeat' (first | exact .fin | exact .none | refine .cond ?_ ?_ | refine .bind fun _ => ?_ | refine .sum (fun _ => ?_) fun _ => ?_)
def c26 : Callee := mkC [.agg [.ro TJob], .one (.ro (.slice (.int .i64)))] 2 [.one (.ro (.int .i64)), .one (.ro .bool)] fun x => spec_RelaxedBound x.1 x.2
theorem e26 (x : PK.dens [.agg [.ro TJob], .one (.ro (.slice (.int .i64)))]) : evalFn Try.prog EL26 or0 Try.f26 (PK.outs [.agg [.ro TJob], .one (.ro (.slice (.int .i64)))] x) =
    spec_RelaxedBoundK (fun y => some (tupOf ((PK.outs [.one (.ro (.int .i64)), .one (.ro .bool)] y).take 2), (PK.outs [.one (.ro (.int .i64)), .one (.ro .bool)] y).drop 2)) x.1 x.2 := by kernel_rfl
theorem k26 : CalleeOk Try.prog 26 c26 := callee_mk Try.func26 (code := codeOf Try.f26) (by kernel_rfl) vL26 mixed (LoOk.nil (by kernel_rfl)) fun x y h => (e26 x).trans (p26 _ x.1 x.2 y h)

/-- impl.RelaxedBound -/
def EL27 : Nat → Option Callee := addE 62 c62 (addE 59 c59 (addE 58 c58 (addE 52 c52 env0)))
theorem vL27 : EnvOk Try.prog EL27 := (((EnvOk.nil.add Try.func52 rfl (by kernel_rfl) k52).add Try.func58 rfl (by kernel_rfl) k58).add Try.func59 rfl (by kernel_rfl) k59).add Try.func62 rfl (by kernel_rfl) k62
def impl_RelaxedBoundK {R : Type} (fin : Int × Bool → Option R) (x0 : DJob) (x1 : List Int) : Option R :=
  (impl_IsJob x0).bind fun y1 =>
  cond (!y1)
  (fin (0, false))
  ((impl_areMultipliers x0 x1).bind fun y2 =>
    cond (!y2)
    (fin (0, false))
    ((impl_relaxedPlan x0 x1).bind fun y3 =>
      (impl_paidWorth x0 x1 (y3.1, (y3.2, ()))).bind fun y4 =>
      fin (y4, true)))
def impl_RelaxedBound (x0 : DJob) (x1 : List Int) : Option (Int × Bool) := impl_RelaxedBoundK some x0 x1
theorem p27 {R : Type} (fin : Int × Bool → Option R) (x0 : DJob) (x1 : List Int) : Par fin (impl_RelaxedBoundK some x0 x1) (impl_RelaxedBoundK fin x0 x1) := by
  unfold impl_RelaxedBoundK
  repeat' (first | exact .fin | exact .none | refine .cond ?_ ?_ | refine .bind fun _ => ?_ | refine .sum (fun _ => ?_) fun _ => ?_)
def c27 : Callee := mkC [.agg [.ro TJob], .one (.ro (.slice (.int .i64)))] 2 [.one (.ro (.int .i64)), .one (.ro .bool)] fun x => impl_RelaxedBound x.1 x.2
theorem e27 (x : PK.dens [.agg [.ro TJob], .one (.ro (.slice (.int .i64)))]) : evalFn Try.prog EL27 or0 Try.f27 (PK.outs [.agg [.ro TJob], .one (.ro (.slice (.int .i64)))] x) =
    impl_RelaxedBoundK (fun y => some (tupOf ((PK.outs [.one (.ro (.int .i64)), .one (.ro .bool)] y).take 2), (PK.outs [.one (.ro (.int .i64)), .one (.ro .bool)] y).drop 2)) x.1 x.2 := by kernel_rfl
theorem k27 : CalleeOk Try.prog 27 c27 := callee_mk Try.func27 (code := codeOf Try.f27) (by kernel_rfl) vL27 mixed (LoOk.nil (by kernel_rfl)) fun x y h => (e27 x).trans (p27 _ x.1 x.2 y h)

/-- laws.FnExactRelaxedBound -/
def EL5 : Nat → Option Callee := addE 21 c21 (addE 16 c16 (addE 27 c27 (addE 26 c26 (addE 18 c18 (addE 14 c14 (addE 12 c12 env0))))))
theorem vL5 : EnvOk Try.prog EL5 := ((((((EnvOk.nil.add Try.func12 rfl (by kernel_rfl) k12).add Try.func14 rfl (by kernel_rfl) k14).add Try.func18 rfl (by kernel_rfl) k18).add Try.func26 rfl (by kernel_rfl) k26).add Try.func27 rfl (by kernel_rfl) k27).add Try.func16 rfl (by kernel_rfl) k16).add Try.func21 rfl (by kernel_rfl) k21
def laws_FnExactRelaxedBoundK {R : Type} (fin : Bool → Option R) (x0 : DJob) (x1 : List Int) : Option R :=
  cond (decide ((x1.length : Int) > 1048576))
  (fin true)
  ((laws_szJob x0 1048576).bind fun y1 =>
    cond (decide (y1 < 0))
    (fin true)
    ((laws_toJob x0).bind fun y2 =>
      (laws_toIntS x1).bind fun y3 =>
      (spec_RelaxedBound (y2.1, (y2.2.1, (y2.2.2.1, ((y2.2.2.2.1, (y2.2.2.2.2.1, ())), (y2.2.2.2.2.2.1, (y2.2.2.2.2.2.2.1, (y2.2.2.2.2.2.2.2, ()))))))) y3).bind fun y4 =>
      (laws_toJob x0).bind fun y5 =>
      (laws_toIntS x1).bind fun y6 =>
      (impl_RelaxedBound (y5.1, (y5.2.1, (y5.2.2.1, ((y5.2.2.2.1, (y5.2.2.2.2.1, ())), (y5.2.2.2.2.2.1, (y5.2.2.2.2.2.2.1, (y5.2.2.2.2.2.2.2, ()))))))) y6).bind fun y7 =>
      cond (y7.1 != y4.1)
      (fin false)
      (cond (!(y7.2 == y4.2))
        (fin false)
        ((laws_toJob x0).bind fun y8 =>
          (laws_eqJob (y5.1, (y5.2.1, (y5.2.2.1, ((y5.2.2.2.1, (y5.2.2.2.2.1, ())), (y5.2.2.2.2.2.1, (y5.2.2.2.2.2.2.1, (y5.2.2.2.2.2.2.2, ()))))))) (y8.1, (y8.2.1, (y8.2.2.1, ((y8.2.2.2.1, (y8.2.2.2.2.1, ())), (y8.2.2.2.2.2.1, (y8.2.2.2.2.2.2.1, (y8.2.2.2.2.2.2.2, ())))))))).bind fun y9 =>
          cond (!y9)
          (fin false)
          ((laws_toIntS x1).bind fun y10 =>
            (laws_eqIntS y6 y10).bind fun y11 =>
            cond (!y11)
            (fin false)
            (fin true))))))
def laws_FnExactRelaxedBound (x0 : DJob) (x1 : List Int) : Option (Bool) := laws_FnExactRelaxedBoundK some x0 x1
theorem p5 {R : Type} (fin : Bool → Option R) (x0 : DJob) (x1 : List Int) : Par fin (laws_FnExactRelaxedBoundK some x0 x1) (laws_FnExactRelaxedBoundK fin x0 x1) := by
  unfold laws_FnExactRelaxedBoundK
  repeat' (first | exact .fin | exact .none | refine .cond ?_ ?_ | refine .bind fun _ => ?_ | refine .sum (fun _ => ?_) fun _ => ?_)
def c5 : Callee := mkC [.agg [.ro TJob], .one (.ro (.slice (.int .i64)))] 1 [.one (.ro .bool)] fun x => laws_FnExactRelaxedBound x.1 x.2
theorem e5 (x : PK.dens [.agg [.ro TJob], .one (.ro (.slice (.int .i64)))]) : evalFn Try.prog EL5 or0 Try.f5 (PK.outs [.agg [.ro TJob], .one (.ro (.slice (.int .i64)))] x) =
    laws_FnExactRelaxedBoundK (fun y => some (tupOf ((PK.outs [.one (.ro .bool)] y).take 1), (PK.outs [.one (.ro .bool)] y).drop 1)) x.1 x.2 := by kernel_rfl
theorem k5 : CalleeOk Try.prog 5 c5 := callee_mk Try.func5 (code := codeOf Try.f5) (by kernel_rfl) vL5 mixed (LoOk.nil (by kernel_rfl)) fun x y h => (e5 x).trans (p5 _ x.1 x.2 y h)
end
end Go.OAI
