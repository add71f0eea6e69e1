/- Contracts: GAreMultipliers. -/
import Derived.Test.YtnmeejeedfeolaaGA
import Derived.Test.YtnmeejeedfeolaaGM
namespace Go.OAI
open Go.Proofs
set_option linter.unusedVariables false
noncomputable section


/-- spec.AreMultipliers -/
def EL20 : Nat → Option Callee := addE 67 c67 (addE 66 c66 env0)
theorem vL20 : EnvOk Try.prog EL20 := (EnvOk.nil.add Try.func66 rfl (by kernel_rfl) k66).add Try.func67 rfl (by kernel_rfl) k67
def spec_AreMultipliersK {R : Type} (fin : Bool × Bool → Option R) (x0 : DJob) (x1 : List Int) : Option R :=
  (spec_plJob x0).bind fun y1 =>
  cond (!y1)
  (fin (false, false))
  ((spec_reGood x0 x1).bind fun y2 =>
    fin (y2, true))
def spec_AreMultipliers (x0 : DJob) (x1 : List Int) : Option (Bool × Bool) := spec_AreMultipliersK some x0 x1
theorem p20 {R : Type} (fin : Bool × Bool → Option R) (x0 : DJob) (x1 : List Int) : Par fin (spec_AreMultipliersK some x0 x1) (spec_AreMultipliersK fin x0 x1) := by
  unfold spec_AreMultipliersK
  repeat' (first | exact .fin | exact .none | refine .cond ?_ ?_ | refine .bind fun _ => ?_ | refine .sum (fun _ => ?_) fun _ => ?_)
def c20 : Callee := mkC [.agg [.ro TJob], .one (.ro (.slice (.int .i64)))] 2 [.one (.ro .bool), .one (.ro .bool)] fun x => spec_AreMultipliers x.1 x.2
theorem e20 (x : PK.dens [.agg [.ro TJob], .one (.ro (.slice (.int .i64)))]) : evalFn Try.prog EL20 or0 Try.f20 (PK.outs [.agg [.ro TJob], .one (.ro (.slice (.int .i64)))] x) =
    spec_AreMultipliersK (fun y => some (tupOf ((PK.outs [.one (.ro .bool), .one (.ro .bool)] y).take 2), (PK.outs [.one (.ro .bool), .one (.ro .bool)] y).drop 2)) x.1 x.2 := by kernel_rfl
theorem k20 : CalleeOk Try.prog 20 c20 := callee_mk Try.func20 (code := codeOf Try.f20) (by kernel_rfl) vL20 mixed (LoOk.nil (by kernel_rfl)) fun x y h => (e20 x).trans (p20 _ x.1 x.2 y h)

/-- impl.AreMultipliers -/
def EL23 : Nat → Option Callee := addE 71 c71 (addE 70 c70 env0)
theorem vL23 : EnvOk Try.prog EL23 := (EnvOk.nil.add Try.func70 rfl (by kernel_rfl) k70).add Try.func71 rfl (by kernel_rfl) k71
def impl_AreMultipliersK {R : Type} (fin : Bool × Bool → Option R) (x0 : DJob) (x1 : List Int) : Option R :=
  (impl_IsJob x0).bind fun y1 =>
  cond (!y1)
  (fin (false, false))
  ((impl_areMultipliers x0 x1).bind fun y2 =>
    fin (y2, true))
def impl_AreMultipliers (x0 : DJob) (x1 : List Int) : Option (Bool × Bool) := impl_AreMultipliersK some x0 x1
theorem p23 {R : Type} (fin : Bool × Bool → Option R) (x0 : DJob) (x1 : List Int) : Par fin (impl_AreMultipliersK some x0 x1) (impl_AreMultipliersK fin x0 x1) := by
  unfold impl_AreMultipliersK
  repeat' (first | exact .fin | exact .none | refine .cond ?_ ?_ | refine .bind fun _ => ?_ | refine .sum (fun _ => ?_) fun _ => ?_)
def c23 : Callee := mkC [.agg [.ro TJob], .one (.ro (.slice (.int .i64)))] 2 [.one (.ro .bool), .one (.ro .bool)] fun x => impl_AreMultipliers x.1 x.2
theorem e23 (x : PK.dens [.agg [.ro TJob], .one (.ro (.slice (.int .i64)))]) : evalFn Try.prog EL23 or0 Try.f23 (PK.outs [.agg [.ro TJob], .one (.ro (.slice (.int .i64)))] x) =
    impl_AreMultipliersK (fun y => some (tupOf ((PK.outs [.one (.ro .bool), .one (.ro .bool)] y).take 2), (PK.outs [.one (.ro .bool), .one (.ro .bool)] y).drop 2)) x.1 x.2 := by kernel_rfl
theorem k23 : CalleeOk Try.prog 23 c23 := callee_mk Try.func23 (code := codeOf Try.f23) (by kernel_rfl) vL23 mixed (LoOk.nil (by kernel_rfl)) fun x y h => (e23 x).trans (p23 _ x.1 x.2 y h)

/-- laws.FnExactAreMultipliers -/
def EL3 : Nat → Option Callee := addE 25 c25 (addE 24 c24 (addE 23 c23 (addE 20 c20 (addE 22 c22 (addE 21 c21 (addE 19 c19 env0))))))
theorem vL3 : EnvOk Try.prog EL3 := ((((((EnvOk.nil.add Try.func19 rfl (by kernel_rfl) k19).add Try.func21 rfl (by kernel_rfl) k21).add Try.func22 rfl (by kernel_rfl) k22).add Try.func20 rfl (by kernel_rfl) k20).add Try.func23 rfl (by kernel_rfl) k23).add Try.func24 rfl (by kernel_rfl) k24).add Try.func25 rfl (by kernel_rfl) k25
def laws_FnExactAreMultipliersK {R : Type} (fin : Bool → Option R) (x0 : DJob) (x1 : List Int) : Option R :=
  cond (decide ((x1.length : Int) > 1048576))
  (fin true)
  ((laws_szJob x0 1048576).bind fun y1 =>
    cond (decide (y1 < 0))
    (fin true)
    ((laws_toJob x0).bind fun y2 =>
      (laws_toIntS x1).bind fun y3 =>
      (spec_AreMultipliers (y2.1, (y2.2.1, (y2.2.2.1, ((y2.2.2.2.1, (y2.2.2.2.2.1, ())), (y2.2.2.2.2.2.1, (y2.2.2.2.2.2.2.1, (y2.2.2.2.2.2.2.2, ()))))))) y3).bind fun y4 =>
      (laws_toJob x0).bind fun y5 =>
      (laws_toIntS x1).bind fun y6 =>
      (impl_AreMultipliers (y5.1, (y5.2.1, (y5.2.2.1, ((y5.2.2.2.1, (y5.2.2.2.2.1, ())), (y5.2.2.2.2.2.1, (y5.2.2.2.2.2.2.1, (y5.2.2.2.2.2.2.2, ()))))))) y6).bind fun y7 =>
      cond (!(y7.1 == y4.1))
      (fin false)
      (cond (!(y7.2 == y4.2))
        (fin false)
        ((laws_toJob x0).bind fun y8 =>
          (laws_eqJob (y5.1, (y5.2.1, (y5.2.2.1, ((y5.2.2.2.1, (y5.2.2.2.2.1, ())), (y5.2.2.2.2.2.1, (y5.2.2.2.2.2.2.1, (y5.2.2.2.2.2.2.2, ()))))))) (y8.1, (y8.2.1, (y8.2.2.1, ((y8.2.2.2.1, (y8.2.2.2.2.1, ())), (y8.2.2.2.2.2.1, (y8.2.2.2.2.2.2.1, (y8.2.2.2.2.2.2.2, ())))))))).bind fun y9 =>
          cond (!y9)
          (fin false)
          ((laws_toIntS x1).bind fun y10 =>
            (laws_eqIntS y6 y10).bind fun y11 =>
            cond (!y11)
            (fin false)
            (fin true))))))
def laws_FnExactAreMultipliers (x0 : DJob) (x1 : List Int) : Option (Bool) := laws_FnExactAreMultipliersK some x0 x1
theorem p3 {R : Type} (fin : Bool → Option R) (x0 : DJob) (x1 : List Int) : Par fin (laws_FnExactAreMultipliersK some x0 x1) (laws_FnExactAreMultipliersK fin x0 x1) := by
  unfold laws_FnExactAreMultipliersK
  repeat' (first | exact .fin | exact .none | refine .cond ?_ ?_ | refine .bind fun _ => ?_ | refine .sum (fun _ => ?_) fun _ => ?_)
def c3 : Callee := mkC [.agg [.ro TJob], .one (.ro (.slice (.int .i64)))] 1 [.one (.ro .bool)] fun x => laws_FnExactAreMultipliers x.1 x.2
theorem e3 (x : PK.dens [.agg [.ro TJob], .one (.ro (.slice (.int .i64)))]) : evalFn Try.prog EL3 or0 Try.f3 (PK.outs [.agg [.ro TJob], .one (.ro (.slice (.int .i64)))] x) =
    laws_FnExactAreMultipliersK (fun y => some (tupOf ((PK.outs [.one (.ro .bool)] y).take 1), (PK.outs [.one (.ro .bool)] y).drop 1)) x.1 x.2 := by kernel_rfl
theorem k3 : CalleeOk Try.prog 3 c3 := callee_mk Try.func3 (code := codeOf Try.f3) (by kernel_rfl) vL3 mixed (LoOk.nil (by kernel_rfl)) fun x y h => (e3 x).trans (p3 _ x.1 x.2 y h)
end
end Go.OAI
