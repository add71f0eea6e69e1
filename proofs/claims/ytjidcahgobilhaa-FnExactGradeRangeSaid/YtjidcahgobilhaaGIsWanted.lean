/- Contracts: GIsWanted. -/
import Derived.Test.YtjidcahgobilhaaK3
import Derived.Test.YtjidcahgobilhaaProg
namespace Go.OAI
open Go.Proofs
set_option linter.unusedVariables false
noncomputable section

@[reducible] def TWanted : Ty := .pair (.int .i64) (.pair (.int .i64) (.pair (.int .i64) (.pair (.int .i64) .unit)))
abbrev DWanted : Type := Int × Int × Int × Int × Unit
def or0 : Ora := { lo := fun _ => none }
theorem mixed : Try.prog.follows .mixedOrders = true := by kernel_rfl

/-- laws.toWanted -/
def EL11 : Nat → Option Callee := env0
theorem vL11 : EnvOk Try.prog EL11 := EnvOk.nil
def laws_toWantedK {R : Type} (fin : DWanted → Option R) (x0 : DWanted) : Option R :=
  fin x0
def laws_toWanted (x0 : DWanted) : Option (DWanted) := laws_toWantedK some x0
theorem p11 {R : Type} (fin : DWanted → Option R) (x0 : DWanted) : Par fin (laws_toWantedK some x0) (laws_toWantedK fin x0) := by
  unfold laws_toWantedK
  repeat' (first | exact .fin | exact .none | refine .cond ?_ ?_ | refine .bind fun _ => ?_ | refine .sum (fun _ => ?_) fun _ => ?_)
def c11 : Callee := mkC [.agg [.ro TWanted]] 1 [.agg [.ro TWanted]] fun x => laws_toWanted x
theorem e11 (x : PK.dens [.agg [.ro TWanted]]) : evalFn Try.prog EL11 or0 Try.f11 (PK.outs [.agg [.ro TWanted]] x) =
    laws_toWantedK (fun y => some (tupOf ((PK.outs [.agg [.ro TWanted]] y).take 1), (PK.outs [.agg [.ro TWanted]] y).drop 1)) x := by kernel_rfl
theorem k11 : CalleeOk Try.prog 11 c11 := callee_mk Try.func11 (code := codeOf Try.f11) (by kernel_rfl) vL11 mixed (LoOk.nil (by kernel_rfl)) fun x y h => (e11 x).trans (p11 _ x y h)

/-- spec.l1In -/
def EL31 : Nat → Option Callee := env0
theorem vL31 : EnvOk Try.prog EL31 := EnvOk.nil
def spec_l1InK {R : Type} (fin : Bool → Option R) (x0 : Int) (x1 : Int) (x2 : Int) : Option R :=
  cond (decide (x0 ≥ x1))
  (fin (decide (x0 ≤ x2)))
  (fin false)
def spec_l1In (x0 : Int) (x1 : Int) (x2 : Int) : Option (Bool) := spec_l1InK some x0 x1 x2
theorem p31 {R : Type} (fin : Bool → Option R) (x0 : Int) (x1 : Int) (x2 : Int) : Par fin (spec_l1InK some x0 x1 x2) (spec_l1InK fin x0 x1 x2) := by
  unfold spec_l1InK
  repeat' (first | exact .fin | exact .none | refine .cond ?_ ?_ | refine .bind fun _ => ?_ | refine .sum (fun _ => ?_) fun _ => ?_)
def c31 : Callee := mkC [.one (.ro (.int .i64)), .one (.ro (.int .i64)), .one (.ro (.int .i64))] 1 [.one (.ro .bool)] fun x => spec_l1In x.1 x.2.1 x.2.2
theorem e31 (x : PK.dens [.one (.ro (.int .i64)), .one (.ro (.int .i64)), .one (.ro (.int .i64))]) : evalFn Try.prog EL31 or0 Try.f31 (PK.outs [.one (.ro (.int .i64)), .one (.ro (.int .i64)), .one (.ro (.int .i64))] x) =
    spec_l1InK (fun y => some (tupOf ((PK.outs [.one (.ro .bool)] y).take 1), (PK.outs [.one (.ro .bool)] y).drop 1)) x.1 x.2.1 x.2.2 := by kernel_rfl
theorem k31 : CalleeOk Try.prog 31 c31 := callee_mk Try.func31 (code := codeOf Try.f31) (by kernel_rfl) vL31 mixed (LoOk.nil (by kernel_rfl)) fun x y h => (e31 x).trans (p31 _ x.1 x.2.1 x.2.2 y h)

/-- spec.blWanted -/
def EL30 : Nat → Option Callee := addE 31 c31 env0
theorem vL30 : EnvOk Try.prog EL30 := EnvOk.nil.add Try.func31 rfl (by kernel_rfl) k31
def spec_blWantedK {R : Type} (fin : Bool → Option R) (x0 : DWanted) : Option R :=
  (spec_l1In x0.1 1 12).bind fun y1 =>
  cond (y1)
  ((spec_l1In x0.2.1 0 1000).bind fun y2 =>
    cond (y2)
    ((spec_l1In x0.2.2.1 x0.2.1 1000).bind fun y3 =>
      cond (y3)
      ((spec_l1In x0.2.2.2.1 0 1000).bind fun y4 =>
        fin y4)
      (fin false))
    (fin false))
  (fin false)
def spec_blWanted (x0 : DWanted) : Option (Bool) := spec_blWantedK some x0
theorem p30 {R : Type} (fin : Bool → Option R) (x0 : DWanted) : Par fin (spec_blWantedK some x0) (spec_blWantedK fin x0) := by
  unfold spec_blWantedK
  repeat' (first | exact .fin | exact .none | refine .cond ?_ ?_ | refine .bind fun _ => ?_ | refine .sum (fun _ => ?_) fun _ => ?_)
def c30 : Callee := mkC [.agg [.ro TWanted]] 1 [.one (.ro .bool)] fun x => spec_blWanted x
theorem e30 (x : PK.dens [.agg [.ro TWanted]]) : evalFn Try.prog EL30 or0 Try.f30 (PK.outs [.agg [.ro TWanted]] x) =
    spec_blWantedK (fun y => some (tupOf ((PK.outs [.one (.ro .bool)] y).take 1), (PK.outs [.one (.ro .bool)] y).drop 1)) x := by kernel_rfl
theorem k30 : CalleeOk Try.prog 30 c30 := callee_mk Try.func30 (code := codeOf Try.f30) (by kernel_rfl) vL30 mixed (LoOk.nil (by kernel_rfl)) fun x y h => (e30 x).trans (p30 _ x y h)

/-- spec.IsWanted -/
def EL10 : Nat → Option Callee := addE 30 c30 env0
theorem vL10 : EnvOk Try.prog EL10 := EnvOk.nil.add Try.func30 rfl (by kernel_rfl) k30
def spec_IsWantedK {R : Type} (fin : Bool → Option R) (x0 : DWanted) : Option R :=
  (spec_blWanted x0).bind fun y1 =>
  fin y1
def spec_IsWanted (x0 : DWanted) : Option (Bool) := spec_IsWantedK some x0
theorem p10 {R : Type} (fin : Bool → Option R) (x0 : DWanted) : Par fin (spec_IsWantedK some x0) (spec_IsWantedK fin x0) := by
  unfold spec_IsWantedK
  repeat' (first | exact .fin | exact .none | refine .cond ?_ ?_ | refine .bind fun _ => ?_ | refine .sum (fun _ => ?_) fun _ => ?_)
def c10 : Callee := mkC [.agg [.ro TWanted]] 1 [.one (.ro .bool)] fun x => spec_IsWanted x
theorem e10 (x : PK.dens [.agg [.ro TWanted]]) : evalFn Try.prog EL10 or0 Try.f10 (PK.outs [.agg [.ro TWanted]] x) =
    spec_IsWantedK (fun y => some (tupOf ((PK.outs [.one (.ro .bool)] y).take 1), (PK.outs [.one (.ro .bool)] y).drop 1)) x := by kernel_rfl
theorem k10 : CalleeOk Try.prog 10 c10 := callee_mk Try.func10 (code := codeOf Try.f10) (by kernel_rfl) vL10 mixed (LoOk.nil (by kernel_rfl)) fun x y h => (e10 x).trans (p10 _ x y h)

/-- impl.IsWanted -/
def EL12 : Nat → Option Callee := env0
theorem vL12 : EnvOk Try.prog EL12 := EnvOk.nil
def impl_IsWantedK {R : Type} (fin : Bool → Option R) (x0 : DWanted) : Option R :=
  cond (decide (x0.1 ≥ 1))
  (cond (decide (x0.1 ≤ 12))
    (cond (decide (x0.2.1 ≥ 0))
      (cond (decide (x0.2.1 ≤ x0.2.2.1))
        (cond (decide (x0.2.2.1 ≤ 1000))
          (cond (decide (x0.2.2.2.1 ≥ 0))
            (fin (decide (x0.2.2.2.1 ≤ 1000)))
            (fin false))
          (fin false))
        (fin false))
      (fin false))
    (fin false))
  (fin false)
def impl_IsWanted (x0 : DWanted) : Option (Bool) := impl_IsWantedK some x0
theorem p12 {R : Type} (fin : Bool → Option R) (x0 : DWanted) : Par fin (impl_IsWantedK some x0) (impl_IsWantedK fin x0) := by
  unfold impl_IsWantedK
  repeat' (first | exact .fin | exact .none | refine .cond ?_ ?_ | refine .bind fun _ => ?_ | refine .sum (fun _ => ?_) fun _ => ?_)
def c12 : Callee := mkC [.agg [.ro TWanted]] 1 [.one (.ro .bool)] fun x => impl_IsWanted x
theorem e12 (x : PK.dens [.agg [.ro TWanted]]) : evalFn Try.prog EL12 or0 Try.f12 (PK.outs [.agg [.ro TWanted]] x) =
    impl_IsWantedK (fun y => some (tupOf ((PK.outs [.one (.ro .bool)] y).take 1), (PK.outs [.one (.ro .bool)] y).drop 1)) x := by kernel_rfl
theorem k12 : CalleeOk Try.prog 12 c12 := callee_mk Try.func12 (code := codeOf Try.f12) (by kernel_rfl) vL12 mixed (LoOk.nil (by kernel_rfl)) fun x y h => (e12 x).trans (p12 _ x y h)

/-- laws.FnExactIsWanted -/
def EL3 : Nat → Option Callee := addE 12 c12 (addE 10 c10 (addE 11 c11 env0))
theorem vL3 : EnvOk Try.prog EL3 := ((EnvOk.nil.add Try.func11 rfl (by kernel_rfl) k11).add Try.func10 rfl (by kernel_rfl) k10).add Try.func12 rfl (by kernel_rfl) k12
def laws_FnExactIsWantedK {R : Type} (fin : Bool → Option R) (x0 : DWanted) : Option R :=
  (laws_toWanted x0).bind fun y1 =>
  (spec_IsWanted y1).bind fun y2 =>
  (laws_toWanted x0).bind fun y3 =>
  (impl_IsWanted y3).bind fun y4 =>
  cond (!(y4 == y2))
  (fin false)
  (fin true)
def laws_FnExactIsWanted (x0 : DWanted) : Option (Bool) := laws_FnExactIsWantedK some x0
theorem p3 {R : Type} (fin : Bool → Option R) (x0 : DWanted) : Par fin (laws_FnExactIsWantedK some x0) (laws_FnExactIsWantedK fin x0) := by
  unfold laws_FnExactIsWantedK
  repeat' (first | exact .fin | exact .none | refine .cond ?_ ?_ | refine .bind fun _ => ?_ | refine .sum (fun _ => ?_) fun _ => ?_)
def c3 : Callee := mkC [.agg [.ro TWanted]] 1 [.one (.ro .bool)] fun x => laws_FnExactIsWanted x
theorem e3 (x : PK.dens [.agg [.ro TWanted]]) : evalFn Try.prog EL3 or0 Try.f3 (PK.outs [.agg [.ro TWanted]] x) =
    laws_FnExactIsWantedK (fun y => some (tupOf ((PK.outs [.one (.ro .bool)] y).take 1), (PK.outs [.one (.ro .bool)] y).drop 1)) x := by kernel_rfl
theorem k3 : CalleeOk Try.prog 3 c3 := callee_mk Try.func3 (code := codeOf Try.f3) (by kernel_rfl) vL3 mixed (LoOk.nil (by kernel_rfl)) fun x y h => (e3 x).trans (p3 _ x y h)
end
end Go.OAI
