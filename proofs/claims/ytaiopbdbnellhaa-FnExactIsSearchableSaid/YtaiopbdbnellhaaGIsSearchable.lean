/- Contracts: GIsSearchable. -/
import Derived.Test.YtaiopbdbnellhaaGA
import Derived.Test.YtaiopbdbnellhaaGSr
namespace Go.OAI
open Go.Proofs
set_option linter.unusedVariables false
noncomputable section


/-- spec.IsSearchable -/
def EL14 : Nat → Option Callee := addE 45 c45 env0
theorem vL14 : EnvOk Try.prog EL14 := EnvOk.nil.add Try.func45 rfl (by kernel_rfl) k45
def spec_IsSearchableK {R : Type} (fin : Bool → Option R) (x0 : DJob) : Option R :=
  (spec_srGood x0).bind fun y1 =>
  fin y1
def spec_IsSearchable (x0 : DJob) : Option (Bool) := spec_IsSearchableK some x0
theorem p14 {R : Type} (fin : Bool → Option R) (x0 : DJob) : Par fin (spec_IsSearchableK some x0) (spec_IsSearchableK fin x0) := by
  unfold spec_IsSearchableK
  repeat' (first | exact .fin | exact .none | refine .cond ?_ ?_ | refine .bind fun _ => ?_ | refine .sum (fun _ => ?_) fun _ => ?_)
def c14 : Callee := mkC [.agg [.ro TJob]] 1 [.one (.ro .bool)] fun x => spec_IsSearchable x
theorem e14 (x : PK.dens [.agg [.ro TJob]]) : evalFn Try.prog EL14 or0 Try.f14 (PK.outs [.agg [.ro TJob]] x) =
    spec_IsSearchableK (fun y => some (tupOf ((PK.outs [.one (.ro .bool)] y).take 1), (PK.outs [.one (.ro .bool)] y).drop 1)) x := by kernel_rfl
theorem k14 : CalleeOk Try.prog 14 c14 := callee_mk Try.func14 (code := codeOf Try.f14) (by kernel_rfl) vL14 mixed (LoOk.nil (by kernel_rfl)) fun x y h => (e14 x).trans (p14 _ x y h)

/-- laws.FnExactIsSearchable -/
def EL3 : Nat → Option Callee := addE 17 c17 (addE 16 c16 (addE 14 c14 (addE 15 c15 (addE 13 c13 env0))))
theorem vL3 : EnvOk Try.prog EL3 := ((((EnvOk.nil.add Try.func13 rfl (by kernel_rfl) k13).add Try.func15 rfl (by kernel_rfl) k15).add Try.func14 rfl (by kernel_rfl) k14).add Try.func16 rfl (by kernel_rfl) k16).add Try.func17 rfl (by kernel_rfl) k17
def laws_FnExactIsSearchableK {R : Type} (fin : Bool → Option R) (x0 : DJob) : Option R :=
  (laws_szJob x0 1048576).bind fun y1 =>
  cond (decide (y1 < 0))
  (fin true)
  ((laws_toJob x0).bind fun y2 =>
    (spec_IsSearchable (y2.1, (y2.2.1, (y2.2.2.1, ((y2.2.2.2.1, (y2.2.2.2.2.1, ())), (y2.2.2.2.2.2.1, (y2.2.2.2.2.2.2.1, (y2.2.2.2.2.2.2.2, ())))))))).bind fun y3 =>
    (laws_toJob x0).bind fun y4 =>
    (impl_IsSearchable (y4.1, (y4.2.1, (y4.2.2.1, ((y4.2.2.2.1, (y4.2.2.2.2.1, ())), (y4.2.2.2.2.2.1, (y4.2.2.2.2.2.2.1, (y4.2.2.2.2.2.2.2, ())))))))).bind fun y5 =>
    cond (!(y5 == y3))
    (fin false)
    ((laws_toJob x0).bind fun y6 =>
      (laws_eqJob (y4.1, (y4.2.1, (y4.2.2.1, ((y4.2.2.2.1, (y4.2.2.2.2.1, ())), (y4.2.2.2.2.2.1, (y4.2.2.2.2.2.2.1, (y4.2.2.2.2.2.2.2, ()))))))) (y6.1, (y6.2.1, (y6.2.2.1, ((y6.2.2.2.1, (y6.2.2.2.2.1, ())), (y6.2.2.2.2.2.1, (y6.2.2.2.2.2.2.1, (y6.2.2.2.2.2.2.2, ())))))))).bind fun y7 =>
      cond (!y7)
      (fin false)
      (fin true)))
def laws_FnExactIsSearchable (x0 : DJob) : Option (Bool) := laws_FnExactIsSearchableK some x0
theorem p3 {R : Type} (fin : Bool → Option R) (x0 : DJob) : Par fin (laws_FnExactIsSearchableK some x0) (laws_FnExactIsSearchableK fin x0) := by
  unfold laws_FnExactIsSearchableK
  repeat' (first | exact .fin | exact .none | refine .cond ?_ ?_ | refine .bind fun _ => ?_ | refine .sum (fun _ => ?_) fun _ => ?_)
def c3 : Callee := mkC [.agg [.ro TJob]] 1 [.one (.ro .bool)] fun x => laws_FnExactIsSearchable x
theorem e3 (x : PK.dens [.agg [.ro TJob]]) : evalFn Try.prog EL3 or0 Try.f3 (PK.outs [.agg [.ro TJob]] x) =
    laws_FnExactIsSearchableK (fun y => some (tupOf ((PK.outs [.one (.ro .bool)] y).take 1), (PK.outs [.one (.ro .bool)] y).drop 1)) x := by kernel_rfl
theorem k3 : CalleeOk Try.prog 3 c3 := callee_mk Try.func3 (code := codeOf Try.f3) (by kernel_rfl) vL3 mixed (LoOk.nil (by kernel_rfl)) fun x y h => (e3 x).trans (p3 _ x y h)
end
end Go.OAI
