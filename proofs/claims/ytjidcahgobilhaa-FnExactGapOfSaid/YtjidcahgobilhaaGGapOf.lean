/- Contracts: GGapOf. -/
import Derived.Test.YtjidcahgobilhaaGIsWanted
import Derived.Test.YtjidcahgobilhaaGFr
namespace Go.OAI
open Go.Proofs
set_option linter.unusedVariables false
noncomputable section


/-- spec.GapOf -/
def EL13 : Nat → Option Callee := addE 32 c32 (addE 31 c31 env0)
theorem vL13 : EnvOk Try.prog EL13 := (EnvOk.nil.add Try.func31 rfl (by kernel_rfl) k31).add Try.func32 rfl (by kernel_rfl) k32
def spec_GapOfK {R : Type} (fin : Int × Int × Bool → Option R) (x0 : Int) (x1 : Int) : Option R :=
  (spec_l1In x1 0 1000000000000000).bind fun y1 =>
  cond (!y1)
  (fin (0, (0, false)))
  ((spec_l1In x0 0 x1).bind fun y2 =>
    cond (!y2)
    (fin (0, (0, false)))
    (cond (x1 == 0)
      (fin (0, (1, true)))
      ((spec_moPart (IntKind.i64.wrap (x1 - x0)) x1).bind fun y3 =>
        fin (y3.1, (y3.2, true)))))
def spec_GapOf (x0 : Int) (x1 : Int) : Option (Int × Int × Bool) := spec_GapOfK some x0 x1
theorem p13 {R : Type} (fin : Int × Int × Bool → Option R) (x0 : Int) (x1 : Int) : Par fin (spec_GapOfK some x0 x1) (spec_GapOfK fin x0 x1) := by
  unfold spec_GapOfK
  repeat' (first | exact .fin | exact .none | refine .cond ?_ ?_ | refine .bind fun _ => ?_ | refine .sum (fun _ => ?_) fun _ => ?_)
def c13 : Callee := mkC [.one (.ro (.int .i64)), .one (.ro (.int .i64))] 3 [.one (.ro (.int .i64)), .one (.ro (.int .i64)), .one (.ro .bool)] fun x => spec_GapOf x.1 x.2
theorem e13 (x : PK.dens [.one (.ro (.int .i64)), .one (.ro (.int .i64))]) : evalFn Try.prog EL13 or0 Try.f13 (PK.outs [.one (.ro (.int .i64)), .one (.ro (.int .i64))] x) =
    spec_GapOfK (fun y => some (tupOf ((PK.outs [.one (.ro (.int .i64)), .one (.ro (.int .i64)), .one (.ro .bool)] y).take 3), (PK.outs [.one (.ro (.int .i64)), .one (.ro (.int .i64)), .one (.ro .bool)] y).drop 3)) x.1 x.2 := by kernel_rfl
theorem k13 : CalleeOk Try.prog 13 c13 := callee_mk Try.func13 (code := codeOf Try.f13) (by kernel_rfl) vL13 mixed (LoOk.nil (by kernel_rfl)) fun x y h => (e13 x).trans (p13 _ x.1 x.2 y h)

/-- impl.GapOf -/
def EL14 : Nat → Option Callee := addE 33 c33 env0
theorem vL14 : EnvOk Try.prog EL14 := EnvOk.nil.add Try.func33 rfl (by kernel_rfl) k33
def impl_GapOfK {R : Type} (fin : Int × Int × Bool → Option R) (x0 : Int) (x1 : Int) : Option R :=
  cond (decide (x0 < 0))
  (fin (0, (0, false)))
  (cond (decide (x0 > x1))
    (fin (0, (0, false)))
    (cond (decide (x1 > 1000000000000000))
      (fin (0, (0, false)))
      (cond (x1 == 0)
        (fin (0, (1, true)))
        ((impl_lowest (IntKind.i64.wrap (x1 - x0)) x1).bind fun y1 =>
          fin (y1.1, (y1.2, true))))))
def impl_GapOf (x0 : Int) (x1 : Int) : Option (Int × Int × Bool) := impl_GapOfK some x0 x1
theorem p14 {R : Type} (fin : Int × Int × Bool → Option R) (x0 : Int) (x1 : Int) : Par fin (impl_GapOfK some x0 x1) (impl_GapOfK fin x0 x1) := by
  unfold impl_GapOfK
  repeat' (first | exact .fin | exact .none | refine .cond ?_ ?_ | refine .bind fun _ => ?_ | refine .sum (fun _ => ?_) fun _ => ?_)
def c14 : Callee := mkC [.one (.ro (.int .i64)), .one (.ro (.int .i64))] 3 [.one (.ro (.int .i64)), .one (.ro (.int .i64)), .one (.ro .bool)] fun x => impl_GapOf x.1 x.2
theorem e14 (x : PK.dens [.one (.ro (.int .i64)), .one (.ro (.int .i64))]) : evalFn Try.prog EL14 or0 Try.f14 (PK.outs [.one (.ro (.int .i64)), .one (.ro (.int .i64))] x) =
    impl_GapOfK (fun y => some (tupOf ((PK.outs [.one (.ro (.int .i64)), .one (.ro (.int .i64)), .one (.ro .bool)] y).take 3), (PK.outs [.one (.ro (.int .i64)), .one (.ro (.int .i64)), .one (.ro .bool)] y).drop 3)) x.1 x.2 := by kernel_rfl
theorem k14 : CalleeOk Try.prog 14 c14 := callee_mk Try.func14 (code := codeOf Try.f14) (by kernel_rfl) vL14 mixed (LoOk.nil (by kernel_rfl)) fun x y h => (e14 x).trans (p14 _ x.1 x.2 y h)

/-- laws.FnExactGapOf -/
def EL4 : Nat → Option Callee := addE 14 c14 (addE 13 c13 env0)
theorem vL4 : EnvOk Try.prog EL4 := (EnvOk.nil.add Try.func13 rfl (by kernel_rfl) k13).add Try.func14 rfl (by kernel_rfl) k14
def laws_FnExactGapOfK {R : Type} (fin : Bool → Option R) (x0 : Int) (x1 : Int) : Option R :=
  (spec_GapOf x0 x1).bind fun y1 =>
  (impl_GapOf x0 x1).bind fun y2 =>
  cond (y2.1 != y1.1)
  (fin false)
  (cond (y2.2.1 != y1.2.1)
    (fin false)
    (cond (!(y2.2.2 == y1.2.2))
      (fin false)
      (fin true)))
def laws_FnExactGapOf (x0 : Int) (x1 : Int) : Option (Bool) := laws_FnExactGapOfK some x0 x1
theorem p4 {R : Type} (fin : Bool → Option R) (x0 : Int) (x1 : Int) : Par fin (laws_FnExactGapOfK some x0 x1) (laws_FnExactGapOfK fin x0 x1) := by
  unfold laws_FnExactGapOfK
  repeat' (first | exact .fin | exact .none | refine .cond ?_ ?_ | refine .bind fun _ => ?_ | refine .sum (fun _ => ?_) fun _ => ?_)
def c4 : Callee := mkC [.one (.ro (.int .i64)), .one (.ro (.int .i64))] 1 [.one (.ro .bool)] fun x => laws_FnExactGapOf x.1 x.2
theorem e4 (x : PK.dens [.one (.ro (.int .i64)), .one (.ro (.int .i64))]) : evalFn Try.prog EL4 or0 Try.f4 (PK.outs [.one (.ro (.int .i64)), .one (.ro (.int .i64))] x) =
    laws_FnExactGapOfK (fun y => some (tupOf ((PK.outs [.one (.ro .bool)] y).take 1), (PK.outs [.one (.ro .bool)] y).drop 1)) x.1 x.2 := by kernel_rfl
theorem k4 : CalleeOk Try.prog 4 c4 := callee_mk Try.func4 (code := codeOf Try.f4) (by kernel_rfl) vL4 mixed (LoOk.nil (by kernel_rfl)) fun x y h => (e4 x).trans (p4 _ x.1 x.2 y h)
end
end Go.OAI
