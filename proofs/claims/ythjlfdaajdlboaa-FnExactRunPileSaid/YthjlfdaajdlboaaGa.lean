/- Contracts. -/
import Derived.Test.YthjlfdaajdlboaaK3
import Derived.Test.YthjlfdaajdlboaaProg
namespace Go.OAI
open Go.Proofs
set_option linter.unusedVariables false
noncomputable section

@[reducible] def TLot : Ty := .pair (.int .i64) (.pair (.int .i64) .unit)
abbrev DLot : Type := Int × Int × Unit
@[reducible] def TPile : Ty := .pair .bool (.pair (.int .i64) (.pair (.slice TLot) .unit))
abbrev DPile : Type := Bool × Int × (List DLot) × Unit
@[reducible] def TStir : Ty := .pair .bool (.pair (.int .i64) (.pair (.int .i64) .unit))
abbrev DStir : Type := Bool × Int × Int × Unit
def or0 : Ora := { lo := fun _ => none }
theorem mixed : Try.prog.follows .mixedOrders = true := by kernel_rfl

/-- laws.toLot -/
def EL14 : Nat → Option Callee := env0
theorem vL14 : EnvOk Try.prog EL14 := EnvOk.nil
def laws_toLotK {R : Type} (fin : DLot → Option R) (x0 : DLot) : Option R :=
  fin x0
def laws_toLot (x0 : DLot) : Option (DLot) := laws_toLotK some x0
theorem p14 {R : Type} (fin : DLot → Option R) (x0 : DLot) : Par fin (laws_toLotK some x0) (laws_toLotK fin x0) := by
  unfold laws_toLotK
  repeat' (first | exact .fin | exact .none | refine .cond ?_ ?_ | refine .bind fun _ => ?_ | refine .sum (fun _ => ?_) fun _ => ?_)
def c14 : Callee := mkC [.agg [.ro TLot]] 1 [.agg [.ro TLot]] fun x => laws_toLot x
theorem e14 (x : PK.dens [.agg [.ro TLot]]) : evalFn Try.prog EL14 or0 Try.f14 (PK.outs [.agg [.ro TLot]] x) =
    laws_toLotK (fun y => some (tupOf ((PK.outs [.agg [.ro TLot]] y).take 1), (PK.outs [.agg [.ro TLot]] y).drop 1)) x := by kernel_rfl
theorem k14 : CalleeOk Try.prog 14 c14 := callee_mk Try.func14 (code := codeOf Try.f14) (by kernel_rfl) vL14 mixed (LoOk.nil (by kernel_rfl)) fun x y h => (e14 x).trans (p14 _ x y h)

/-- spec.l1In -/
def EL46 : Nat → Option Callee := env0
theorem vL46 : EnvOk Try.prog EL46 := EnvOk.nil
def spec_l1InK {R : Type} (fin : Bool → Option R) (x0 : Int) (x1 : Int) (x2 : Int) : Option R :=
  cond (decide (x0 ≥ x1))
  (fin (decide (x0 ≤ x2)))
  (fin false)
def spec_l1In (x0 : Int) (x1 : Int) (x2 : Int) : Option (Bool) := spec_l1InK some x0 x1 x2
theorem p46 {R : Type} (fin : Bool → Option R) (x0 : Int) (x1 : Int) (x2 : Int) : Par fin (spec_l1InK some x0 x1 x2) (spec_l1InK fin x0 x1 x2) := by
  unfold spec_l1InK
  repeat' (first | exact .fin | exact .none | refine .cond ?_ ?_ | refine .bind fun _ => ?_ | refine .sum (fun _ => ?_) fun _ => ?_)
def c46 : Callee := mkC [.one (.ro (.int .i64)), .one (.ro (.int .i64)), .one (.ro (.int .i64))] 1 [.one (.ro .bool)] fun x => spec_l1In x.1 x.2.1 x.2.2
theorem e46 (x : PK.dens [.one (.ro (.int .i64)), .one (.ro (.int .i64)), .one (.ro (.int .i64))]) : evalFn Try.prog EL46 or0 Try.f46 (PK.outs [.one (.ro (.int .i64)), .one (.ro (.int .i64)), .one (.ro (.int .i64))] x) =
    spec_l1InK (fun y => some (tupOf ((PK.outs [.one (.ro .bool)] y).take 1), (PK.outs [.one (.ro .bool)] y).drop 1)) x.1 x.2.1 x.2.2 := by kernel_rfl
theorem k46 : CalleeOk Try.prog 46 c46 := callee_mk Try.func46 (code := codeOf Try.f46) (by kernel_rfl) vL46 mixed (LoOk.nil (by kernel_rfl)) fun x y h => (e46 x).trans (p46 _ x.1 x.2.1 x.2.2 y h)

/-- spec.spLot -/
def EL45 : Nat → Option Callee := addE 46 c46 env0
theorem vL45 : EnvOk Try.prog EL45 := EnvOk.nil.add Try.func46 rfl (by kernel_rfl) k46
def spec_spLotK {R : Type} (fin : Bool → Option R) (x0 : DLot) : Option R :=
  (spec_l1In x0.1 1 1000000).bind fun y1 =>
  cond (y1)
  ((spec_l1In x0.2.1 0 (IntKind.i64.wrap (1000 * x0.1))).bind fun y2 =>
    fin y2)
  (fin false)
def spec_spLot (x0 : DLot) : Option (Bool) := spec_spLotK some x0
theorem p45 {R : Type} (fin : Bool → Option R) (x0 : DLot) : Par fin (spec_spLotK some x0) (spec_spLotK fin x0) := by
  unfold spec_spLotK
  repeat' (first | exact .fin | exact .none | refine .cond ?_ ?_ | refine .bind fun _ => ?_ | refine .sum (fun _ => ?_) fun _ => ?_)
def c45 : Callee := mkC [.agg [.ro TLot]] 1 [.one (.ro .bool)] fun x => spec_spLot x
theorem e45 (x : PK.dens [.agg [.ro TLot]]) : evalFn Try.prog EL45 or0 Try.f45 (PK.outs [.agg [.ro TLot]] x) =
    spec_spLotK (fun y => some (tupOf ((PK.outs [.one (.ro .bool)] y).take 1), (PK.outs [.one (.ro .bool)] y).drop 1)) x := by kernel_rfl
theorem k45 : CalleeOk Try.prog 45 c45 := callee_mk Try.func45 (code := codeOf Try.f45) (by kernel_rfl) vL45 mixed (LoOk.nil (by kernel_rfl)) fun x y h => (e45 x).trans (p45 _ x y h)

/-- spec.spSplit -/
def EL47 : Nat → Option Callee := env0
theorem vL47 : EnvOk Try.prog EL47 := EnvOk.nil
def spec_spSplitK {R : Type} (fin : DLot × DLot → Option R) (x0 : DLot) (x1 : Int) : Option R :=
  cond (decide (x0.1 = 0))
  (none)
  ((some (IntKind.i64.wrap (x0.2.1 - (IntKind.i64.wrap ((IntKind.i64.wrap (x0.2.1 * x1)).tdiv x0.1))))).bind fun v1 =>
    fin ((x1, (IntKind.i64.wrap ((IntKind.i64.wrap (x0.2.1 * x1)).tdiv x0.1), ())), (IntKind.i64.wrap (x0.1 - x1), (v1, ()))))
def spec_spSplit (x0 : DLot) (x1 : Int) : Option (DLot × DLot) := spec_spSplitK some x0 x1
theorem p47 {R : Type} (fin : DLot × DLot → Option R) (x0 : DLot) (x1 : Int) : Par fin (spec_spSplitK some x0 x1) (spec_spSplitK fin x0 x1) := by
  unfold spec_spSplitK
  repeat' (first | exact .fin | exact .none | refine .cond ?_ ?_ | refine .bind fun _ => ?_ | refine .sum (fun _ => ?_) fun _ => ?_)
def c47 : Callee := mkC [.agg [.ro TLot], .one (.ro (.int .i64))] 2 [.agg [.ro TLot], .agg [.ro TLot]] fun x => spec_spSplit x.1 x.2
theorem e47 (x : PK.dens [.agg [.ro TLot], .one (.ro (.int .i64))]) : evalFn Try.prog EL47 or0 Try.f47 (PK.outs [.agg [.ro TLot], .one (.ro (.int .i64))] x) =
    spec_spSplitK (fun y => some (tupOf ((PK.outs [.agg [.ro TLot], .agg [.ro TLot]] y).take 2), (PK.outs [.agg [.ro TLot], .agg [.ro TLot]] y).drop 2)) x.1 x.2 := by kernel_rfl
theorem k47 : CalleeOk Try.prog 47 c47 := callee_mk Try.func47 (code := codeOf Try.f47) (by kernel_rfl) vL47 mixed (LoOk.nil (by kernel_rfl)) fun x y h => (e47 x).trans (p47 _ x.1 x.2 y h)

/-- spec.SplitLot -/
def EL13 : Nat → Option Callee := addE 47 c47 (addE 46 c46 (addE 45 c45 env0))
theorem vL13 : EnvOk Try.prog EL13 := ((EnvOk.nil.add Try.func45 rfl (by kernel_rfl) k45).add Try.func46 rfl (by kernel_rfl) k46).add Try.func47 rfl (by kernel_rfl) k47
def spec_SplitLotK {R : Type} (fin : DLot × DLot × Bool → Option R) (x0 : DLot) (x1 : Int) : Option R :=
  (spec_spLot x0).bind fun y1 =>
  cond (!y1)
  (fin ((0, (0, ())), ((0, (0, ())), false)))
  ((spec_l1In x1 1 (IntKind.i64.wrap (x0.1 - 1))).bind fun y2 =>
    cond (!y2)
    (fin ((0, (0, ())), ((0, (0, ())), false)))
    ((spec_spSplit x0 x1).bind fun y3 =>
      fin (y3.1, (y3.2, true))))
def spec_SplitLot (x0 : DLot) (x1 : Int) : Option (DLot × DLot × Bool) := spec_SplitLotK some x0 x1
theorem p13 {R : Type} (fin : DLot × DLot × Bool → Option R) (x0 : DLot) (x1 : Int) : Par fin (spec_SplitLotK some x0 x1) (spec_SplitLotK fin x0 x1) := by
  unfold spec_SplitLotK
  repeat' (first | exact .fin | exact .none | refine .cond ?_ ?_ | refine .bind fun _ => ?_ | refine .sum (fun _ => ?_) fun _ => ?_)
def c13 : Callee := mkC [.agg [.ro TLot], .one (.ro (.int .i64))] 3 [.agg [.ro TLot], .agg [.ro TLot], .one (.ro .bool)] fun x => spec_SplitLot x.1 x.2
theorem e13 (x : PK.dens [.agg [.ro TLot], .one (.ro (.int .i64))]) : evalFn Try.prog EL13 or0 Try.f13 (PK.outs [.agg [.ro TLot], .one (.ro (.int .i64))] x) =
    spec_SplitLotK (fun y => some (tupOf ((PK.outs [.agg [.ro TLot], .agg [.ro TLot], .one (.ro .bool)] y).take 3), (PK.outs [.agg [.ro TLot], .agg [.ro TLot], .one (.ro .bool)] y).drop 3)) x.1 x.2 := by kernel_rfl
theorem k13 : CalleeOk Try.prog 13 c13 := callee_mk Try.func13 (code := codeOf Try.f13) (by kernel_rfl) vL13 mixed (LoOk.nil (by kernel_rfl)) fun x y h => (e13 x).trans (p13 _ x.1 x.2 y h)

/-- impl.isLot -/
def EL48 : Nat → Option Callee := env0
theorem vL48 : EnvOk Try.prog EL48 := EnvOk.nil
def impl_isLotK {R : Type} (fin : Bool → Option R) (x0 : DLot) : Option R :=
  cond (decide (x0.1 ≥ 1))
  (cond (decide (x0.1 ≤ 1000000))
    (cond (decide (x0.2.1 ≥ 0))
      (fin (decide (x0.2.1 ≤ (IntKind.i64.wrap (1000 * x0.1)))))
      (fin false))
    (fin false))
  (fin false)
def impl_isLot (x0 : DLot) : Option (Bool) := impl_isLotK some x0
theorem p48 {R : Type} (fin : Bool → Option R) (x0 : DLot) : Par fin (impl_isLotK some x0) (impl_isLotK fin x0) := by
  unfold impl_isLotK
  repeat' (first | exact .fin | exact .none | refine .cond ?_ ?_ | refine .bind fun _ => ?_ | refine .sum (fun _ => ?_) fun _ => ?_)
def c48 : Callee := mkC [.agg [.ro TLot]] 1 [.one (.ro .bool)] fun x => impl_isLot x
theorem e48 (x : PK.dens [.agg [.ro TLot]]) : evalFn Try.prog EL48 or0 Try.f48 (PK.outs [.agg [.ro TLot]] x) =
    impl_isLotK (fun y => some (tupOf ((PK.outs [.one (.ro .bool)] y).take 1), (PK.outs [.one (.ro .bool)] y).drop 1)) x := by kernel_rfl
theorem k48 : CalleeOk Try.prog 48 c48 := callee_mk Try.func48 (code := codeOf Try.f48) (by kernel_rfl) vL48 mixed (LoOk.nil (by kernel_rfl)) fun x y h => (e48 x).trans (p48 _ x y h)

/-- impl.splitOff -/
def EL49 : Nat → Option Callee := env0
theorem vL49 : EnvOk Try.prog EL49 := EnvOk.nil
def impl_splitOffK {R : Type} (fin : DLot → Option R) (x0 : DLot) (x1 : Int) : Option R :=
  cond (decide (x0.1 = 0))
  (none)
  (fin (x1, (IntKind.i64.wrap ((IntKind.i64.wrap (x0.2.1 * x1)).tdiv x0.1), ())))
def impl_splitOff (x0 : DLot) (x1 : Int) : Option (DLot) := impl_splitOffK some x0 x1
theorem p49 {R : Type} (fin : DLot → Option R) (x0 : DLot) (x1 : Int) : Par fin (impl_splitOffK some x0 x1) (impl_splitOffK fin x0 x1) := by
  unfold impl_splitOffK
  repeat' (first | exact .fin | exact .none | refine .cond ?_ ?_ | refine .bind fun _ => ?_ | refine .sum (fun _ => ?_) fun _ => ?_)
def c49 : Callee := mkC [.agg [.ro TLot], .one (.ro (.int .i64))] 1 [.agg [.ro TLot]] fun x => impl_splitOff x.1 x.2
theorem e49 (x : PK.dens [.agg [.ro TLot], .one (.ro (.int .i64))]) : evalFn Try.prog EL49 or0 Try.f49 (PK.outs [.agg [.ro TLot], .one (.ro (.int .i64))] x) =
    impl_splitOffK (fun y => some (tupOf ((PK.outs [.agg [.ro TLot]] y).take 1), (PK.outs [.agg [.ro TLot]] y).drop 1)) x.1 x.2 := by kernel_rfl
theorem k49 : CalleeOk Try.prog 49 c49 := callee_mk Try.func49 (code := codeOf Try.f49) (by kernel_rfl) vL49 mixed (LoOk.nil (by kernel_rfl)) fun x y h => (e49 x).trans (p49 _ x.1 x.2 y h)

/-- impl.SplitLot -/
def EL15 : Nat → Option Callee := addE 49 c49 (addE 48 c48 env0)
theorem vL15 : EnvOk Try.prog EL15 := (EnvOk.nil.add Try.func48 rfl (by kernel_rfl) k48).add Try.func49 rfl (by kernel_rfl) k49
def impl_SplitLotK {R : Type} (fin : DLot × DLot × Bool → Option R) (x0 : DLot) (x1 : Int) : Option R :=
  (impl_isLot x0).bind fun y1 =>
  cond (!y1)
  (fin ((0, (0, ())), ((0, (0, ())), false)))
  (cond (decide (x1 < 1))
    (fin ((0, (0, ())), ((0, (0, ())), false)))
    (cond (decide (x1 ≥ x0.1))
      (fin ((0, (0, ())), ((0, (0, ())), false)))
      ((impl_splitOff x0 x1).bind fun y2 =>
        fin (y2, ((IntKind.i64.wrap (x0.1 - y2.1), (IntKind.i64.wrap (x0.2.1 - y2.2.1), ())), true)))))
def impl_SplitLot (x0 : DLot) (x1 : Int) : Option (DLot × DLot × Bool) := impl_SplitLotK some x0 x1
theorem p15 {R : Type} (fin : DLot × DLot × Bool → Option R) (x0 : DLot) (x1 : Int) : Par fin (impl_SplitLotK some x0 x1) (impl_SplitLotK fin x0 x1) := by
  unfold impl_SplitLotK
  repeat' (first | exact .fin | exact .none | refine .cond ?_ ?_ | refine .bind fun _ => ?_ | refine .sum (fun _ => ?_) fun _ => ?_)
def c15 : Callee := mkC [.agg [.ro TLot], .one (.ro (.int .i64))] 3 [.agg [.ro TLot], .agg [.ro TLot], .one (.ro .bool)] fun x => impl_SplitLot x.1 x.2
theorem e15 (x : PK.dens [.agg [.ro TLot], .one (.ro (.int .i64))]) : evalFn Try.prog EL15 or0 Try.f15 (PK.outs [.agg [.ro TLot], .one (.ro (.int .i64))] x) =
    impl_SplitLotK (fun y => some (tupOf ((PK.outs [.agg [.ro TLot], .agg [.ro TLot], .one (.ro .bool)] y).take 3), (PK.outs [.agg [.ro TLot], .agg [.ro TLot], .one (.ro .bool)] y).drop 3)) x.1 x.2 := by kernel_rfl
theorem k15 : CalleeOk Try.prog 15 c15 := callee_mk Try.func15 (code := codeOf Try.f15) (by kernel_rfl) vL15 mixed (LoOk.nil (by kernel_rfl)) fun x y h => (e15 x).trans (p15 _ x.1 x.2 y h)

/-- laws.eqLot -/
def EL16 : Nat → Option Callee := env0
theorem vL16 : EnvOk Try.prog EL16 := EnvOk.nil
def laws_eqLotK {R : Type} (fin : Bool → Option R) (x0 : DLot) (x1 : DLot) : Option R :=
  cond (x0.1 != x1.1)
  (fin false)
  (cond (x0.2.1 != x1.2.1)
    (fin false)
    (fin true))
def laws_eqLot (x0 : DLot) (x1 : DLot) : Option (Bool) := laws_eqLotK some x0 x1
theorem p16 {R : Type} (fin : Bool → Option R) (x0 : DLot) (x1 : DLot) : Par fin (laws_eqLotK some x0 x1) (laws_eqLotK fin x0 x1) := by
  unfold laws_eqLotK
  repeat' (first | exact .fin | exact .none | refine .cond ?_ ?_ | refine .bind fun _ => ?_ | refine .sum (fun _ => ?_) fun _ => ?_)
def c16 : Callee := mkC [.agg [.ro TLot], .agg [.ro TLot]] 1 [.one (.ro .bool)] fun x => laws_eqLot x.1 x.2
theorem e16 (x : PK.dens [.agg [.ro TLot], .agg [.ro TLot]]) : evalFn Try.prog EL16 or0 Try.f16 (PK.outs [.agg [.ro TLot], .agg [.ro TLot]] x) =
    laws_eqLotK (fun y => some (tupOf ((PK.outs [.one (.ro .bool)] y).take 1), (PK.outs [.one (.ro .bool)] y).drop 1)) x.1 x.2 := by kernel_rfl
theorem k16 : CalleeOk Try.prog 16 c16 := callee_mk Try.func16 (code := codeOf Try.f16) (by kernel_rfl) vL16 mixed (LoOk.nil (by kernel_rfl)) fun x y h => (e16 x).trans (p16 _ x.1 x.2 y h)

/-- laws.FnExactSplitLot -/
def EL3 : Nat → Option Callee := addE 16 c16 (addE 15 c15 (addE 13 c13 (addE 14 c14 env0)))
theorem vL3 : EnvOk Try.prog EL3 := (((EnvOk.nil.add Try.func14 rfl (by kernel_rfl) k14).add Try.func13 rfl (by kernel_rfl) k13).add Try.func15 rfl (by kernel_rfl) k15).add Try.func16 rfl (by kernel_rfl) k16
def laws_FnExactSplitLotK {R : Type} (fin : Bool → Option R) (x0 : DLot) (x1 : Int) : Option R :=
  (laws_toLot x0).bind fun y1 =>
  (spec_SplitLot y1 x1).bind fun y2 =>
  (laws_toLot x0).bind fun y3 =>
  (impl_SplitLot y3 x1).bind fun y4 =>
  (laws_eqLot y4.1 y2.1).bind fun y5 =>
  cond (!y5)
  (fin false)
  ((laws_eqLot y4.2.1 y2.2.1).bind fun y6 =>
    cond (!y6)
    (fin false)
    (cond (!(y4.2.2 == y2.2.2))
      (fin false)
      (fin true)))
def laws_FnExactSplitLot (x0 : DLot) (x1 : Int) : Option (Bool) := laws_FnExactSplitLotK some x0 x1
theorem p3 {R : Type} (fin : Bool → Option R) (x0 : DLot) (x1 : Int) : Par fin (laws_FnExactSplitLotK some x0 x1) (laws_FnExactSplitLotK fin x0 x1) := by
  unfold laws_FnExactSplitLotK
  repeat' (first | exact .fin | exact .none | refine .cond ?_ ?_ | refine .bind fun _ => ?_ | refine .sum (fun _ => ?_) fun _ => ?_)
def c3 : Callee := mkC [.agg [.ro TLot], .one (.ro (.int .i64))] 1 [.one (.ro .bool)] fun x => laws_FnExactSplitLot x.1 x.2
theorem e3 (x : PK.dens [.agg [.ro TLot], .one (.ro (.int .i64))]) : evalFn Try.prog EL3 or0 Try.f3 (PK.outs [.agg [.ro TLot], .one (.ro (.int .i64))] x) =
    laws_FnExactSplitLotK (fun y => some (tupOf ((PK.outs [.one (.ro .bool)] y).take 1), (PK.outs [.one (.ro .bool)] y).drop 1)) x.1 x.2 := by kernel_rfl
theorem k3 : CalleeOk Try.prog 3 c3 := callee_mk Try.func3 (code := codeOf Try.f3) (by kernel_rfl) vL3 mixed (LoOk.nil (by kernel_rfl)) fun x y h => (e3 x).trans (p3 _ x.1 x.2 y h)

/-- laws.szLotS -/
def EL50 : Nat → Option Callee := env0
theorem vL50 : EnvOk Try.prog EL50 := EnvOk.nil
def laws_szLotSK {R : Type} (fin : Int → Option R) (x0 : List DLot) (x1 : Int) : Option R :=
  cond (decide ((IntKind.i64.wrap (x1 - (x0.length : Int))) < 0))
  (fin (-1))
  (fin (IntKind.i64.wrap (x1 - (x0.length : Int))))
def laws_szLotS (x0 : List DLot) (x1 : Int) : Option (Int) := laws_szLotSK some x0 x1
theorem p50 {R : Type} (fin : Int → Option R) (x0 : List DLot) (x1 : Int) : Par fin (laws_szLotSK some x0 x1) (laws_szLotSK fin x0 x1) := by
  unfold laws_szLotSK
  repeat' (first | exact .fin | exact .none | refine .cond ?_ ?_ | refine .bind fun _ => ?_ | refine .sum (fun _ => ?_) fun _ => ?_)
def c50 : Callee := mkC [.one (.ro (.slice TLot)), .one (.ro (.int .i64))] 1 [.one (.ro (.int .i64))] fun x => laws_szLotS x.1 x.2
theorem e50 (x : PK.dens [.one (.ro (.slice TLot)), .one (.ro (.int .i64))]) : evalFn Try.prog EL50 or0 Try.f50 (PK.outs [.one (.ro (.slice TLot)), .one (.ro (.int .i64))] x) =
    laws_szLotSK (fun y => some (tupOf ((PK.outs [.one (.ro (.int .i64))] y).take 1), (PK.outs [.one (.ro (.int .i64))] y).drop 1)) x.1 x.2 := by kernel_rfl
theorem k50 : CalleeOk Try.prog 50 c50 := callee_mk Try.func50 (code := codeOf Try.f50) (by kernel_rfl) vL50 mixed (LoOk.nil (by kernel_rfl)) fun x y h => (e50 x).trans (p50 _ x.1 x.2 y h)

/-- laws.szPile -/
def EL17 : Nat → Option Callee := addE 50 c50 env0
theorem vL17 : EnvOk Try.prog EL17 := EnvOk.nil.add Try.func50 rfl (by kernel_rfl) k50
def laws_szPileK {R : Type} (fin : Int → Option R) (x0 : DPile) (x1 : Int) : Option R :=
  (laws_szLotS x0.2.2.1 x1).bind fun y1 =>
  cond (decide (y1 < 0))
  (fin (-1))
  (fin y1)
def laws_szPile (x0 : DPile) (x1 : Int) : Option (Int) := laws_szPileK some x0 x1
theorem p17 {R : Type} (fin : Int → Option R) (x0 : DPile) (x1 : Int) : Par fin (laws_szPileK some x0 x1) (laws_szPileK fin x0 x1) := by
  unfold laws_szPileK
  repeat' (first | exact .fin | exact .none | refine .cond ?_ ?_ | refine .bind fun _ => ?_ | refine .sum (fun _ => ?_) fun _ => ?_)
def c17 : Callee := mkC [.agg [.ro TPile], .one (.ro (.int .i64))] 1 [.one (.ro (.int .i64))] fun x => laws_szPile x.1 x.2
theorem e17 (x : PK.dens [.agg [.ro TPile], .one (.ro (.int .i64))]) : evalFn Try.prog EL17 or0 Try.f17 (PK.outs [.agg [.ro TPile], .one (.ro (.int .i64))] x) =
    laws_szPileK (fun y => some (tupOf ((PK.outs [.one (.ro (.int .i64))] y).take 1), (PK.outs [.one (.ro (.int .i64))] y).drop 1)) x.1 x.2 := by kernel_rfl
theorem k17 : CalleeOk Try.prog 17 c17 := callee_mk Try.func17 (code := codeOf Try.f17) (by kernel_rfl) vL17 mixed (LoOk.nil (by kernel_rfl)) fun x y h => (e17 x).trans (p17 _ x.1 x.2 y h)

/-- laws.toLotS -/
def EL52 : Nat → Option Callee := addE 14 c14 env0
theorem vL52 : EnvOk Try.prog EL52 := EnvOk.nil.add Try.func14 rfl (by kernel_rfl) k14
def slaws_toLotS_l0 : LS := ⟨[(0, .one (.dat (.slice TLot))), (3, .one (.fix (.sref 0))), (4, .one (.dat (.int .i64)))], [.sl TLot], []⟩
def slaws_toLotS_l0x0 : LS := ⟨[(3, .one (.fix (.sref 0)))], [.sl TLot], []⟩
def xlaws_toLotS_l0 : List (XS (List DLot)) := [⟨.exit 0, ⟨[3], [.slot 3], [], []⟩, slaws_toLotS_l0x0, List DLot, fun i y => (((), ()), (y, ()))⟩]
def laws_toLotS_l0K {R : Type} (a0 : List DLot) (rc : Int → List DLot → Option R) (fin : List DLot → Option R) (a1 : Int) (a2 : List DLot) : Option R :=
  cond (decide (a1 < (a0.length : Int)))
  ((lat a0 a1).bind fun e1 =>
    (laws_toLot e1).bind fun y2 =>
    cond (decide ((0 : Int) ≤ a1) && decide (a1 < (a2.length : Int)))
    ((some (a2.set (0 + a1.toNat) y2)).bind fun v3 =>
      rc (IntKind.i64.wrap (a1 + 1)) v3)
    (none))
  (fin a2)
def laws_toLotS_l0F (a0 : List DLot) (r : (Int × (List DLot)) → Option (List DLot)) (x : Int × (List DLot)) : Option (List DLot) := laws_toLotS_l0K a0 (fun a1 a2 => r (a1, a2)) some x.1 x.2
theorem laws_toLotS_l0c (a0 : List DLot) (x : Int × (List DLot)) : Ct fun r => laws_toLotS_l0F a0 r x := by
  unfold laws_toLotS_l0F laws_toLotS_l0K
  repeat' (first | exact Ct.const | exact Ct.call | refine Ct.cond ?_ ?_ | refine Ct.bind ?_ fun _ => ?_ | refine Ct.sum (fun _ => ?_) fun _ => ?_)
def laws_toLotS_l0 (a0 : List DLot) (a1 : Int) (a2 : List DLot) : Option (List DLot) := lim (laws_toLotS_l0F a0) (a1, a2)
theorem laws_toLotS_l0_eq (a0 : List DLot) (a1 : Int) (a2 : List DLot) : laws_toLotS_l0 a0 a1 a2 = laws_toLotS_l0K a0 (laws_toLotS_l0 a0) some a1 a2 := lim_eq (laws_toLotS_l0c a0) (a1, a2)
theorem laws_toLotS_l0p {R : Type} (a0 : List DLot) {rc : Int → List DLot → Option (List DLot)} {rc' : Int → List DLot → Option R} {fin : List DLot → Option R} (hr : ∀ a1 a2, Par fin (rc a1 a2) (rc' a1 a2)) (a1 : Int) (a2 : List DLot) : Par fin (laws_toLotS_l0K a0 rc some a1 a2) (laws_toLotS_l0K a0 rc' fin a1 a2) := by
  unfold laws_toLotS_l0K
  repeat' (first | exact .fin | exact .none | exact hr _ _ | refine .cond ?_ ?_ | refine .bind fun _ => ?_ | refine .sum (fun _ => ?_) fun _ => ?_)
def Llaws_toLotS_l0 : Loop := mkL ⟨[0, 3, 4], [.slot 3], [], []⟩ slaws_toLotS_l0 xlaws_toLotS_l0 (fun (x : ((List DLot) × Unit × Int × Unit) × ((List DLot) × Unit)) => x.1.1) fun (x : ((List DLot) × Unit × Int × Unit) × ((List DLot) × Unit)) => laws_toLotS_l0 x.1.1 x.1.2.2.1 x.2.1
def laws_toLotSK {R : Type} (fin : List DLot → Option R) (x0 : List DLot) : Option R :=
  cond (decide ((0 : Int) ≤ (x0.length : Int)) && (decide ((x0.length : Int) ≤ (x0.length : Int)) && decide ((x0.length : Int) ≤ 1099511627776)))
  ((some ((List.replicate ((x0.length : Int).toNat) (0, (0, ())) : List DLot))).bind fun v1 =>
    (laws_toLotS_l0 x0 0 v1).bind fun y5 =>
    fin y5)
  (none)
def laws_toLotS (x0 : List DLot) : Option (List DLot) := laws_toLotSK some x0
theorem p52 {R : Type} (fin : List DLot → Option R) (x0 : List DLot) : Par fin (laws_toLotSK some x0) (laws_toLotSK fin x0) := by
  unfold laws_toLotSK
  repeat' (first | exact .fin | exact .none | refine .cond ?_ ?_ | refine .bind fun _ => ?_ | refine .sum (fun _ => ?_) fun _ => ?_)
def or52 : Ora := { lo := addL 3 (Llaws_toLotS_l0) lo0, fin := [] }
theorem laws_toLotS_l0e (a0 : List DLot) (k : Nat) (a1 : Int) (a2 : List DLot) : loopC Try.prog EL52 or52 ((loopsIn (codeOf Try.f52)).getD 0 .skip) (Llaws_toLotS_l0).h (Llaws_toLotS_l0).ho Try.f52.ntmps (k + 1) (slaws_toLotS_l0.out ((a0, ((), (a1, ()))), (a2, ()))) =
    laws_toLotS_l0K a0 (fun a1 a2 => loopC Try.prog EL52 or52 ((loopsIn (codeOf Try.f52)).getD 0 .skip) (Llaws_toLotS_l0).h (Llaws_toLotS_l0).ho Try.f52.ntmps k (slaws_toLotS_l0.out ((a0, ((), (a1, ()))), (a2, ())))) (fun y => some (XS.out xlaws_toLotS_l0 a0 y)) a1 a2 := by kernel_rfl
theorem laws_toLotS_l0o : LoopOk Try.prog EL52 or52 Try.f52.ntmps ((loopsIn (codeOf Try.f52)).getD 0 .skip) (Llaws_toLotS_l0) :=
  loop_lim (hs := slaws_toLotS_l0) (xs := xlaws_toLotS_l0) (ι := fun (x : ((List DLot) × Unit × Int × Unit) × ((List DLot) × Unit)) => x.1.1) (φ := fun (x : ((List DLot) × Unit × Int × Unit) × ((List DLot) × Unit)) => (x.1.2.2.1, x.2.1)) (ψ := fun (i : List DLot) (v : Int × (List DLot)) => ((i, ((), (v.1, ()))), (v.2, ()))) (F := fun (i : List DLot) => laws_toLotS_l0F i) (fun _ => rfl) fun i k hk v => Par.of_eq (laws_toLotS_l0e i k v.1 v.2) (laws_toLotS_l0p i (fun a1 a2 => hk (a1, a2)) v.1 v.2)
def c52 : Callee := mkC [.one (.ro (.slice TLot))] 1 [.one (.sl TLot)] fun x => laws_toLotS x
theorem e52 (x : PK.dens [.one (.ro (.slice TLot))]) : evalFn Try.prog EL52 or52 Try.f52 (PK.outs [.one (.ro (.slice TLot))] x) =
    laws_toLotSK (fun y => some (tupOf ((PK.outs [.one (.sl TLot)] y).take 1), (PK.outs [.one (.sl TLot)] y).drop 1)) x := by kernel_rfl
theorem o52 : LoOk Try.prog EL52 or52 Try.f52.ntmps (loopsIn (codeOf Try.f52)) :=
  LoOk.mk (m := 1) (by kernel_rfl) fun i hi => match i, hi with
    | 0, _ => ⟨Llaws_toLotS_l0, by kernel_rfl, laws_toLotS_l0o⟩
    | i + 1, hi => absurd hi (by omega)
theorem k52 : CalleeOk Try.prog 52 c52 := callee_mk Try.func52 (code := codeOf Try.f52) (by kernel_rfl) vL52 mixed o52 fun x y h => (e52 x).trans (p52 _ x y h)

/-- laws.toPile -/
def EL19 : Nat → Option Callee := addE 52 c52 env0
theorem vL19 : EnvOk Try.prog EL19 := EnvOk.nil.add Try.func52 rfl (by kernel_rfl) k52
def laws_toPileK {R : Type} (fin : Bool × Int × (List DLot) → Option R) (x0 : DPile) : Option R :=
  (laws_toLotS x0.2.2.1).bind fun y1 =>
  fin (x0.1, (x0.2.1, y1))
def laws_toPile (x0 : DPile) : Option (Bool × Int × (List DLot)) := laws_toPileK some x0
theorem p19 {R : Type} (fin : Bool × Int × (List DLot) → Option R) (x0 : DPile) : Par fin (laws_toPileK some x0) (laws_toPileK fin x0) := by
  unfold laws_toPileK
  repeat' (first | exact .fin | exact .none | refine .cond ?_ ?_ | refine .bind fun _ => ?_ | refine .sum (fun _ => ?_) fun _ => ?_)
def c19 : Callee := mkC [.agg [.ro TPile]] 1 [.agg [.ro .bool, .ro (.int .i64), .sl TLot]] fun x => laws_toPile x
theorem e19 (x : PK.dens [.agg [.ro TPile]]) : evalFn Try.prog EL19 or0 Try.f19 (PK.outs [.agg [.ro TPile]] x) =
    laws_toPileK (fun y => some (tupOf ((PK.outs [.agg [.ro .bool, .ro (.int .i64), .sl TLot]] y).take 1), (PK.outs [.agg [.ro .bool, .ro (.int .i64), .sl TLot]] y).drop 1)) x := by kernel_rfl
theorem k19 : CalleeOk Try.prog 19 c19 := callee_mk Try.func19 (code := codeOf Try.f19) (by kernel_rfl) vL19 mixed (LoOk.nil (by kernel_rfl)) fun x y h => (e19 x).trans (p19 _ x y h)

/-- spec.spSums -/
def EL53 : Nat → Option Callee := env0
theorem vL53 : EnvOk Try.prog EL53 := EnvOk.nil
def sspec_spSums_l0 : LS := ⟨[(4, .one (.dat (.int .i64))), (5, .one (.dat (.int .i64))), (8, .one (.dat (.slice TLot))), (9, .one (.dat (.int .i64))), (10, .one (.dat (.int .i64)))], [], []⟩
def sspec_spSums_l0x0 : LS := ⟨[(4, .one (.dat (.int .i64))), (5, .one (.dat (.int .i64)))], [], []⟩
def xspec_spSums_l0 : List (XS ((List DLot) × Int)) := [⟨.exit 0, ⟨[4, 5], [], [], []⟩, sspec_spSums_l0x0, Int × Int, fun i y => ((y.1, (y.2, ())), ())⟩]
def spec_spSums_l0K {R : Type} (a2 : List DLot) (a3 : Int) (rc : Int → Int → Int → Option R) (fin : Int × Int → Option R) (a0 : Int) (a1 : Int) (a4 : Int) : Option R :=
  cond (decide (a4 < a3))
  ((lat a2 a4).bind fun e1 =>
    rc (IntKind.i64.wrap (a0 + e1.1)) (IntKind.i64.wrap (a1 + e1.2.1)) (IntKind.i64.wrap (a4 + 1)))
  (fin (a0, a1))
def spec_spSums_l0F (a2 : List DLot) (a3 : Int) (r : (Int × Int × Int) → Option (Int × Int)) (x : Int × Int × Int) : Option (Int × Int) := spec_spSums_l0K a2 a3 (fun a0 a1 a4 => r (a0, (a1, a4))) some x.1 x.2.1 x.2.2
theorem spec_spSums_l0c (a2 : List DLot) (a3 : Int) (x : Int × Int × Int) : Ct fun r => spec_spSums_l0F a2 a3 r x := by
  unfold spec_spSums_l0F spec_spSums_l0K
  repeat' (first | exact Ct.const | exact Ct.call | refine Ct.cond ?_ ?_ | refine Ct.bind ?_ fun _ => ?_ | refine Ct.sum (fun _ => ?_) fun _ => ?_)
def spec_spSums_l0 (a2 : List DLot) (a3 : Int) (a0 : Int) (a1 : Int) (a4 : Int) : Option (Int × Int) := lim (spec_spSums_l0F a2 a3) (a0, (a1, a4))
theorem spec_spSums_l0_eq (a2 : List DLot) (a3 : Int) (a0 : Int) (a1 : Int) (a4 : Int) : spec_spSums_l0 a2 a3 a0 a1 a4 = spec_spSums_l0K a2 a3 (spec_spSums_l0 a2 a3) some a0 a1 a4 := lim_eq (spec_spSums_l0c a2 a3) (a0, (a1, a4))
theorem spec_spSums_l0p {R : Type} (a2 : List DLot) (a3 : Int) {rc : Int → Int → Int → Option (Int × Int)} {rc' : Int → Int → Int → Option R} {fin : Int × Int → Option R} (hr : ∀ a0 a1 a4, Par fin (rc a0 a1 a4) (rc' a0 a1 a4)) (a0 : Int) (a1 : Int) (a4 : Int) : Par fin (spec_spSums_l0K a2 a3 rc some a0 a1 a4) (spec_spSums_l0K a2 a3 rc' fin a0 a1 a4) := by
  unfold spec_spSums_l0K
  repeat' (first | exact .fin | exact .none | exact hr _ _ _ | refine .cond ?_ ?_ | refine .bind fun _ => ?_ | refine .sum (fun _ => ?_) fun _ => ?_)
def Lspec_spSums_l0 : Loop := mkL ⟨[4, 5, 8, 9, 10], [], [], []⟩ sspec_spSums_l0 xspec_spSums_l0 (fun (x : (Int × Int × (List DLot) × Int × Int × Unit) × (Unit)) => (x.1.2.2.1, x.1.2.2.2.1)) fun (x : (Int × Int × (List DLot) × Int × Int × Unit) × (Unit)) => spec_spSums_l0 x.1.2.2.1 x.1.2.2.2.1 x.1.1 x.1.2.1 x.1.2.2.2.2.1
def spec_spSumsK {R : Type} (fin : Int × Int → Option R) (x0 : List DLot) : Option R :=
  (spec_spSums_l0 x0 (x0.length : Int) 0 0 0).bind fun y2 =>
  fin y2
def spec_spSums (x0 : List DLot) : Option (Int × Int) := spec_spSumsK some x0
theorem p53 {R : Type} (fin : Int × Int → Option R) (x0 : List DLot) : Par fin (spec_spSumsK some x0) (spec_spSumsK fin x0) := by
  unfold spec_spSumsK
  repeat' (first | exact .fin | exact .none | refine .cond ?_ ?_ | refine .bind fun _ => ?_ | refine .sum (fun _ => ?_) fun _ => ?_)
def or53 : Ora := { lo := addL 3 (Lspec_spSums_l0) lo0, fin := [] }
theorem spec_spSums_l0e (a2 : List DLot) (a3 : Int) (k : Nat) (a0 : Int) (a1 : Int) (a4 : Int) : loopC Try.prog EL53 or53 ((loopsIn (codeOf Try.f53)).getD 0 .skip) (Lspec_spSums_l0).h (Lspec_spSums_l0).ho Try.f53.ntmps (k + 1) (sspec_spSums_l0.out ((a0, (a1, (a2, (a3, (a4, ()))))), ())) =
    spec_spSums_l0K a2 a3 (fun a0 a1 a4 => loopC Try.prog EL53 or53 ((loopsIn (codeOf Try.f53)).getD 0 .skip) (Lspec_spSums_l0).h (Lspec_spSums_l0).ho Try.f53.ntmps k (sspec_spSums_l0.out ((a0, (a1, (a2, (a3, (a4, ()))))), ()))) (fun y => some (XS.out xspec_spSums_l0 (a2, a3) y)) a0 a1 a4 := by kernel_rfl
theorem spec_spSums_l0o : LoopOk Try.prog EL53 or53 Try.f53.ntmps ((loopsIn (codeOf Try.f53)).getD 0 .skip) (Lspec_spSums_l0) :=
  loop_lim (hs := sspec_spSums_l0) (xs := xspec_spSums_l0) (ι := fun (x : (Int × Int × (List DLot) × Int × Int × Unit) × (Unit)) => (x.1.2.2.1, x.1.2.2.2.1)) (φ := fun (x : (Int × Int × (List DLot) × Int × Int × Unit) × (Unit)) => (x.1.1, (x.1.2.1, x.1.2.2.2.2.1))) (ψ := fun (i : (List DLot) × Int) (v : Int × Int × Int) => ((v.1, (v.2.1, (i.1, (i.2, (v.2.2, ()))))), ())) (F := fun (i : (List DLot) × Int) => spec_spSums_l0F i.1 i.2) (fun _ => rfl) fun i k hk v => Par.of_eq (spec_spSums_l0e i.1 i.2 k v.1 v.2.1 v.2.2) (spec_spSums_l0p i.1 i.2 (fun a0 a1 a4 => hk (a0, (a1, a4))) v.1 v.2.1 v.2.2)
def c53 : Callee := mkC [.one (.ro (.slice TLot))] 2 [.one (.ro (.int .i64)), .one (.ro (.int .i64))] fun x => spec_spSums x
theorem e53 (x : PK.dens [.one (.ro (.slice TLot))]) : evalFn Try.prog EL53 or53 Try.f53 (PK.outs [.one (.ro (.slice TLot))] x) =
    spec_spSumsK (fun y => some (tupOf ((PK.outs [.one (.ro (.int .i64)), .one (.ro (.int .i64))] y).take 2), (PK.outs [.one (.ro (.int .i64)), .one (.ro (.int .i64))] y).drop 2)) x := by kernel_rfl
theorem o53 : LoOk Try.prog EL53 or53 Try.f53.ntmps (loopsIn (codeOf Try.f53)) :=
  LoOk.mk (m := 1) (by kernel_rfl) fun i hi => match i, hi with
    | 0, _ => ⟨Lspec_spSums_l0, by kernel_rfl, spec_spSums_l0o⟩
    | i + 1, hi => absurd hi (by omega)
theorem k53 : CalleeOk Try.prog 53 c53 := callee_mk Try.func53 (code := codeOf Try.f53) (by kernel_rfl) vL53 mixed o53 fun x y h => (e53 x).trans (p53 _ x y h)

/-- spec.spGood -/
def EL51 : Nat → Option Callee := addE 46 c46 (addE 53 c53 (addE 45 c45 env0))
theorem vL51 : EnvOk Try.prog EL51 := ((EnvOk.nil.add Try.func45 rfl (by kernel_rfl) k45).add Try.func53 rfl (by kernel_rfl) k53).add Try.func46 rfl (by kernel_rfl) k46
def sspec_spGood_l0 : LS := ⟨[(1, .one (.fix (.ptr 0 0))), (8, .one (.dat (.slice TLot))), (9, .one (.dat (.int .i64))), (10, .one (.dat (.int .i64)))], [.box [.dat .bool, .dat (.int .i64), .dat (.slice TLot)]], []⟩
def sspec_spGood_l0x0 : LS := ⟨[(2, .one (.dat .bool))], [], []⟩
def sspec_spGood_l0x1 : LS := ⟨[(1, .one (.fix (.ptr 0 0)))], [.box [.dat .bool, .dat (.int .i64), .dat (.slice TLot)]], []⟩
def xspec_spGood_l0 : List (XS ((List DLot) × Int × Bool × Int × (List DLot))) := [⟨.ret, ⟨[2], [], [], []⟩, sspec_spGood_l0x0, Bool, fun i y => ((y, ()), ())⟩,
  ⟨.exit 0, ⟨[1], [.slot 1], [], []⟩, sspec_spGood_l0x1, Unit, fun i y => (((), ()), ((i.2.2.1, (i.2.2.2.1, (i.2.2.2.2, ()))), ()))⟩]
def spec_spGood_l0K {R : Type} (a0 : List DLot) (a1 : Int) (rc : Int → Option R) (fin : (Bool ⊕ Unit) → Option R) (a2 : Int) : Option R :=
  cond (decide (a2 < a1))
  ((lat a0 a2).bind fun e1 =>
    (spec_spLot e1).bind fun y2 =>
    cond (!y2)
    (fin (.inl false))
    (rc (IntKind.i64.wrap (a2 + 1))))
  (fin (.inr ()))
def spec_spGood_l0F (a0 : List DLot) (a1 : Int) (r : Int → Option (Bool ⊕ Unit)) (x : Int) : Option (Bool ⊕ Unit) := spec_spGood_l0K a0 a1 (fun a2 => r a2) some x
theorem spec_spGood_l0c (a0 : List DLot) (a1 : Int) (x : Int) : Ct fun r => spec_spGood_l0F a0 a1 r x := by
  unfold spec_spGood_l0F spec_spGood_l0K
  repeat' (first | exact Ct.const | exact Ct.call | refine Ct.cond ?_ ?_ | refine Ct.bind ?_ fun _ => ?_ | refine Ct.sum (fun _ => ?_) fun _ => ?_)
def spec_spGood_l0 (a0 : List DLot) (a1 : Int) (a2 : Int) : Option (Bool ⊕ Unit) := lim (spec_spGood_l0F a0 a1) a2
theorem spec_spGood_l0_eq (a0 : List DLot) (a1 : Int) (a2 : Int) : spec_spGood_l0 a0 a1 a2 = spec_spGood_l0K a0 a1 (spec_spGood_l0 a0 a1) some a2 := lim_eq (spec_spGood_l0c a0 a1) a2
theorem spec_spGood_l0p {R : Type} (a0 : List DLot) (a1 : Int) {rc : Int → Option (Bool ⊕ Unit)} {rc' : Int → Option R} {fin : (Bool ⊕ Unit) → Option R} (hr : ∀ a2, Par fin (rc a2) (rc' a2)) (a2 : Int) : Par fin (spec_spGood_l0K a0 a1 rc some a2) (spec_spGood_l0K a0 a1 rc' fin a2) := by
  unfold spec_spGood_l0K
  repeat' (first | exact .fin | exact .none | exact hr _ | refine .cond ?_ ?_ | refine .bind fun _ => ?_ | refine .sum (fun _ => ?_) fun _ => ?_)
def Lspec_spGood_l0 : Loop := mkL ⟨[1, 8, 9, 10], [.slot 1], [], []⟩ sspec_spGood_l0 xspec_spGood_l0 (fun (x : (Unit × (List DLot) × Int × Int × Unit) × ((Bool × Int × (List DLot) × Unit) × Unit)) => (x.1.2.1, (x.1.2.2.1, (x.2.1.1, (x.2.1.2.1, x.2.1.2.2.1))))) fun (x : (Unit × (List DLot) × Int × Int × Unit) × ((Bool × Int × (List DLot) × Unit) × Unit)) => spec_spGood_l0 x.1.2.1 x.1.2.2.1 x.1.2.2.2.1
def spec_spGoodK {R : Type} (fin : Bool → Option R) (x0 : DPile) : Option R :=
  (spec_spGood_l0 x0.2.2.1 (x0.2.2.1.length : Int) 0).bind fun y3 =>
  sumO y3 (fun y4 =>
  fin y4)
  (fun y5 =>
  (spec_spSums x0.2.2.1).bind fun y6 =>
    cond (decide ((x0.2.2.1.length : Int) ≤ 40))
    (cond (!x0.1)
      ((spec_l1In x0.2.1 0 10000000).bind fun y7 =>
        cond (y7)
        (fin (decide (y6.1 ≤ x0.2.1)))
        (fin false))
      (cond (decide ((x0.2.2.1.length : Int) ≤ 1))
        ((spec_l1In x0.2.1 0 10000000).bind fun y8 =>
          cond (y8)
          (fin (decide (y6.1 ≤ x0.2.1)))
          (fin false))
        (fin false)))
    (fin false))
def spec_spGood (x0 : DPile) : Option (Bool) := spec_spGoodK some x0
theorem p51 {R : Type} (fin : Bool → Option R) (x0 : DPile) : Par fin (spec_spGoodK some x0) (spec_spGoodK fin x0) := by
  unfold spec_spGoodK
  repeat' (first | exact .fin | exact .none | refine .cond ?_ ?_ | refine .bind fun _ => ?_ | refine .sum (fun _ => ?_) fun _ => ?_)
def or51 : Ora := { lo := addL 2 (Lspec_spGood_l0) lo0, fin := [] }
theorem spec_spGood_l0e (a0 : List DLot) (a1 : Int) (a3 : Bool) (a4 : Int) (a5 : List DLot) (k : Nat) (a2 : Int) : loopC Try.prog EL51 or51 ((loopsIn (codeOf Try.f51)).getD 0 .skip) (Lspec_spGood_l0).h (Lspec_spGood_l0).ho Try.f51.ntmps (k + 1) (sspec_spGood_l0.out (((), (a0, (a1, (a2, ())))), ((a3, (a4, (a5, ()))), ()))) =
    spec_spGood_l0K a0 a1 (fun a2 => loopC Try.prog EL51 or51 ((loopsIn (codeOf Try.f51)).getD 0 .skip) (Lspec_spGood_l0).h (Lspec_spGood_l0).ho Try.f51.ntmps k (sspec_spGood_l0.out (((), (a0, (a1, (a2, ())))), ((a3, (a4, (a5, ()))), ())))) (fun y => some (XS.out xspec_spGood_l0 (a0, (a1, (a3, (a4, a5)))) y)) a2 := by kernel_rfl
theorem spec_spGood_l0o : LoopOk Try.prog EL51 or51 Try.f51.ntmps ((loopsIn (codeOf Try.f51)).getD 0 .skip) (Lspec_spGood_l0) :=
  loop_lim (hs := sspec_spGood_l0) (xs := xspec_spGood_l0) (ι := fun (x : (Unit × (List DLot) × Int × Int × Unit) × ((Bool × Int × (List DLot) × Unit) × Unit)) => (x.1.2.1, (x.1.2.2.1, (x.2.1.1, (x.2.1.2.1, x.2.1.2.2.1))))) (φ := fun (x : (Unit × (List DLot) × Int × Int × Unit) × ((Bool × Int × (List DLot) × Unit) × Unit)) => x.1.2.2.2.1) (ψ := fun (i : (List DLot) × Int × Bool × Int × (List DLot)) (v : Int) => (((), (i.1, (i.2.1, (v, ())))), ((i.2.2.1, (i.2.2.2.1, (i.2.2.2.2, ()))), ()))) (F := fun (i : (List DLot) × Int × Bool × Int × (List DLot)) => spec_spGood_l0F i.1 i.2.1) (fun _ => rfl) fun i k hk v => Par.of_eq (spec_spGood_l0e i.1 i.2.1 i.2.2.1 i.2.2.2.1 i.2.2.2.2 k v) (spec_spGood_l0p i.1 i.2.1 (fun a2 => hk a2) v)
def c51 : Callee := mkC [.agg [.ro TPile]] 1 [.one (.ro .bool)] fun x => spec_spGood x
theorem e51 (x : PK.dens [.agg [.ro TPile]]) : evalFn Try.prog EL51 or51 Try.f51 (PK.outs [.agg [.ro TPile]] x) =
    spec_spGoodK (fun y => some (tupOf ((PK.outs [.one (.ro .bool)] y).take 1), (PK.outs [.one (.ro .bool)] y).drop 1)) x := by kernel_rfl
theorem o51 : LoOk Try.prog EL51 or51 Try.f51.ntmps (loopsIn (codeOf Try.f51)) :=
  LoOk.mk (m := 1) (by kernel_rfl) fun i hi => match i, hi with
    | 0, _ => ⟨Lspec_spGood_l0, by kernel_rfl, spec_spGood_l0o⟩
    | i + 1, hi => absurd hi (by omega)
theorem k51 : CalleeOk Try.prog 51 c51 := callee_mk Try.func51 (code := codeOf Try.f51) (by kernel_rfl) vL51 mixed o51 fun x y h => (e51 x).trans (p51 _ x y h)

/-- spec.IsPile -/
def EL18 : Nat → Option Callee := addE 51 c51 env0
theorem vL18 : EnvOk Try.prog EL18 := EnvOk.nil.add Try.func51 rfl (by kernel_rfl) k51
def spec_IsPileK {R : Type} (fin : Bool → Option R) (x0 : DPile) : Option R :=
  (spec_spGood x0).bind fun y1 =>
  fin y1
def spec_IsPile (x0 : DPile) : Option (Bool) := spec_IsPileK some x0
theorem p18 {R : Type} (fin : Bool → Option R) (x0 : DPile) : Par fin (spec_IsPileK some x0) (spec_IsPileK fin x0) := by
  unfold spec_IsPileK
  repeat' (first | exact .fin | exact .none | refine .cond ?_ ?_ | refine .bind fun _ => ?_ | refine .sum (fun _ => ?_) fun _ => ?_)
def c18 : Callee := mkC [.agg [.ro TPile]] 1 [.one (.ro .bool)] fun x => spec_IsPile x
theorem e18 (x : PK.dens [.agg [.ro TPile]]) : evalFn Try.prog EL18 or0 Try.f18 (PK.outs [.agg [.ro TPile]] x) =
    spec_IsPileK (fun y => some (tupOf ((PK.outs [.one (.ro .bool)] y).take 1), (PK.outs [.one (.ro .bool)] y).drop 1)) x := by kernel_rfl
theorem k18 : CalleeOk Try.prog 18 c18 := callee_mk Try.func18 (code := codeOf Try.f18) (by kernel_rfl) vL18 mixed (LoOk.nil (by kernel_rfl)) fun x y h => (e18 x).trans (p18 _ x y h)

/-- impl.IsPile -/
def EL20 : Nat → Option Callee := addE 48 c48 env0
theorem vL20 : EnvOk Try.prog EL20 := EnvOk.nil.add Try.func48 rfl (by kernel_rfl) k48
def simpl_IsPile_l0 : LS := ⟨[(1, .one (.fix (.ptr 0 0))), (3, .one (.dat (.int .i64))), (31, .one (.dat (.slice TLot))), (32, .one (.dat (.int .i64))), (33, .one (.dat (.int .i64)))], [.box [.dat .bool, .dat (.int .i64), .dat (.slice TLot)]], []⟩
def simpl_IsPile_l0x0 : LS := ⟨[(2, .one (.dat .bool))], [], []⟩
def simpl_IsPile_l0x1 : LS := ⟨[(1, .one (.fix (.ptr 0 0))), (3, .one (.dat (.int .i64)))], [.box [.dat .bool, .dat (.int .i64), .dat (.slice TLot)]], []⟩
def ximpl_IsPile_l0 : List (XS ((List DLot) × Int × Bool × Int × (List DLot))) := [⟨.ret, ⟨[2], [], [], []⟩, simpl_IsPile_l0x0, Bool, fun i y => ((y, ()), ())⟩,
  ⟨.exit 0, ⟨[1, 3], [.slot 1], [], []⟩, simpl_IsPile_l0x1, Int, fun i y => (((), (y, ())), ((i.2.2.1, (i.2.2.2.1, (i.2.2.2.2, ()))), ()))⟩]
def impl_IsPile_l0K {R : Type} (a1 : List DLot) (a2 : Int) (rc : Int → Int → Option R) (fin : (Bool ⊕ Int) → Option R) (a0 : Int) (a3 : Int) : Option R :=
  cond (decide (a3 < a2))
  ((lat a1 a3).bind fun e1 =>
    (impl_isLot e1).bind fun y2 =>
    cond (!y2)
    (fin (.inl false))
    (rc (IntKind.i64.wrap (a0 + e1.1)) (IntKind.i64.wrap (a3 + 1))))
  (fin (.inr a0))
def impl_IsPile_l0F (a1 : List DLot) (a2 : Int) (r : (Int × Int) → Option (Bool ⊕ Int)) (x : Int × Int) : Option (Bool ⊕ Int) := impl_IsPile_l0K a1 a2 (fun a0 a3 => r (a0, a3)) some x.1 x.2
theorem impl_IsPile_l0c (a1 : List DLot) (a2 : Int) (x : Int × Int) : Ct fun r => impl_IsPile_l0F a1 a2 r x := by
  unfold impl_IsPile_l0F impl_IsPile_l0K
  repeat' (first | exact Ct.const | exact Ct.call | refine Ct.cond ?_ ?_ | refine Ct.bind ?_ fun _ => ?_ | refine Ct.sum (fun _ => ?_) fun _ => ?_)
def impl_IsPile_l0 (a1 : List DLot) (a2 : Int) (a0 : Int) (a3 : Int) : Option (Bool ⊕ Int) := lim (impl_IsPile_l0F a1 a2) (a0, a3)
theorem impl_IsPile_l0_eq (a1 : List DLot) (a2 : Int) (a0 : Int) (a3 : Int) : impl_IsPile_l0 a1 a2 a0 a3 = impl_IsPile_l0K a1 a2 (impl_IsPile_l0 a1 a2) some a0 a3 := lim_eq (impl_IsPile_l0c a1 a2) (a0, a3)
theorem impl_IsPile_l0p {R : Type} (a1 : List DLot) (a2 : Int) {rc : Int → Int → Option (Bool ⊕ Int)} {rc' : Int → Int → Option R} {fin : (Bool ⊕ Int) → Option R} (hr : ∀ a0 a3, Par fin (rc a0 a3) (rc' a0 a3)) (a0 : Int) (a3 : Int) : Par fin (impl_IsPile_l0K a1 a2 rc some a0 a3) (impl_IsPile_l0K a1 a2 rc' fin a0 a3) := by
  unfold impl_IsPile_l0K
  repeat' (first | exact .fin | exact .none | exact hr _ _ | refine .cond ?_ ?_ | refine .bind fun _ => ?_ | refine .sum (fun _ => ?_) fun _ => ?_)
def Limpl_IsPile_l0 : Loop := mkL ⟨[1, 3, 31, 32, 33], [.slot 1], [], []⟩ simpl_IsPile_l0 ximpl_IsPile_l0 (fun (x : (Unit × Int × (List DLot) × Int × Int × Unit) × ((Bool × Int × (List DLot) × Unit) × Unit)) => (x.1.2.2.1, (x.1.2.2.2.1, (x.2.1.1, (x.2.1.2.1, x.2.1.2.2.1))))) fun (x : (Unit × Int × (List DLot) × Int × Int × Unit) × ((Bool × Int × (List DLot) × Unit) × Unit)) => impl_IsPile_l0 x.1.2.2.1 x.1.2.2.2.1 x.1.2.1 x.1.2.2.2.2.1
def impl_IsPileK {R : Type} (fin : Bool → Option R) (x0 : DPile) : Option R :=
  cond (decide (x0.2.1 < 0))
  (fin false)
  (cond (decide (x0.2.1 > 10000000))
    (fin false)
    (cond (decide ((x0.2.2.1.length : Int) > 40))
      (fin false)
      (cond (x0.1)
        (cond (decide ((x0.2.2.1.length : Int) > 1))
          (fin false)
          ((impl_IsPile_l0 x0.2.2.1 (x0.2.2.1.length : Int) 0 0).bind fun y3 =>
            sumO y3 (fun y4 =>
            fin y4)
            (fun y5 =>
            fin (decide (y5 ≤ x0.2.1)))))
        ((impl_IsPile_l0 x0.2.2.1 (x0.2.2.1.length : Int) 0 0).bind fun y6 =>
          sumO y6 (fun y7 =>
          fin y7)
          (fun y8 =>
          fin (decide (y8 ≤ x0.2.1)))))))
def impl_IsPile (x0 : DPile) : Option (Bool) := impl_IsPileK some x0
theorem p20 {R : Type} (fin : Bool → Option R) (x0 : DPile) : Par fin (impl_IsPileK some x0) (impl_IsPileK fin x0) := by
  unfold impl_IsPileK
  repeat' (first | exact .fin | exact .none | refine .cond ?_ ?_ | refine .bind fun _ => ?_ | refine .sum (fun _ => ?_) fun _ => ?_)
def or20 : Ora := { lo := addL 5 (Limpl_IsPile_l0) lo0, fin := [] }
theorem impl_IsPile_l0e (a1 : List DLot) (a2 : Int) (a4 : Bool) (a5 : Int) (a6 : List DLot) (k : Nat) (a0 : Int) (a3 : Int) : loopC Try.prog EL20 or20 ((loopsIn (codeOf Try.f20)).getD 0 .skip) (Limpl_IsPile_l0).h (Limpl_IsPile_l0).ho Try.f20.ntmps (k + 1) (simpl_IsPile_l0.out (((), (a0, (a1, (a2, (a3, ()))))), ((a4, (a5, (a6, ()))), ()))) =
    impl_IsPile_l0K a1 a2 (fun a0 a3 => loopC Try.prog EL20 or20 ((loopsIn (codeOf Try.f20)).getD 0 .skip) (Limpl_IsPile_l0).h (Limpl_IsPile_l0).ho Try.f20.ntmps k (simpl_IsPile_l0.out (((), (a0, (a1, (a2, (a3, ()))))), ((a4, (a5, (a6, ()))), ())))) (fun y => some (XS.out ximpl_IsPile_l0 (a1, (a2, (a4, (a5, a6)))) y)) a0 a3 := by kernel_rfl
theorem impl_IsPile_l0o : LoopOk Try.prog EL20 or20 Try.f20.ntmps ((loopsIn (codeOf Try.f20)).getD 0 .skip) (Limpl_IsPile_l0) :=
  loop_lim (hs := simpl_IsPile_l0) (xs := ximpl_IsPile_l0) (ι := fun (x : (Unit × Int × (List DLot) × Int × Int × Unit) × ((Bool × Int × (List DLot) × Unit) × Unit)) => (x.1.2.2.1, (x.1.2.2.2.1, (x.2.1.1, (x.2.1.2.1, x.2.1.2.2.1))))) (φ := fun (x : (Unit × Int × (List DLot) × Int × Int × Unit) × ((Bool × Int × (List DLot) × Unit) × Unit)) => (x.1.2.1, x.1.2.2.2.2.1)) (ψ := fun (i : (List DLot) × Int × Bool × Int × (List DLot)) (v : Int × Int) => (((), (v.1, (i.1, (i.2.1, (v.2, ()))))), ((i.2.2.1, (i.2.2.2.1, (i.2.2.2.2, ()))), ()))) (F := fun (i : (List DLot) × Int × Bool × Int × (List DLot)) => impl_IsPile_l0F i.1 i.2.1) (fun _ => rfl) fun i k hk v => Par.of_eq (impl_IsPile_l0e i.1 i.2.1 i.2.2.1 i.2.2.2.1 i.2.2.2.2 k v.1 v.2) (impl_IsPile_l0p i.1 i.2.1 (fun a0 a3 => hk (a0, a3)) v.1 v.2)
def c20 : Callee := mkC [.agg [.ro TPile]] 1 [.one (.ro .bool)] fun x => impl_IsPile x
theorem e20 (x : PK.dens [.agg [.ro TPile]]) : evalFn Try.prog EL20 or20 Try.f20 (PK.outs [.agg [.ro TPile]] x) =
    impl_IsPileK (fun y => some (tupOf ((PK.outs [.one (.ro .bool)] y).take 1), (PK.outs [.one (.ro .bool)] y).drop 1)) x := by kernel_rfl
theorem o20 : LoOk Try.prog EL20 or20 Try.f20.ntmps (loopsIn (codeOf Try.f20)) :=
  LoOk.mk (m := 1) (by kernel_rfl) fun i hi => match i, hi with
    | 0, _ => ⟨Limpl_IsPile_l0, by kernel_rfl, impl_IsPile_l0o⟩
    | i + 1, hi => absurd hi (by omega)
theorem k20 : CalleeOk Try.prog 20 c20 := callee_mk Try.func20 (code := codeOf Try.f20) (by kernel_rfl) vL20 mixed o20 fun x y h => (e20 x).trans (p20 _ x y h)

/-- laws.eqLotS -/
def EL40 : Nat → Option Callee := addE 16 c16 env0
theorem vL40 : EnvOk Try.prog EL40 := EnvOk.nil.add Try.func16 rfl (by kernel_rfl) k16
def slaws_eqLotS_l0 : LS := ⟨[(0, .one (.dat (.slice TLot))), (1, .one (.dat (.slice TLot))), (5, .one (.dat (.int .i64)))], [], []⟩
def slaws_eqLotS_l0x0 : LS := ⟨[(4, .one (.dat .bool))], [], []⟩
def slaws_eqLotS_l0x1 : LS := ⟨[], [], []⟩
def xlaws_eqLotS_l0 : List (XS ((List DLot) × (List DLot))) := [⟨.ret, ⟨[4], [], [], []⟩, slaws_eqLotS_l0x0, Bool, fun i y => ((y, ()), ())⟩,
  ⟨.exit 0, ⟨[], [], [], []⟩, slaws_eqLotS_l0x1, Unit, fun i y => ((), ())⟩]
def laws_eqLotS_l0K {R : Type} (a0 : List DLot) (a1 : List DLot) (rc : Int → Option R) (fin : (Bool ⊕ Unit) → Option R) (a2 : Int) : Option R :=
  cond (decide (a2 < (a0.length : Int)))
  ((lat a0 a2).bind fun e1 =>
    (lat a1 a2).bind fun e2 =>
    (laws_eqLot e1 e2).bind fun y3 =>
    cond (!y3)
    (fin (.inl false))
    (rc (IntKind.i64.wrap (a2 + 1))))
  (fin (.inr ()))
def laws_eqLotS_l0F (a0 : List DLot) (a1 : List DLot) (r : Int → Option (Bool ⊕ Unit)) (x : Int) : Option (Bool ⊕ Unit) := laws_eqLotS_l0K a0 a1 (fun a2 => r a2) some x
theorem laws_eqLotS_l0c (a0 : List DLot) (a1 : List DLot) (x : Int) : Ct fun r => laws_eqLotS_l0F a0 a1 r x := by
  unfold laws_eqLotS_l0F laws_eqLotS_l0K
  repeat' (first | exact Ct.const | exact Ct.call | refine Ct.cond ?_ ?_ | refine Ct.bind ?_ fun _ => ?_ | refine Ct.sum (fun _ => ?_) fun _ => ?_)
def laws_eqLotS_l0 (a0 : List DLot) (a1 : List DLot) (a2 : Int) : Option (Bool ⊕ Unit) := lim (laws_eqLotS_l0F a0 a1) a2
theorem laws_eqLotS_l0_eq (a0 : List DLot) (a1 : List DLot) (a2 : Int) : laws_eqLotS_l0 a0 a1 a2 = laws_eqLotS_l0K a0 a1 (laws_eqLotS_l0 a0 a1) some a2 := lim_eq (laws_eqLotS_l0c a0 a1) a2
theorem laws_eqLotS_l0p {R : Type} (a0 : List DLot) (a1 : List DLot) {rc : Int → Option (Bool ⊕ Unit)} {rc' : Int → Option R} {fin : (Bool ⊕ Unit) → Option R} (hr : ∀ a2, Par fin (rc a2) (rc' a2)) (a2 : Int) : Par fin (laws_eqLotS_l0K a0 a1 rc some a2) (laws_eqLotS_l0K a0 a1 rc' fin a2) := by
  unfold laws_eqLotS_l0K
  repeat' (first | exact .fin | exact .none | exact hr _ | refine .cond ?_ ?_ | refine .bind fun _ => ?_ | refine .sum (fun _ => ?_) fun _ => ?_)
def Llaws_eqLotS_l0 : Loop := mkL ⟨[0, 1, 5], [], [], []⟩ slaws_eqLotS_l0 xlaws_eqLotS_l0 (fun (x : ((List DLot) × (List DLot) × Int × Unit) × (Unit)) => (x.1.1, x.1.2.1)) fun (x : ((List DLot) × (List DLot) × Int × Unit) × (Unit)) => laws_eqLotS_l0 x.1.1 x.1.2.1 x.1.2.2.1
def laws_eqLotSK {R : Type} (fin : Bool → Option R) (x0 : List DLot) (x1 : List DLot) : Option R :=
  cond ((x0.length : Int) != (x1.length : Int))
  (fin false)
  ((laws_eqLotS_l0 x0 x1 0).bind fun y4 =>
    sumO y4 (fun y5 =>
    fin y5)
    (fun y6 =>
    fin true))
def laws_eqLotS (x0 : List DLot) (x1 : List DLot) : Option (Bool) := laws_eqLotSK some x0 x1
theorem p40 {R : Type} (fin : Bool → Option R) (x0 : List DLot) (x1 : List DLot) : Par fin (laws_eqLotSK some x0 x1) (laws_eqLotSK fin x0 x1) := by
  unfold laws_eqLotSK
  repeat' (first | exact .fin | exact .none | refine .cond ?_ ?_ | refine .bind fun _ => ?_ | refine .sum (fun _ => ?_) fun _ => ?_)
def or40 : Ora := { lo := addL 4 (Llaws_eqLotS_l0) lo0, fin := [] }
theorem laws_eqLotS_l0e (a0 : List DLot) (a1 : List DLot) (k : Nat) (a2 : Int) : loopC Try.prog EL40 or40 ((loopsIn (codeOf Try.f40)).getD 0 .skip) (Llaws_eqLotS_l0).h (Llaws_eqLotS_l0).ho Try.f40.ntmps (k + 1) (slaws_eqLotS_l0.out ((a0, (a1, (a2, ()))), ())) =
    laws_eqLotS_l0K a0 a1 (fun a2 => loopC Try.prog EL40 or40 ((loopsIn (codeOf Try.f40)).getD 0 .skip) (Llaws_eqLotS_l0).h (Llaws_eqLotS_l0).ho Try.f40.ntmps k (slaws_eqLotS_l0.out ((a0, (a1, (a2, ()))), ()))) (fun y => some (XS.out xlaws_eqLotS_l0 (a0, a1) y)) a2 := by kernel_rfl
theorem laws_eqLotS_l0o : LoopOk Try.prog EL40 or40 Try.f40.ntmps ((loopsIn (codeOf Try.f40)).getD 0 .skip) (Llaws_eqLotS_l0) :=
  loop_lim (hs := slaws_eqLotS_l0) (xs := xlaws_eqLotS_l0) (ι := fun (x : ((List DLot) × (List DLot) × Int × Unit) × (Unit)) => (x.1.1, x.1.2.1)) (φ := fun (x : ((List DLot) × (List DLot) × Int × Unit) × (Unit)) => x.1.2.2.1) (ψ := fun (i : (List DLot) × (List DLot)) (v : Int) => ((i.1, (i.2, (v, ()))), ())) (F := fun (i : (List DLot) × (List DLot)) => laws_eqLotS_l0F i.1 i.2) (fun _ => rfl) fun i k hk v => Par.of_eq (laws_eqLotS_l0e i.1 i.2 k v) (laws_eqLotS_l0p i.1 i.2 (fun a2 => hk a2) v)
def c40 : Callee := mkC [.one (.ro (.slice TLot)), .one (.ro (.slice TLot))] 1 [.one (.ro .bool)] fun x => laws_eqLotS x.1 x.2
theorem e40 (x : PK.dens [.one (.ro (.slice TLot)), .one (.ro (.slice TLot))]) : evalFn Try.prog EL40 or40 Try.f40 (PK.outs [.one (.ro (.slice TLot)), .one (.ro (.slice TLot))] x) =
    laws_eqLotSK (fun y => some (tupOf ((PK.outs [.one (.ro .bool)] y).take 1), (PK.outs [.one (.ro .bool)] y).drop 1)) x.1 x.2 := by kernel_rfl
theorem o40 : LoOk Try.prog EL40 or40 Try.f40.ntmps (loopsIn (codeOf Try.f40)) :=
  LoOk.mk (m := 1) (by kernel_rfl) fun i hi => match i, hi with
    | 0, _ => ⟨Llaws_eqLotS_l0, by kernel_rfl, laws_eqLotS_l0o⟩
    | i + 1, hi => absurd hi (by omega)
theorem k40 : CalleeOk Try.prog 40 c40 := callee_mk Try.func40 (code := codeOf Try.f40) (by kernel_rfl) vL40 mixed o40 fun x y h => (e40 x).trans (p40 _ x.1 x.2 y h)

/-- laws.eqPile -/
def EL21 : Nat → Option Callee := addE 40 c40 env0
theorem vL21 : EnvOk Try.prog EL21 := EnvOk.nil.add Try.func40 rfl (by kernel_rfl) k40
def laws_eqPileK {R : Type} (fin : Bool → Option R) (x0 : DPile) (x1 : DPile) : Option R :=
  cond (!(x0.1 == x1.1))
  (fin false)
  (cond (x0.2.1 != x1.2.1)
    (fin false)
    ((laws_eqLotS x0.2.2.1 x1.2.2.1).bind fun y1 =>
      cond (!y1)
      (fin false)
      (fin true)))
def laws_eqPile (x0 : DPile) (x1 : DPile) : Option (Bool) := laws_eqPileK some x0 x1
theorem p21 {R : Type} (fin : Bool → Option R) (x0 : DPile) (x1 : DPile) : Par fin (laws_eqPileK some x0 x1) (laws_eqPileK fin x0 x1) := by
  unfold laws_eqPileK
  repeat' (first | exact .fin | exact .none | refine .cond ?_ ?_ | refine .bind fun _ => ?_ | refine .sum (fun _ => ?_) fun _ => ?_)
def c21 : Callee := mkC [.agg [.ro TPile], .agg [.ro TPile]] 1 [.one (.ro .bool)] fun x => laws_eqPile x.1 x.2
theorem e21 (x : PK.dens [.agg [.ro TPile], .agg [.ro TPile]]) : evalFn Try.prog EL21 or0 Try.f21 (PK.outs [.agg [.ro TPile], .agg [.ro TPile]] x) =
    laws_eqPileK (fun y => some (tupOf ((PK.outs [.one (.ro .bool)] y).take 1), (PK.outs [.one (.ro .bool)] y).drop 1)) x.1 x.2 := by kernel_rfl
theorem k21 : CalleeOk Try.prog 21 c21 := callee_mk Try.func21 (code := codeOf Try.f21) (by kernel_rfl) vL21 mixed (LoOk.nil (by kernel_rfl)) fun x y h => (e21 x).trans (p21 _ x.1 x.2 y h)

/-- laws.FnExactIsPile -/
def EL4 : Nat → Option Callee := addE 21 c21 (addE 20 c20 (addE 18 c18 (addE 19 c19 (addE 17 c17 env0))))
theorem vL4 : EnvOk Try.prog EL4 := ((((EnvOk.nil.add Try.func17 rfl (by kernel_rfl) k17).add Try.func19 rfl (by kernel_rfl) k19).add Try.func18 rfl (by kernel_rfl) k18).add Try.func20 rfl (by kernel_rfl) k20).add Try.func21 rfl (by kernel_rfl) k21
def laws_FnExactIsPileK {R : Type} (fin : Bool → Option R) (x0 : DPile) : Option R :=
  (laws_szPile x0 1048576).bind fun y1 =>
  cond (decide (y1 < 0))
  (fin true)
  ((laws_toPile x0).bind fun y2 =>
    (spec_IsPile (y2.1, (y2.2.1, (y2.2.2, ())))).bind fun y3 =>
    (laws_toPile x0).bind fun y4 =>
    (impl_IsPile (y4.1, (y4.2.1, (y4.2.2, ())))).bind fun y5 =>
    cond (!(y5 == y3))
    (fin false)
    ((laws_toPile x0).bind fun y6 =>
      (laws_eqPile (y4.1, (y4.2.1, (y4.2.2, ()))) (y6.1, (y6.2.1, (y6.2.2, ())))).bind fun y7 =>
      cond (!y7)
      (fin false)
      (fin true)))
def laws_FnExactIsPile (x0 : DPile) : Option (Bool) := laws_FnExactIsPileK some x0
theorem p4 {R : Type} (fin : Bool → Option R) (x0 : DPile) : Par fin (laws_FnExactIsPileK some x0) (laws_FnExactIsPileK fin x0) := by
  unfold laws_FnExactIsPileK
  repeat' (first | exact .fin | exact .none | refine .cond ?_ ?_ | refine .bind fun _ => ?_ | refine .sum (fun _ => ?_) fun _ => ?_)
def c4 : Callee := mkC [.agg [.ro TPile]] 1 [.one (.ro .bool)] fun x => laws_FnExactIsPile x
theorem e4 (x : PK.dens [.agg [.ro TPile]]) : evalFn Try.prog EL4 or0 Try.f4 (PK.outs [.agg [.ro TPile]] x) =
    laws_FnExactIsPileK (fun y => some (tupOf ((PK.outs [.one (.ro .bool)] y).take 1), (PK.outs [.one (.ro .bool)] y).drop 1)) x := by kernel_rfl
theorem k4 : CalleeOk Try.prog 4 c4 := callee_mk Try.func4 (code := codeOf Try.f4) (by kernel_rfl) vL4 mixed (LoOk.nil (by kernel_rfl)) fun x y h => (e4 x).trans (p4 _ x y h)

/-- spec.OldestLot -/
def EL22 : Nat → Option Callee := addE 51 c51 env0
theorem vL22 : EnvOk Try.prog EL22 := EnvOk.nil.add Try.func51 rfl (by kernel_rfl) k51
def spec_OldestLotK {R : Type} (fin : DLot × Bool → Option R) (x0 : DPile) : Option R :=
  (spec_spGood x0).bind fun y1 =>
  cond (!y1)
  (fin ((0, (0, ())), false))
  (cond ((x0.2.2.1.length : Int) == 0)
    (fin ((0, (0, ())), false))
    ((lat x0.2.2.1 0).bind fun e2 =>
      fin (e2, true)))
def spec_OldestLot (x0 : DPile) : Option (DLot × Bool) := spec_OldestLotK some x0
theorem p22 {R : Type} (fin : DLot × Bool → Option R) (x0 : DPile) : Par fin (spec_OldestLotK some x0) (spec_OldestLotK fin x0) := by
  unfold spec_OldestLotK
  repeat' (first | exact .fin | exact .none | refine .cond ?_ ?_ | refine .bind fun _ => ?_ | refine .sum (fun _ => ?_) fun _ => ?_)
def c22 : Callee := mkC [.agg [.ro TPile]] 2 [.agg [.ro TLot], .one (.ro .bool)] fun x => spec_OldestLot x
theorem e22 (x : PK.dens [.agg [.ro TPile]]) : evalFn Try.prog EL22 or0 Try.f22 (PK.outs [.agg [.ro TPile]] x) =
    spec_OldestLotK (fun y => some (tupOf ((PK.outs [.agg [.ro TLot], .one (.ro .bool)] y).take 2), (PK.outs [.agg [.ro TLot], .one (.ro .bool)] y).drop 2)) x := by kernel_rfl
theorem k22 : CalleeOk Try.prog 22 c22 := callee_mk Try.func22 (code := codeOf Try.f22) (by kernel_rfl) vL22 mixed (LoOk.nil (by kernel_rfl)) fun x y h => (e22 x).trans (p22 _ x y h)

/-- impl.OldestLot -/
def EL23 : Nat → Option Callee := addE 20 c20 env0
theorem vL23 : EnvOk Try.prog EL23 := EnvOk.nil.add Try.func20 rfl (by kernel_rfl) k20
def impl_OldestLotK {R : Type} (fin : DLot × Bool → Option R) (x0 : DPile) : Option R :=
  (impl_IsPile x0).bind fun y1 =>
  cond (!y1)
  (fin ((0, (0, ())), false))
  (cond ((x0.2.2.1.length : Int) == 0)
    (fin ((0, (0, ())), false))
    ((lat x0.2.2.1 0).bind fun e2 =>
      fin (e2, true)))
def impl_OldestLot (x0 : DPile) : Option (DLot × Bool) := impl_OldestLotK some x0
theorem p23 {R : Type} (fin : DLot × Bool → Option R) (x0 : DPile) : Par fin (impl_OldestLotK some x0) (impl_OldestLotK fin x0) := by
  unfold impl_OldestLotK
  repeat' (first | exact .fin | exact .none | refine .cond ?_ ?_ | refine .bind fun _ => ?_ | refine .sum (fun _ => ?_) fun _ => ?_)
def c23 : Callee := mkC [.agg [.ro TPile]] 2 [.agg [.ro TLot], .one (.ro .bool)] fun x => impl_OldestLot x
theorem e23 (x : PK.dens [.agg [.ro TPile]]) : evalFn Try.prog EL23 or0 Try.f23 (PK.outs [.agg [.ro TPile]] x) =
    impl_OldestLotK (fun y => some (tupOf ((PK.outs [.agg [.ro TLot], .one (.ro .bool)] y).take 2), (PK.outs [.agg [.ro TLot], .one (.ro .bool)] y).drop 2)) x := by kernel_rfl
theorem k23 : CalleeOk Try.prog 23 c23 := callee_mk Try.func23 (code := codeOf Try.f23) (by kernel_rfl) vL23 mixed (LoOk.nil (by kernel_rfl)) fun x y h => (e23 x).trans (p23 _ x y h)

/-- laws.FnExactOldestLot -/
def EL5 : Nat → Option Callee := addE 21 c21 (addE 16 c16 (addE 23 c23 (addE 22 c22 (addE 19 c19 (addE 17 c17 env0)))))
theorem vL5 : EnvOk Try.prog EL5 := (((((EnvOk.nil.add Try.func17 rfl (by kernel_rfl) k17).add Try.func19 rfl (by kernel_rfl) k19).add Try.func22 rfl (by kernel_rfl) k22).add Try.func23 rfl (by kernel_rfl) k23).add Try.func16 rfl (by kernel_rfl) k16).add Try.func21 rfl (by kernel_rfl) k21
def laws_FnExactOldestLotK {R : Type} (fin : Bool → Option R) (x0 : DPile) : Option R :=
  (laws_szPile x0 1048576).bind fun y1 =>
  cond (decide (y1 < 0))
  (fin true)
  ((laws_toPile x0).bind fun y2 =>
    (spec_OldestLot (y2.1, (y2.2.1, (y2.2.2, ())))).bind fun y3 =>
    (laws_toPile x0).bind fun y4 =>
    (impl_OldestLot (y4.1, (y4.2.1, (y4.2.2, ())))).bind fun y5 =>
    (laws_eqLot y5.1 y3.1).bind fun y6 =>
    cond (!y6)
    (fin false)
    (cond (!(y5.2 == y3.2))
      (fin false)
      ((laws_toPile x0).bind fun y7 =>
        (laws_eqPile (y4.1, (y4.2.1, (y4.2.2, ()))) (y7.1, (y7.2.1, (y7.2.2, ())))).bind fun y8 =>
        cond (!y8)
        (fin false)
        (fin true))))
def laws_FnExactOldestLot (x0 : DPile) : Option (Bool) := laws_FnExactOldestLotK some x0
theorem p5 {R : Type} (fin : Bool → Option R) (x0 : DPile) : Par fin (laws_FnExactOldestLotK some x0) (laws_FnExactOldestLotK fin x0) := by
  unfold laws_FnExactOldestLotK
  repeat' (first | exact .fin | exact .none | refine .cond ?_ ?_ | refine .bind fun _ => ?_ | refine .sum (fun _ => ?_) fun _ => ?_)
def c5 : Callee := mkC [.agg [.ro TPile]] 1 [.one (.ro .bool)] fun x => laws_FnExactOldestLot x
theorem e5 (x : PK.dens [.agg [.ro TPile]]) : evalFn Try.prog EL5 or0 Try.f5 (PK.outs [.agg [.ro TPile]] x) =
    laws_FnExactOldestLotK (fun y => some (tupOf ((PK.outs [.one (.ro .bool)] y).take 1), (PK.outs [.one (.ro .bool)] y).drop 1)) x := by kernel_rfl
theorem k5 : CalleeOk Try.prog 5 c5 := callee_mk Try.func5 (code := codeOf Try.f5) (by kernel_rfl) vL5 mixed (LoOk.nil (by kernel_rfl)) fun x y h => (e5 x).trans (p5 _ x y h)

/-- spec.PileSums -/
def EL24 : Nat → Option Callee := addE 53 c53 (addE 51 c51 env0)
theorem vL24 : EnvOk Try.prog EL24 := (EnvOk.nil.add Try.func51 rfl (by kernel_rfl) k51).add Try.func53 rfl (by kernel_rfl) k53
def spec_PileSumsK {R : Type} (fin : Int × Int × Bool → Option R) (x0 : DPile) : Option R :=
  (spec_spGood x0).bind fun y1 =>
  cond (!y1)
  (fin (0, (0, false)))
  ((spec_spSums x0.2.2.1).bind fun y2 =>
    fin (y2.1, (y2.2, true)))
def spec_PileSums (x0 : DPile) : Option (Int × Int × Bool) := spec_PileSumsK some x0
theorem p24 {R : Type} (fin : Int × Int × Bool → Option R) (x0 : DPile) : Par fin (spec_PileSumsK some x0) (spec_PileSumsK fin x0) := by
  unfold spec_PileSumsK
  repeat' (first | exact .fin | exact .none | refine .cond ?_ ?_ | refine .bind fun _ => ?_ | refine .sum (fun _ => ?_) fun _ => ?_)
def c24 : Callee := mkC [.agg [.ro TPile]] 3 [.one (.ro (.int .i64)), .one (.ro (.int .i64)), .one (.ro .bool)] fun x => spec_PileSums x
theorem e24 (x : PK.dens [.agg [.ro TPile]]) : evalFn Try.prog EL24 or0 Try.f24 (PK.outs [.agg [.ro TPile]] x) =
    spec_PileSumsK (fun y => some (tupOf ((PK.outs [.one (.ro (.int .i64)), .one (.ro (.int .i64)), .one (.ro .bool)] y).take 3), (PK.outs [.one (.ro (.int .i64)), .one (.ro (.int .i64)), .one (.ro .bool)] y).drop 3)) x := by kernel_rfl
theorem k24 : CalleeOk Try.prog 24 c24 := callee_mk Try.func24 (code := codeOf Try.f24) (by kernel_rfl) vL24 mixed (LoOk.nil (by kernel_rfl)) fun x y h => (e24 x).trans (p24 _ x y h)

/-- impl.lotSum -/
def EL54 : Nat → Option Callee := env0
theorem vL54 : EnvOk Try.prog EL54 := EnvOk.nil
def simpl_lotSum_l0 : LS := ⟨[(2, .one (.fix (.ptr 0 0))), (3, .one (.fix (.ptr 1 0))), (7, .one (.dat (.slice TLot))), (8, .one (.dat (.int .i64))), (9, .one (.dat (.int .i64)))], [.box [.dat (.int .i64), .dat (.int .i64)], .box [.dat (.int .i64), .dat (.int .i64)]], []⟩
def simpl_lotSum_l0x0 : LS := ⟨[(2, .one (.fix (.ptr 0 0))), (3, .one (.fix (.ptr 1 0)))], [.box [.dat (.int .i64), .dat (.int .i64)], .box [.dat (.int .i64), .dat (.int .i64)]], []⟩
def ximpl_lotSum_l0 : List (XS ((List DLot) × Int × Int × Int)) := [⟨.exit 0, ⟨[2, 3], [.slot 2, .slot 3], [], []⟩, simpl_lotSum_l0x0, Int × Int, fun i y => (((), ((), ())), ((i.2.2.1, (i.2.2.2, ())), ((y.1, (y.2, ())), ())))⟩]
def impl_lotSum_l0K {R : Type} (a0 : List DLot) (a1 : Int) (rc : Int → Int → Int → Option R) (fin : Int × Int → Option R) (a2 : Int) (a5 : Int) (a6 : Int) : Option R :=
  cond (decide (a2 < a1))
  ((lat a0 a2).bind fun e1 =>
    rc (IntKind.i64.wrap (a2 + 1)) (IntKind.i64.wrap (a5 + e1.1)) (IntKind.i64.wrap (a6 + e1.2.1)))
  (fin (a5, a6))
def impl_lotSum_l0F (a0 : List DLot) (a1 : Int) (r : (Int × Int × Int) → Option (Int × Int)) (x : Int × Int × Int) : Option (Int × Int) := impl_lotSum_l0K a0 a1 (fun a2 a5 a6 => r (a2, (a5, a6))) some x.1 x.2.1 x.2.2
theorem impl_lotSum_l0c (a0 : List DLot) (a1 : Int) (x : Int × Int × Int) : Ct fun r => impl_lotSum_l0F a0 a1 r x := by
  unfold impl_lotSum_l0F impl_lotSum_l0K
  repeat' (first | exact Ct.const | exact Ct.call | refine Ct.cond ?_ ?_ | refine Ct.bind ?_ fun _ => ?_ | refine Ct.sum (fun _ => ?_) fun _ => ?_)
def impl_lotSum_l0 (a0 : List DLot) (a1 : Int) (a2 : Int) (a5 : Int) (a6 : Int) : Option (Int × Int) := lim (impl_lotSum_l0F a0 a1) (a2, (a5, a6))
theorem impl_lotSum_l0_eq (a0 : List DLot) (a1 : Int) (a2 : Int) (a5 : Int) (a6 : Int) : impl_lotSum_l0 a0 a1 a2 a5 a6 = impl_lotSum_l0K a0 a1 (impl_lotSum_l0 a0 a1) some a2 a5 a6 := lim_eq (impl_lotSum_l0c a0 a1) (a2, (a5, a6))
theorem impl_lotSum_l0p {R : Type} (a0 : List DLot) (a1 : Int) {rc : Int → Int → Int → Option (Int × Int)} {rc' : Int → Int → Int → Option R} {fin : Int × Int → Option R} (hr : ∀ a2 a5 a6, Par fin (rc a2 a5 a6) (rc' a2 a5 a6)) (a2 : Int) (a5 : Int) (a6 : Int) : Par fin (impl_lotSum_l0K a0 a1 rc some a2 a5 a6) (impl_lotSum_l0K a0 a1 rc' fin a2 a5 a6) := by
  unfold impl_lotSum_l0K
  repeat' (first | exact .fin | exact .none | exact hr _ _ _ | refine .cond ?_ ?_ | refine .bind fun _ => ?_ | refine .sum (fun _ => ?_) fun _ => ?_)
def Limpl_lotSum_l0 : Loop := mkL ⟨[2, 3, 7, 8, 9], [.slot 2, .slot 3], [], []⟩ simpl_lotSum_l0 ximpl_lotSum_l0 (fun (x : (Unit × Unit × (List DLot) × Int × Int × Unit) × ((Int × Int × Unit) × (Int × Int × Unit) × Unit)) => (x.1.2.2.1, (x.1.2.2.2.1, (x.2.1.1, x.2.1.2.1)))) fun (x : (Unit × Unit × (List DLot) × Int × Int × Unit) × ((Int × Int × Unit) × (Int × Int × Unit) × Unit)) => impl_lotSum_l0 x.1.2.2.1 x.1.2.2.2.1 x.1.2.2.2.2.1 x.2.2.1.1 x.2.2.1.2.1
def impl_lotSumK {R : Type} (fin : DLot → Option R) (x0 : List DLot) : Option R :=
  (impl_lotSum_l0 x0 (x0.length : Int) 0 0 0).bind fun y2 =>
  fin (y2.1, (y2.2, ()))
def impl_lotSum (x0 : List DLot) : Option (DLot) := impl_lotSumK some x0
theorem p54 {R : Type} (fin : DLot → Option R) (x0 : List DLot) : Par fin (impl_lotSumK some x0) (impl_lotSumK fin x0) := by
  unfold impl_lotSumK
  repeat' (first | exact .fin | exact .none | refine .cond ?_ ?_ | refine .bind fun _ => ?_ | refine .sum (fun _ => ?_) fun _ => ?_)
def or54 : Ora := { lo := addL 3 (Limpl_lotSum_l0) lo0, fin := [] }
theorem impl_lotSum_l0e (a0 : List DLot) (a1 : Int) (a3 : Int) (a4 : Int) (k : Nat) (a2 : Int) (a5 : Int) (a6 : Int) : loopC Try.prog EL54 or54 ((loopsIn (codeOf Try.f54)).getD 0 .skip) (Limpl_lotSum_l0).h (Limpl_lotSum_l0).ho Try.f54.ntmps (k + 1) (simpl_lotSum_l0.out (((), ((), (a0, (a1, (a2, ()))))), ((a3, (a4, ())), ((a5, (a6, ())), ())))) =
    impl_lotSum_l0K a0 a1 (fun a2 a5 a6 => loopC Try.prog EL54 or54 ((loopsIn (codeOf Try.f54)).getD 0 .skip) (Limpl_lotSum_l0).h (Limpl_lotSum_l0).ho Try.f54.ntmps k (simpl_lotSum_l0.out (((), ((), (a0, (a1, (a2, ()))))), ((a3, (a4, ())), ((a5, (a6, ())), ()))))) (fun y => some (XS.out ximpl_lotSum_l0 (a0, (a1, (a3, a4))) y)) a2 a5 a6 := by kernel_rfl
theorem impl_lotSum_l0o : LoopOk Try.prog EL54 or54 Try.f54.ntmps ((loopsIn (codeOf Try.f54)).getD 0 .skip) (Limpl_lotSum_l0) :=
  loop_lim (hs := simpl_lotSum_l0) (xs := ximpl_lotSum_l0) (ι := fun (x : (Unit × Unit × (List DLot) × Int × Int × Unit) × ((Int × Int × Unit) × (Int × Int × Unit) × Unit)) => (x.1.2.2.1, (x.1.2.2.2.1, (x.2.1.1, x.2.1.2.1)))) (φ := fun (x : (Unit × Unit × (List DLot) × Int × Int × Unit) × ((Int × Int × Unit) × (Int × Int × Unit) × Unit)) => (x.1.2.2.2.2.1, (x.2.2.1.1, x.2.2.1.2.1))) (ψ := fun (i : (List DLot) × Int × Int × Int) (v : Int × Int × Int) => (((), ((), (i.1, (i.2.1, (v.1, ()))))), ((i.2.2.1, (i.2.2.2, ())), ((v.2.1, (v.2.2, ())), ())))) (F := fun (i : (List DLot) × Int × Int × Int) => impl_lotSum_l0F i.1 i.2.1) (fun _ => rfl) fun i k hk v => Par.of_eq (impl_lotSum_l0e i.1 i.2.1 i.2.2.1 i.2.2.2 k v.1 v.2.1 v.2.2) (impl_lotSum_l0p i.1 i.2.1 (fun a2 a5 a6 => hk (a2, (a5, a6))) v.1 v.2.1 v.2.2)
def c54 : Callee := mkC [.one (.ro (.slice TLot))] 1 [.agg [.ro TLot]] fun x => impl_lotSum x
theorem e54 (x : PK.dens [.one (.ro (.slice TLot))]) : evalFn Try.prog EL54 or54 Try.f54 (PK.outs [.one (.ro (.slice TLot))] x) =
    impl_lotSumK (fun y => some (tupOf ((PK.outs [.agg [.ro TLot]] y).take 1), (PK.outs [.agg [.ro TLot]] y).drop 1)) x := by kernel_rfl
theorem o54 : LoOk Try.prog EL54 or54 Try.f54.ntmps (loopsIn (codeOf Try.f54)) :=
  LoOk.mk (m := 1) (by kernel_rfl) fun i hi => match i, hi with
    | 0, _ => ⟨Limpl_lotSum_l0, by kernel_rfl, impl_lotSum_l0o⟩
    | i + 1, hi => absurd hi (by omega)
theorem k54 : CalleeOk Try.prog 54 c54 := callee_mk Try.func54 (code := codeOf Try.f54) (by kernel_rfl) vL54 mixed o54 fun x y h => (e54 x).trans (p54 _ x y h)

/-- impl.PileSums -/
def EL25 : Nat → Option Callee := addE 54 c54 (addE 20 c20 env0)
theorem vL25 : EnvOk Try.prog EL25 := (EnvOk.nil.add Try.func20 rfl (by kernel_rfl) k20).add Try.func54 rfl (by kernel_rfl) k54
def impl_PileSumsK {R : Type} (fin : Int × Int × Bool → Option R) (x0 : DPile) : Option R :=
  (impl_IsPile x0).bind fun y1 =>
  cond (!y1)
  (fin (0, (0, false)))
  ((impl_lotSum x0.2.2.1).bind fun y2 =>
    fin (y2.1, (y2.2.1, true)))
def impl_PileSums (x0 : DPile) : Option (Int × Int × Bool) := impl_PileSumsK some x0
theorem p25 {R : Type} (fin : Int × Int × Bool → Option R) (x0 : DPile) : Par fin (impl_PileSumsK some x0) (impl_PileSumsK fin x0) := by
  unfold impl_PileSumsK
  repeat' (first | exact .fin | exact .none | refine .cond ?_ ?_ | refine .bind fun _ => ?_ | refine .sum (fun _ => ?_) fun _ => ?_)
def c25 : Callee := mkC [.agg [.ro TPile]] 3 [.one (.ro (.int .i64)), .one (.ro (.int .i64)), .one (.ro .bool)] fun x => impl_PileSums x
theorem e25 (x : PK.dens [.agg [.ro TPile]]) : evalFn Try.prog EL25 or0 Try.f25 (PK.outs [.agg [.ro TPile]] x) =
    impl_PileSumsK (fun y => some (tupOf ((PK.outs [.one (.ro (.int .i64)), .one (.ro (.int .i64)), .one (.ro .bool)] y).take 3), (PK.outs [.one (.ro (.int .i64)), .one (.ro (.int .i64)), .one (.ro .bool)] y).drop 3)) x := by kernel_rfl
theorem k25 : CalleeOk Try.prog 25 c25 := callee_mk Try.func25 (code := codeOf Try.f25) (by kernel_rfl) vL25 mixed (LoOk.nil (by kernel_rfl)) fun x y h => (e25 x).trans (p25 _ x y h)

/-- laws.FnExactPileSums -/
def EL6 : Nat → Option Callee := addE 21 c21 (addE 25 c25 (addE 24 c24 (addE 19 c19 (addE 17 c17 env0))))
theorem vL6 : EnvOk Try.prog EL6 := ((((EnvOk.nil.add Try.func17 rfl (by kernel_rfl) k17).add Try.func19 rfl (by kernel_rfl) k19).add Try.func24 rfl (by kernel_rfl) k24).add Try.func25 rfl (by kernel_rfl) k25).add Try.func21 rfl (by kernel_rfl) k21
def laws_FnExactPileSumsK {R : Type} (fin : Bool → Option R) (x0 : DPile) : Option R :=
  (laws_szPile x0 1048576).bind fun y1 =>
  cond (decide (y1 < 0))
  (fin true)
  ((laws_toPile x0).bind fun y2 =>
    (spec_PileSums (y2.1, (y2.2.1, (y2.2.2, ())))).bind fun y3 =>
    (laws_toPile x0).bind fun y4 =>
    (impl_PileSums (y4.1, (y4.2.1, (y4.2.2, ())))).bind fun y5 =>
    cond (y5.1 != y3.1)
    (fin false)
    (cond (y5.2.1 != y3.2.1)
      (fin false)
      (cond (!(y5.2.2 == y3.2.2))
        (fin false)
        ((laws_toPile x0).bind fun y6 =>
          (laws_eqPile (y4.1, (y4.2.1, (y4.2.2, ()))) (y6.1, (y6.2.1, (y6.2.2, ())))).bind fun y7 =>
          cond (!y7)
          (fin false)
          (fin true)))))
def laws_FnExactPileSums (x0 : DPile) : Option (Bool) := laws_FnExactPileSumsK some x0
theorem p6 {R : Type} (fin : Bool → Option R) (x0 : DPile) : Par fin (laws_FnExactPileSumsK some x0) (laws_FnExactPileSumsK fin x0) := by
  unfold laws_FnExactPileSumsK
  repeat' (first | exact .fin | exact .none | refine .cond ?_ ?_ | refine .bind fun _ => ?_ | refine .sum (fun _ => ?_) fun _ => ?_)
def c6 : Callee := mkC [.agg [.ro TPile]] 1 [.one (.ro .bool)] fun x => laws_FnExactPileSums x
theorem e6 (x : PK.dens [.agg [.ro TPile]]) : evalFn Try.prog EL6 or0 Try.f6 (PK.outs [.agg [.ro TPile]] x) =
    laws_FnExactPileSumsK (fun y => some (tupOf ((PK.outs [.one (.ro .bool)] y).take 1), (PK.outs [.one (.ro .bool)] y).drop 1)) x := by kernel_rfl
theorem k6 : CalleeOk Try.prog 6 c6 := callee_mk Try.func6 (code := codeOf Try.f6) (by kernel_rfl) vL6 mixed (LoOk.nil (by kernel_rfl)) fun x y h => (e6 x).trans (p6 _ x y h)

/-- spec.moPart -/
def EL55 : Nat → Option Callee := env0
theorem vL55 : EnvOk Try.prog EL55 := EnvOk.nil
def sspec_moPart_l0 : LS := ⟨[(0, .one (.dat (.int .i64))), (1, .one (.dat (.int .i64))), (6, .one (.dat (.int .i64))), (7, .one (.dat (.int .i64)))], [], []⟩
def sspec_moPart_l0x0 : LS := ⟨[(0, .one (.dat (.int .i64))), (1, .one (.dat (.int .i64))), (6, .one (.dat (.int .i64)))], [], []⟩
def xspec_moPart_l0 : List (XS (Int × Int)) := [⟨.exit 0, ⟨[0, 1, 6], [], [], []⟩, sspec_moPart_l0x0, Int, fun i y => ((i.1, (i.2, (y, ()))), ())⟩]
def spec_moPart_l0K {R : Type} (rc : Int → Int → Option R) (fin : Int → Option R) (a2 : Int) (a3 : Int) : Option R :=
  cond (decide (a3 > 0))
  (cond (decide (a3 = 0))
    (none)
    (rc a3 (a2.tmod a3)))
  (fin a2)
def spec_moPart_l0F (r : (Int × Int) → Option (Int)) (x : Int × Int) : Option (Int) := spec_moPart_l0K (fun a2 a3 => r (a2, a3)) some x.1 x.2
theorem spec_moPart_l0c (x : Int × Int) : Ct fun r => spec_moPart_l0F r x := by
  unfold spec_moPart_l0F spec_moPart_l0K
  repeat' (first | exact Ct.const | exact Ct.call | refine Ct.cond ?_ ?_ | refine Ct.bind ?_ fun _ => ?_ | refine Ct.sum (fun _ => ?_) fun _ => ?_)
def spec_moPart_l0 (a2 : Int) (a3 : Int) : Option (Int) := lim (spec_moPart_l0F) (a2, a3)
theorem spec_moPart_l0_eq (a2 : Int) (a3 : Int) : spec_moPart_l0 a2 a3 = spec_moPart_l0K (spec_moPart_l0) some a2 a3 := lim_eq (spec_moPart_l0c) (a2, a3)
theorem spec_moPart_l0p {R : Type} {rc : Int → Int → Option (Int)} {rc' : Int → Int → Option R} {fin : Int → Option R} (hr : ∀ a2 a3, Par fin (rc a2 a3) (rc' a2 a3)) (a2 : Int) (a3 : Int) : Par fin (spec_moPart_l0K rc some a2 a3) (spec_moPart_l0K rc' fin a2 a3) := by
  unfold spec_moPart_l0K
  repeat' (first | exact .fin | exact .none | exact hr _ _ | refine .cond ?_ ?_ | refine .bind fun _ => ?_ | refine .sum (fun _ => ?_) fun _ => ?_)
def Lspec_moPart_l0 : Loop := mkL ⟨[0, 1, 6, 7], [], [], []⟩ sspec_moPart_l0 xspec_moPart_l0 (fun (x : (Int × Int × Int × Int × Unit) × (Unit)) => (x.1.1, x.1.2.1)) fun (x : (Int × Int × Int × Int × Unit) × (Unit)) => spec_moPart_l0 x.1.2.2.1 x.1.2.2.2.1
def spec_moPartK {R : Type} (fin : Int × Int → Option R) (x0 : Int) (x1 : Int) : Option R :=
  (spec_moPart_l0 x0 x1).bind fun y1 =>
  cond (decide (y1 = 0))
  (none)
  (cond (decide (y1 = 0))
    (none)
    (fin (IntKind.i64.wrap (x0.tdiv y1), IntKind.i64.wrap (x1.tdiv y1))))
def spec_moPart (x0 : Int) (x1 : Int) : Option (Int × Int) := spec_moPartK some x0 x1
theorem p55 {R : Type} (fin : Int × Int → Option R) (x0 : Int) (x1 : Int) : Par fin (spec_moPartK some x0 x1) (spec_moPartK fin x0 x1) := by
  unfold spec_moPartK
  repeat' (first | exact .fin | exact .none | refine .cond ?_ ?_ | refine .bind fun _ => ?_ | refine .sum (fun _ => ?_) fun _ => ?_)
def or55 : Ora := { lo := addL 2 (Lspec_moPart_l0) lo0, fin := [] }
theorem spec_moPart_l0e (a0 : Int) (a1 : Int) (k : Nat) (a2 : Int) (a3 : Int) : loopC Try.prog EL55 or55 ((loopsIn (codeOf Try.f55)).getD 0 .skip) (Lspec_moPart_l0).h (Lspec_moPart_l0).ho Try.f55.ntmps (k + 1) (sspec_moPart_l0.out ((a0, (a1, (a2, (a3, ())))), ())) =
    spec_moPart_l0K (fun a2 a3 => loopC Try.prog EL55 or55 ((loopsIn (codeOf Try.f55)).getD 0 .skip) (Lspec_moPart_l0).h (Lspec_moPart_l0).ho Try.f55.ntmps k (sspec_moPart_l0.out ((a0, (a1, (a2, (a3, ())))), ()))) (fun y => some (XS.out xspec_moPart_l0 (a0, a1) y)) a2 a3 := by kernel_rfl
theorem spec_moPart_l0o : LoopOk Try.prog EL55 or55 Try.f55.ntmps ((loopsIn (codeOf Try.f55)).getD 0 .skip) (Lspec_moPart_l0) :=
  loop_lim (hs := sspec_moPart_l0) (xs := xspec_moPart_l0) (ι := fun (x : (Int × Int × Int × Int × Unit) × (Unit)) => (x.1.1, x.1.2.1)) (φ := fun (x : (Int × Int × Int × Int × Unit) × (Unit)) => (x.1.2.2.1, x.1.2.2.2.1)) (ψ := fun (i : Int × Int) (v : Int × Int) => ((i.1, (i.2, (v.1, (v.2, ())))), ())) (F := fun (i : Int × Int) => spec_moPart_l0F) (fun _ => rfl) fun i k hk v => Par.of_eq (spec_moPart_l0e i.1 i.2 k v.1 v.2) (spec_moPart_l0p (fun a2 a3 => hk (a2, a3)) v.1 v.2)
def c55 : Callee := mkC [.one (.ro (.int .i64)), .one (.ro (.int .i64))] 2 [.one (.ro (.int .i64)), .one (.ro (.int .i64))] fun x => spec_moPart x.1 x.2
theorem e55 (x : PK.dens [.one (.ro (.int .i64)), .one (.ro (.int .i64))]) : evalFn Try.prog EL55 or55 Try.f55 (PK.outs [.one (.ro (.int .i64)), .one (.ro (.int .i64))] x) =
    spec_moPartK (fun y => some (tupOf ((PK.outs [.one (.ro (.int .i64)), .one (.ro (.int .i64))] y).take 2), (PK.outs [.one (.ro (.int .i64)), .one (.ro (.int .i64))] y).drop 2)) x.1 x.2 := by kernel_rfl
theorem o55 : LoOk Try.prog EL55 or55 Try.f55.ntmps (loopsIn (codeOf Try.f55)) :=
  LoOk.mk (m := 1) (by kernel_rfl) fun i hi => match i, hi with
    | 0, _ => ⟨Lspec_moPart_l0, by kernel_rfl, spec_moPart_l0o⟩
    | i + 1, hi => absurd hi (by omega)
theorem k55 : CalleeOk Try.prog 55 c55 := callee_mk Try.func55 (code := codeOf Try.f55) (by kernel_rfl) vL55 mixed o55 fun x y h => (e55 x).trans (p55 _ x.1 x.2 y h)

/-- spec.PileGrade -/
def EL26 : Nat → Option Callee := addE 55 c55 (addE 53 c53 (addE 51 c51 env0))
theorem vL26 : EnvOk Try.prog EL26 := ((EnvOk.nil.add Try.func51 rfl (by kernel_rfl) k51).add Try.func53 rfl (by kernel_rfl) k53).add Try.func55 rfl (by kernel_rfl) k55
def spec_PileGradeK {R : Type} (fin : Int × Int × Bool → Option R) (x0 : DPile) : Option R :=
  (spec_spGood x0).bind fun y1 =>
  cond (!y1)
  (fin (0, (0, false)))
  (cond ((x0.2.2.1.length : Int) == 0)
    (fin (0, (0, false)))
    ((spec_spSums x0.2.2.1).bind fun y2 =>
      (spec_moPart y2.2 y2.1).bind fun y3 =>
      fin (y3.1, (y3.2, true))))
def spec_PileGrade (x0 : DPile) : Option (Int × Int × Bool) := spec_PileGradeK some x0
theorem p26 {R : Type} (fin : Int × Int × Bool → Option R) (x0 : DPile) : Par fin (spec_PileGradeK some x0) (spec_PileGradeK fin x0) := by
  unfold spec_PileGradeK
  repeat' (first | exact .fin | exact .none | refine .cond ?_ ?_ | refine .bind fun _ => ?_ | refine .sum (fun _ => ?_) fun _ => ?_)
def c26 : Callee := mkC [.agg [.ro TPile]] 3 [.one (.ro (.int .i64)), .one (.ro (.int .i64)), .one (.ro .bool)] fun x => spec_PileGrade x
theorem e26 (x : PK.dens [.agg [.ro TPile]]) : evalFn Try.prog EL26 or0 Try.f26 (PK.outs [.agg [.ro TPile]] x) =
    spec_PileGradeK (fun y => some (tupOf ((PK.outs [.one (.ro (.int .i64)), .one (.ro (.int .i64)), .one (.ro .bool)] y).take 3), (PK.outs [.one (.ro (.int .i64)), .one (.ro (.int .i64)), .one (.ro .bool)] y).drop 3)) x := by kernel_rfl
theorem k26 : CalleeOk Try.prog 26 c26 := callee_mk Try.func26 (code := codeOf Try.f26) (by kernel_rfl) vL26 mixed (LoOk.nil (by kernel_rfl)) fun x y h => (e26 x).trans (p26 _ x y h)

/-- impl.abs -/
def EL66 : Nat → Option Callee := env0
theorem vL66 : EnvOk Try.prog EL66 := EnvOk.nil
def impl_absK {R : Type} (fin : Int → Option R) (x0 : Int) : Option R :=
  fin (if (IntKind.i64.wrap (0 - x0)) > x0 then IntKind.i64.wrap (0 - x0) else x0)
def impl_abs (x0 : Int) : Option (Int) := impl_absK some x0
theorem p66 {R : Type} (fin : Int → Option R) (x0 : Int) : Par fin (impl_absK some x0) (impl_absK fin x0) := by
  unfold impl_absK
  repeat' (first | exact .fin | exact .none | refine .cond ?_ ?_ | refine .bind fun _ => ?_ | refine .sum (fun _ => ?_) fun _ => ?_)
def c66 : Callee := mkC [.one (.ro (.int .i64))] 1 [.one (.ro (.int .i64))] fun x => impl_abs x
theorem e66 (x : PK.dens [.one (.ro (.int .i64))]) : evalFn Try.prog EL66 or0 Try.f66 (PK.outs [.one (.ro (.int .i64))] x) =
    impl_absK (fun y => some (tupOf ((PK.outs [.one (.ro (.int .i64))] y).take 1), (PK.outs [.one (.ro (.int .i64))] y).drop 1)) x := by kernel_rfl
theorem k66 : CalleeOk Try.prog 66 c66 := callee_mk Try.func66 (code := codeOf Try.f66) (by kernel_rfl) vL66 mixed (LoOk.nil (by kernel_rfl)) fun x y h => (e66 x).trans (p66 _ x y h)

/-- impl.lowest -/
def EL56 : Nat → Option Callee := addE 66 c66 env0
theorem vL56 : EnvOk Try.prog EL56 := EnvOk.nil.add Try.func66 rfl (by kernel_rfl) k66
def simpl_lowest_l0 : LS := ⟨[(0, .one (.dat (.int .i64))), (1, .one (.dat (.int .i64))), (6, .one (.dat (.int .i64))), (7, .one (.dat (.int .i64)))], [], []⟩
def simpl_lowest_l0x0 : LS := ⟨[(0, .one (.dat (.int .i64))), (1, .one (.dat (.int .i64))), (6, .one (.dat (.int .i64)))], [], []⟩
def ximpl_lowest_l0 : List (XS (Int × Int)) := [⟨.exit 0, ⟨[0, 1, 6], [], [], []⟩, simpl_lowest_l0x0, Int, fun i y => ((i.1, (i.2, (y, ()))), ())⟩]
def impl_lowest_l0K {R : Type} (rc : Int → Int → Option R) (fin : Int → Option R) (a2 : Int) (a3 : Int) : Option R :=
  cond (a3 != 0)
  (cond (decide (a3 = 0))
    (none)
    (rc a3 (a2.tmod a3)))
  (fin a2)
def impl_lowest_l0F (r : (Int × Int) → Option (Int)) (x : Int × Int) : Option (Int) := impl_lowest_l0K (fun a2 a3 => r (a2, a3)) some x.1 x.2
theorem impl_lowest_l0c (x : Int × Int) : Ct fun r => impl_lowest_l0F r x := by
  unfold impl_lowest_l0F impl_lowest_l0K
  repeat' (first | exact Ct.const | exact Ct.call | refine Ct.cond ?_ ?_ | refine Ct.bind ?_ fun _ => ?_ | refine Ct.sum (fun _ => ?_) fun _ => ?_)
def impl_lowest_l0 (a2 : Int) (a3 : Int) : Option (Int) := lim (impl_lowest_l0F) (a2, a3)
theorem impl_lowest_l0_eq (a2 : Int) (a3 : Int) : impl_lowest_l0 a2 a3 = impl_lowest_l0K (impl_lowest_l0) some a2 a3 := lim_eq (impl_lowest_l0c) (a2, a3)
theorem impl_lowest_l0p {R : Type} {rc : Int → Int → Option (Int)} {rc' : Int → Int → Option R} {fin : Int → Option R} (hr : ∀ a2 a3, Par fin (rc a2 a3) (rc' a2 a3)) (a2 : Int) (a3 : Int) : Par fin (impl_lowest_l0K rc some a2 a3) (impl_lowest_l0K rc' fin a2 a3) := by
  unfold impl_lowest_l0K
  repeat' (first | exact .fin | exact .none | exact hr _ _ | refine .cond ?_ ?_ | refine .bind fun _ => ?_ | refine .sum (fun _ => ?_) fun _ => ?_)
def Limpl_lowest_l0 : Loop := mkL ⟨[0, 1, 6, 7], [], [], []⟩ simpl_lowest_l0 ximpl_lowest_l0 (fun (x : (Int × Int × Int × Int × Unit) × (Unit)) => (x.1.1, x.1.2.1)) fun (x : (Int × Int × Int × Int × Unit) × (Unit)) => impl_lowest_l0 x.1.2.2.1 x.1.2.2.2.1
def impl_lowestK {R : Type} (fin : Int × Int → Option R) (x0 : Int) (x1 : Int) : Option R :=
  (impl_abs x0).bind fun y1 =>
  (impl_lowest_l0 y1 x1).bind fun y2 =>
  cond (decide (y2 = 0))
  (none)
  (cond (decide (y2 = 0))
    (none)
    (fin (IntKind.i64.wrap (x0.tdiv y2), IntKind.i64.wrap (x1.tdiv y2))))
def impl_lowest (x0 : Int) (x1 : Int) : Option (Int × Int) := impl_lowestK some x0 x1
theorem p56 {R : Type} (fin : Int × Int → Option R) (x0 : Int) (x1 : Int) : Par fin (impl_lowestK some x0 x1) (impl_lowestK fin x0 x1) := by
  unfold impl_lowestK
  repeat' (first | exact .fin | exact .none | refine .cond ?_ ?_ | refine .bind fun _ => ?_ | refine .sum (fun _ => ?_) fun _ => ?_)
def or56 : Ora := { lo := addL 2 (Limpl_lowest_l0) lo0, fin := [] }
theorem impl_lowest_l0e (a0 : Int) (a1 : Int) (k : Nat) (a2 : Int) (a3 : Int) : loopC Try.prog EL56 or56 ((loopsIn (codeOf Try.f56)).getD 0 .skip) (Limpl_lowest_l0).h (Limpl_lowest_l0).ho Try.f56.ntmps (k + 1) (simpl_lowest_l0.out ((a0, (a1, (a2, (a3, ())))), ())) =
    impl_lowest_l0K (fun a2 a3 => loopC Try.prog EL56 or56 ((loopsIn (codeOf Try.f56)).getD 0 .skip) (Limpl_lowest_l0).h (Limpl_lowest_l0).ho Try.f56.ntmps k (simpl_lowest_l0.out ((a0, (a1, (a2, (a3, ())))), ()))) (fun y => some (XS.out ximpl_lowest_l0 (a0, a1) y)) a2 a3 := by kernel_rfl
theorem impl_lowest_l0o : LoopOk Try.prog EL56 or56 Try.f56.ntmps ((loopsIn (codeOf Try.f56)).getD 0 .skip) (Limpl_lowest_l0) :=
  loop_lim (hs := simpl_lowest_l0) (xs := ximpl_lowest_l0) (ι := fun (x : (Int × Int × Int × Int × Unit) × (Unit)) => (x.1.1, x.1.2.1)) (φ := fun (x : (Int × Int × Int × Int × Unit) × (Unit)) => (x.1.2.2.1, x.1.2.2.2.1)) (ψ := fun (i : Int × Int) (v : Int × Int) => ((i.1, (i.2, (v.1, (v.2, ())))), ())) (F := fun (i : Int × Int) => impl_lowest_l0F) (fun _ => rfl) fun i k hk v => Par.of_eq (impl_lowest_l0e i.1 i.2 k v.1 v.2) (impl_lowest_l0p (fun a2 a3 => hk (a2, a3)) v.1 v.2)
def c56 : Callee := mkC [.one (.ro (.int .i64)), .one (.ro (.int .i64))] 2 [.one (.ro (.int .i64)), .one (.ro (.int .i64))] fun x => impl_lowest x.1 x.2
theorem e56 (x : PK.dens [.one (.ro (.int .i64)), .one (.ro (.int .i64))]) : evalFn Try.prog EL56 or56 Try.f56 (PK.outs [.one (.ro (.int .i64)), .one (.ro (.int .i64))] x) =
    impl_lowestK (fun y => some (tupOf ((PK.outs [.one (.ro (.int .i64)), .one (.ro (.int .i64))] y).take 2), (PK.outs [.one (.ro (.int .i64)), .one (.ro (.int .i64))] y).drop 2)) x.1 x.2 := by kernel_rfl
theorem o56 : LoOk Try.prog EL56 or56 Try.f56.ntmps (loopsIn (codeOf Try.f56)) :=
  LoOk.mk (m := 1) (by kernel_rfl) fun i hi => match i, hi with
    | 0, _ => ⟨Limpl_lowest_l0, by kernel_rfl, impl_lowest_l0o⟩
    | i + 1, hi => absurd hi (by omega)
theorem k56 : CalleeOk Try.prog 56 c56 := callee_mk Try.func56 (code := codeOf Try.f56) (by kernel_rfl) vL56 mixed o56 fun x y h => (e56 x).trans (p56 _ x.1 x.2 y h)

/-- impl.PileGrade -/
def EL27 : Nat → Option Callee := addE 56 c56 (addE 54 c54 (addE 20 c20 env0))
theorem vL27 : EnvOk Try.prog EL27 := ((EnvOk.nil.add Try.func20 rfl (by kernel_rfl) k20).add Try.func54 rfl (by kernel_rfl) k54).add Try.func56 rfl (by kernel_rfl) k56
def impl_PileGradeK {R : Type} (fin : Int × Int × Bool → Option R) (x0 : DPile) : Option R :=
  (impl_IsPile x0).bind fun y1 =>
  cond (!y1)
  (fin (0, (0, false)))
  (cond ((x0.2.2.1.length : Int) == 0)
    (fin (0, (0, false)))
    ((impl_lotSum x0.2.2.1).bind fun y2 =>
      (impl_lowest y2.2.1 y2.1).bind fun y3 =>
      fin (y3.1, (y3.2, true))))
def impl_PileGrade (x0 : DPile) : Option (Int × Int × Bool) := impl_PileGradeK some x0
theorem p27 {R : Type} (fin : Int × Int × Bool → Option R) (x0 : DPile) : Par fin (impl_PileGradeK some x0) (impl_PileGradeK fin x0) := by
  unfold impl_PileGradeK
  repeat' (first | exact .fin | exact .none | refine .cond ?_ ?_ | refine .bind fun _ => ?_ | refine .sum (fun _ => ?_) fun _ => ?_)
def c27 : Callee := mkC [.agg [.ro TPile]] 3 [.one (.ro (.int .i64)), .one (.ro (.int .i64)), .one (.ro .bool)] fun x => impl_PileGrade x
theorem e27 (x : PK.dens [.agg [.ro TPile]]) : evalFn Try.prog EL27 or0 Try.f27 (PK.outs [.agg [.ro TPile]] x) =
    impl_PileGradeK (fun y => some (tupOf ((PK.outs [.one (.ro (.int .i64)), .one (.ro (.int .i64)), .one (.ro .bool)] y).take 3), (PK.outs [.one (.ro (.int .i64)), .one (.ro (.int .i64)), .one (.ro .bool)] y).drop 3)) x := by kernel_rfl
theorem k27 : CalleeOk Try.prog 27 c27 := callee_mk Try.func27 (code := codeOf Try.f27) (by kernel_rfl) vL27 mixed (LoOk.nil (by kernel_rfl)) fun x y h => (e27 x).trans (p27 _ x y h)

/-- laws.FnExactPileGrade -/
def EL7 : Nat → Option Callee := addE 21 c21 (addE 27 c27 (addE 26 c26 (addE 19 c19 (addE 17 c17 env0))))
theorem vL7 : EnvOk Try.prog EL7 := ((((EnvOk.nil.add Try.func17 rfl (by kernel_rfl) k17).add Try.func19 rfl (by kernel_rfl) k19).add Try.func26 rfl (by kernel_rfl) k26).add Try.func27 rfl (by kernel_rfl) k27).add Try.func21 rfl (by kernel_rfl) k21
def laws_FnExactPileGradeK {R : Type} (fin : Bool → Option R) (x0 : DPile) : Option R :=
  (laws_szPile x0 1048576).bind fun y1 =>
  cond (decide (y1 < 0))
  (fin true)
  ((laws_toPile x0).bind fun y2 =>
    (spec_PileGrade (y2.1, (y2.2.1, (y2.2.2, ())))).bind fun y3 =>
    (laws_toPile x0).bind fun y4 =>
    (impl_PileGrade (y4.1, (y4.2.1, (y4.2.2, ())))).bind fun y5 =>
    cond (y5.1 != y3.1)
    (fin false)
    (cond (y5.2.1 != y3.2.1)
      (fin false)
      (cond (!(y5.2.2 == y3.2.2))
        (fin false)
        ((laws_toPile x0).bind fun y6 =>
          (laws_eqPile (y4.1, (y4.2.1, (y4.2.2, ()))) (y6.1, (y6.2.1, (y6.2.2, ())))).bind fun y7 =>
          cond (!y7)
          (fin false)
          (fin true)))))
def laws_FnExactPileGrade (x0 : DPile) : Option (Bool) := laws_FnExactPileGradeK some x0
theorem p7 {R : Type} (fin : Bool → Option R) (x0 : DPile) : Par fin (laws_FnExactPileGradeK some x0) (laws_FnExactPileGradeK fin x0) := by
  unfold laws_FnExactPileGradeK
  repeat' (first | exact .fin | exact .none | refine .cond ?_ ?_ | refine .bind fun _ => ?_ | refine .sum (fun _ => ?_) fun _ => ?_)
def c7 : Callee := mkC [.agg [.ro TPile]] 1 [.one (.ro .bool)] fun x => laws_FnExactPileGrade x
theorem e7 (x : PK.dens [.agg [.ro TPile]]) : evalFn Try.prog EL7 or0 Try.f7 (PK.outs [.agg [.ro TPile]] x) =
    laws_FnExactPileGradeK (fun y => some (tupOf ((PK.outs [.one (.ro .bool)] y).take 1), (PK.outs [.one (.ro .bool)] y).drop 1)) x := by kernel_rfl
theorem k7 : CalleeOk Try.prog 7 c7 := callee_mk Try.func7 (code := codeOf Try.f7) (by kernel_rfl) vL7 mixed (LoOk.nil (by kernel_rfl)) fun x y h => (e7 x).trans (p7 _ x y h)

/-- spec.spWith -/
def EL59 : Nat → Option Callee := env0
theorem vL59 : EnvOk Try.prog EL59 := EnvOk.nil
def spec_spWithK {R : Type} (fin : Bool × Int × (List DLot) → Option R) (x0 : DPile) (x1 : List DLot) : Option R :=
  cond (decide (([] : List DLot).length + x1.length ≤ 1099511627776))
  (fin (x0.1, (x0.2.1, ([] : List DLot) ++ x1)))
  (none)
def spec_spWith (x0 : DPile) (x1 : List DLot) : Option (Bool × Int × (List DLot)) := spec_spWithK some x0 x1
theorem p59 {R : Type} (fin : Bool × Int × (List DLot) → Option R) (x0 : DPile) (x1 : List DLot) : Par fin (spec_spWithK some x0 x1) (spec_spWithK fin x0 x1) := by
  unfold spec_spWithK
  repeat' (first | exact .fin | exact .none | refine .cond ?_ ?_ | refine .bind fun _ => ?_ | refine .sum (fun _ => ?_) fun _ => ?_)
def c59 : Callee := mkC [.agg [.ro TPile], .one (.ro (.slice TLot))] 1 [.agg [.ro .bool, .ro (.int .i64), .sl TLot]] fun x => spec_spWith x.1 x.2
theorem e59 (x : PK.dens [.agg [.ro TPile], .one (.ro (.slice TLot))]) : evalFn Try.prog EL59 or0 Try.f59 (PK.outs [.agg [.ro TPile], .one (.ro (.slice TLot))] x) =
    spec_spWithK (fun y => some (tupOf ((PK.outs [.agg [.ro .bool, .ro (.int .i64), .sl TLot]] y).take 1), (PK.outs [.agg [.ro .bool, .ro (.int .i64), .sl TLot]] y).drop 1)) x.1 x.2 := by kernel_rfl
theorem k59 : CalleeOk Try.prog 59 c59 := callee_mk Try.func59 (code := codeOf Try.f59) (by kernel_rfl) vL59 mixed (LoOk.nil (by kernel_rfl)) fun x y h => (e59 x).trans (p59 _ x.1 x.2 y h)

/-- spec.spPut -/
def EL57 : Nat → Option Callee := addE 51 c51 (addE 59 c59 env0)
theorem vL57 : EnvOk Try.prog EL57 := (EnvOk.nil.add Try.func59 rfl (by kernel_rfl) k59).add Try.func51 rfl (by kernel_rfl) k51
def spec_spPutK {R : Type} (fin : (Bool × Int × (List DLot)) × Bool → Option R) (x0 : DPile) (x1 : DLot) : Option R :=
  (spec_spWith x0 x0.2.2.1).bind fun y1 =>
  cond (x0.1)
  (cond ((x0.2.2.1.length : Int) == 1)
    (cond (decide ((0 : Int) < (y1.2.2.length : Int)))
      (cond (decide ((0 : Int) < (y1.2.2.length : Int)))
        ((some (y1.2.2.set (0 + 0) (IntKind.i64.wrap (((y1.2.2.getD (0 + 0) TLot.dflt).1) + x1.1), (((y1.2.2.getD (0 + 0) TLot.dflt).2).1, ())))).bind fun v2 =>
          cond (decide ((0 : Int) < (v2.length : Int)))
          (cond (decide ((0 : Int) < (v2.length : Int)))
            ((some (v2.set (0 + 0) ((v2.getD (0 + 0) TLot.dflt).1, (IntKind.i64.wrap ((((v2.getD (0 + 0) TLot.dflt).2).1) + x1.2.1), ())))).bind fun v3 =>
              (spec_spGood (y1.1, (y1.2.1, (v3, ())))).bind fun y4 =>
              cond (!y4)
              (fin ((false, (0, [])), false))
              (fin ((y1.1, (y1.2.1, v3)), true)))
            (none))
          (none))
        (none))
      (none))
    (cond (decide (y1.2.2.length + [x1].length ≤ 1099511627776))
      ((some (y1.2.2 ++ [x1])).bind fun v5 =>
        (spec_spGood (y1.1, (y1.2.1, (v5, ())))).bind fun y6 =>
        cond (!y6)
        (fin ((false, (0, [])), false))
        (fin ((y1.1, (y1.2.1, v5)), true)))
      (none)))
  (cond (decide (y1.2.2.length + [x1].length ≤ 1099511627776))
    ((some (y1.2.2 ++ [x1])).bind fun v7 =>
      (spec_spGood (y1.1, (y1.2.1, (v7, ())))).bind fun y8 =>
      cond (!y8)
      (fin ((false, (0, [])), false))
      (fin ((y1.1, (y1.2.1, v7)), true)))
    (none))
def spec_spPut (x0 : DPile) (x1 : DLot) : Option ((Bool × Int × (List DLot)) × Bool) := spec_spPutK some x0 x1
theorem p57 {R : Type} (fin : (Bool × Int × (List DLot)) × Bool → Option R) (x0 : DPile) (x1 : DLot) : Par fin (spec_spPutK some x0 x1) (spec_spPutK fin x0 x1) := by
  unfold spec_spPutK
  repeat' (first | exact .fin | exact .none | refine .cond ?_ ?_ | refine .bind fun _ => ?_ | refine .sum (fun _ => ?_) fun _ => ?_)
def or57 : Ora := { lo := lo0, fin := [.own (.cell 4 2) TLot] }
def c57 : Callee := mkC [.agg [.ro TPile], .agg [.ro TLot]] 2 [.agg [.ro .bool, .ro (.int .i64), .sl TLot], .one (.ro .bool)] fun x => spec_spPut x.1 x.2
theorem e57 (x : PK.dens [.agg [.ro TPile], .agg [.ro TLot]]) : evalFn Try.prog EL57 or57 Try.f57 (PK.outs [.agg [.ro TPile], .agg [.ro TLot]] x) =
    spec_spPutK (fun y => some (tupOf ((PK.outs [.agg [.ro .bool, .ro (.int .i64), .sl TLot], .one (.ro .bool)] y).take 2), (PK.outs [.agg [.ro .bool, .ro (.int .i64), .sl TLot], .one (.ro .bool)] y).drop 2)) x.1 x.2 := by kernel_rfl
theorem k57 : CalleeOk Try.prog 57 c57 := callee_mk Try.func57 (code := codeOf Try.f57) (by kernel_rfl) vL57 mixed (LoOk.nil (by kernel_rfl)) fun x y h => (e57 x).trans (p57 _ x.1 x.2 y h)

/-- spec.PutLot -/
def EL28 : Nat → Option Callee := addE 57 c57 (addE 45 c45 (addE 51 c51 env0))
theorem vL28 : EnvOk Try.prog EL28 := ((EnvOk.nil.add Try.func51 rfl (by kernel_rfl) k51).add Try.func45 rfl (by kernel_rfl) k45).add Try.func57 rfl (by kernel_rfl) k57
def spec_PutLotK {R : Type} (fin : (Bool × Int × (List DLot)) × Bool → Option R) (x0 : DPile) (x1 : DLot) : Option R :=
  (spec_spGood x0).bind fun y1 =>
  cond (!y1)
  (fin ((false, (0, [])), false))
  ((spec_spLot x1).bind fun y2 =>
    cond (!y2)
    (fin ((false, (0, [])), false))
    ((spec_spPut x0 x1).bind fun y3 =>
      fin y3))
def spec_PutLot (x0 : DPile) (x1 : DLot) : Option ((Bool × Int × (List DLot)) × Bool) := spec_PutLotK some x0 x1
theorem p28 {R : Type} (fin : (Bool × Int × (List DLot)) × Bool → Option R) (x0 : DPile) (x1 : DLot) : Par fin (spec_PutLotK some x0 x1) (spec_PutLotK fin x0 x1) := by
  unfold spec_PutLotK
  repeat' (first | exact .fin | exact .none | refine .cond ?_ ?_ | refine .bind fun _ => ?_ | refine .sum (fun _ => ?_) fun _ => ?_)
def or28 : Ora := { lo := lo0, fin := [.own (.cell 4 2) TLot] }
def c28 : Callee := mkC [.agg [.ro TPile], .agg [.ro TLot]] 2 [.agg [.ro .bool, .ro (.int .i64), .sl TLot], .one (.ro .bool)] fun x => spec_PutLot x.1 x.2
theorem e28 (x : PK.dens [.agg [.ro TPile], .agg [.ro TLot]]) : evalFn Try.prog EL28 or28 Try.f28 (PK.outs [.agg [.ro TPile], .agg [.ro TLot]] x) =
    spec_PutLotK (fun y => some (tupOf ((PK.outs [.agg [.ro .bool, .ro (.int .i64), .sl TLot], .one (.ro .bool)] y).take 2), (PK.outs [.agg [.ro .bool, .ro (.int .i64), .sl TLot], .one (.ro .bool)] y).drop 2)) x.1 x.2 := by kernel_rfl
theorem k28 : CalleeOk Try.prog 28 c28 := callee_mk Try.func28 (code := codeOf Try.f28) (by kernel_rfl) vL28 mixed (LoOk.nil (by kernel_rfl)) fun x y h => (e28 x).trans (p28 _ x.1 x.2 y h)

/-- impl.copyPile -/
def EL60 : Nat → Option Callee := env0
theorem vL60 : EnvOk Try.prog EL60 := EnvOk.nil
def impl_copyPileK {R : Type} (fin : Bool × Int × (List DLot) → Option R) (x0 : DPile) : Option R :=
  cond (decide (([] : List DLot).length + x0.2.2.1.length ≤ 1099511627776))
  (fin (x0.1, (x0.2.1, ([] : List DLot) ++ x0.2.2.1)))
  (none)
def impl_copyPile (x0 : DPile) : Option (Bool × Int × (List DLot)) := impl_copyPileK some x0
theorem p60 {R : Type} (fin : Bool × Int × (List DLot) → Option R) (x0 : DPile) : Par fin (impl_copyPileK some x0) (impl_copyPileK fin x0) := by
  unfold impl_copyPileK
  repeat' (first | exact .fin | exact .none | refine .cond ?_ ?_ | refine .bind fun _ => ?_ | refine .sum (fun _ => ?_) fun _ => ?_)
def c60 : Callee := mkC [.agg [.ro TPile]] 1 [.agg [.ro .bool, .ro (.int .i64), .sl TLot]] fun x => impl_copyPile x
theorem e60 (x : PK.dens [.agg [.ro TPile]]) : evalFn Try.prog EL60 or0 Try.f60 (PK.outs [.agg [.ro TPile]] x) =
    impl_copyPileK (fun y => some (tupOf ((PK.outs [.agg [.ro .bool, .ro (.int .i64), .sl TLot]] y).take 1), (PK.outs [.agg [.ro .bool, .ro (.int .i64), .sl TLot]] y).drop 1)) x := by kernel_rfl
theorem k60 : CalleeOk Try.prog 60 c60 := callee_mk Try.func60 (code := codeOf Try.f60) (by kernel_rfl) vL60 mixed (LoOk.nil (by kernel_rfl)) fun x y h => (e60 x).trans (p60 _ x y h)

/-- impl.putLot -/
def EL58 : Nat → Option Callee := addE 20 c20 (addE 54 c54 (addE 60 c60 env0))
theorem vL58 : EnvOk Try.prog EL58 := ((EnvOk.nil.add Try.func60 rfl (by kernel_rfl) k60).add Try.func54 rfl (by kernel_rfl) k54).add Try.func20 rfl (by kernel_rfl) k20
def impl_putLotK {R : Type} (fin : (Bool × Int × (List DLot)) × Bool → Option R) (x0 : DPile) (x1 : DLot) : Option R :=
  (impl_copyPile x0).bind fun y1 =>
  cond (y1.1)
  (cond (decide ((y1.2.2.length : Int) > 0))
    (cond (decide ((0 : Int) < (y1.2.2.length : Int)))
      ((impl_lotSum [((y1.2.2.getD (0 + 0) TLot.dflt).1, (((y1.2.2.getD (0 + 0) TLot.dflt).2).1, ())), x1]).bind fun y2 =>
        cond (decide ((0 : Int) < (y1.2.2.length : Int)))
        ((some (y1.2.2.set (0 + 0) y2)).bind fun v3 =>
          (impl_IsPile (y1.1, (y1.2.1, (v3, ())))).bind fun y4 =>
          cond (!y4)
          (fin ((false, (0, [])), false))
          (fin ((y1.1, (y1.2.1, v3)), true)))
        (none))
      (none))
    (cond (decide (y1.2.2.length + [x1].length ≤ 1099511627776))
      ((some (y1.2.2 ++ [x1])).bind fun v5 =>
        (impl_IsPile (y1.1, (y1.2.1, (v5, ())))).bind fun y6 =>
        cond (!y6)
        (fin ((false, (0, [])), false))
        (fin ((y1.1, (y1.2.1, v5)), true)))
      (none)))
  (cond (decide (y1.2.2.length + [x1].length ≤ 1099511627776))
    ((some (y1.2.2 ++ [x1])).bind fun v7 =>
      (impl_IsPile (y1.1, (y1.2.1, (v7, ())))).bind fun y8 =>
      cond (!y8)
      (fin ((false, (0, [])), false))
      (fin ((y1.1, (y1.2.1, v7)), true)))
    (none))
def impl_putLot (x0 : DPile) (x1 : DLot) : Option ((Bool × Int × (List DLot)) × Bool) := impl_putLotK some x0 x1
theorem p58 {R : Type} (fin : (Bool × Int × (List DLot)) × Bool → Option R) (x0 : DPile) (x1 : DLot) : Par fin (impl_putLotK some x0 x1) (impl_putLotK fin x0 x1) := by
  unfold impl_putLotK
  repeat' (first | exact .fin | exact .none | refine .cond ?_ ?_ | refine .bind fun _ => ?_ | refine .sum (fun _ => ?_) fun _ => ?_)
def or58 : Ora := { lo := lo0, fin := [.own (.cell 4 2) TLot] }
def c58 : Callee := mkC [.agg [.ro TPile], .agg [.ro TLot]] 2 [.agg [.ro .bool, .ro (.int .i64), .sl TLot], .one (.ro .bool)] fun x => impl_putLot x.1 x.2
theorem e58 (x : PK.dens [.agg [.ro TPile], .agg [.ro TLot]]) : evalFn Try.prog EL58 or58 Try.f58 (PK.outs [.agg [.ro TPile], .agg [.ro TLot]] x) =
    impl_putLotK (fun y => some (tupOf ((PK.outs [.agg [.ro .bool, .ro (.int .i64), .sl TLot], .one (.ro .bool)] y).take 2), (PK.outs [.agg [.ro .bool, .ro (.int .i64), .sl TLot], .one (.ro .bool)] y).drop 2)) x.1 x.2 := by kernel_rfl
theorem k58 : CalleeOk Try.prog 58 c58 := callee_mk Try.func58 (code := codeOf Try.f58) (by kernel_rfl) vL58 mixed (LoOk.nil (by kernel_rfl)) fun x y h => (e58 x).trans (p58 _ x.1 x.2 y h)

/-- impl.PutLot -/
def EL29 : Nat → Option Callee := addE 58 c58 (addE 48 c48 (addE 20 c20 env0))
theorem vL29 : EnvOk Try.prog EL29 := ((EnvOk.nil.add Try.func20 rfl (by kernel_rfl) k20).add Try.func48 rfl (by kernel_rfl) k48).add Try.func58 rfl (by kernel_rfl) k58
def impl_PutLotK {R : Type} (fin : (Bool × Int × (List DLot)) × Bool → Option R) (x0 : DPile) (x1 : DLot) : Option R :=
  (impl_IsPile x0).bind fun y1 =>
  cond (!y1)
  (fin ((false, (0, [])), false))
  ((impl_isLot x1).bind fun y2 =>
    cond (!y2)
    (fin ((false, (0, [])), false))
    ((impl_putLot x0 x1).bind fun y3 =>
      fin y3))
def impl_PutLot (x0 : DPile) (x1 : DLot) : Option ((Bool × Int × (List DLot)) × Bool) := impl_PutLotK some x0 x1
theorem p29 {R : Type} (fin : (Bool × Int × (List DLot)) × Bool → Option R) (x0 : DPile) (x1 : DLot) : Par fin (impl_PutLotK some x0 x1) (impl_PutLotK fin x0 x1) := by
  unfold impl_PutLotK
  repeat' (first | exact .fin | exact .none | refine .cond ?_ ?_ | refine .bind fun _ => ?_ | refine .sum (fun _ => ?_) fun _ => ?_)
def or29 : Ora := { lo := lo0, fin := [.own (.cell 4 2) TLot] }
def c29 : Callee := mkC [.agg [.ro TPile], .agg [.ro TLot]] 2 [.agg [.ro .bool, .ro (.int .i64), .sl TLot], .one (.ro .bool)] fun x => impl_PutLot x.1 x.2
theorem e29 (x : PK.dens [.agg [.ro TPile], .agg [.ro TLot]]) : evalFn Try.prog EL29 or29 Try.f29 (PK.outs [.agg [.ro TPile], .agg [.ro TLot]] x) =
    impl_PutLotK (fun y => some (tupOf ((PK.outs [.agg [.ro .bool, .ro (.int .i64), .sl TLot], .one (.ro .bool)] y).take 2), (PK.outs [.agg [.ro .bool, .ro (.int .i64), .sl TLot], .one (.ro .bool)] y).drop 2)) x.1 x.2 := by kernel_rfl
theorem k29 : CalleeOk Try.prog 29 c29 := callee_mk Try.func29 (code := codeOf Try.f29) (by kernel_rfl) vL29 mixed (LoOk.nil (by kernel_rfl)) fun x y h => (e29 x).trans (p29 _ x.1 x.2 y h)

/-- laws.markLotS -/
def EL43 : Nat → Option Callee := env0
theorem vL43 : EnvOk Try.prog EL43 := EnvOk.nil
def slaws_markLotS_l0 : LS := ⟨[(0, .one (.fix (.sref 0))), (1, .one (.dat (.int .i64))), (5, .one (.dat (.int .i64)))], [.sl TLot], [0]⟩
def slaws_markLotS_l0x0 : LS := ⟨[(0, .one (.fix (.sref 0))), (1, .one (.dat (.int .i64)))], [.sl TLot], [0]⟩
def xlaws_markLotS_l0 : List (XS (Unit)) := [⟨.exit 0, ⟨[0, 1], [.slot 0], [0], []⟩, slaws_markLotS_l0x0, Int × (List DLot), fun i y => (((), (y.1, ())), (y.2, ()))⟩]
def laws_markLotS_l0K {R : Type} (rc : Int → Int → List DLot → Option R) (fin : Int × (List DLot) → Option R) (a0 : Int) (a1 : Int) (a2 : List DLot) : Option R :=
  cond (decide (a1 < (a2.length : Int)))
  (cond (decide ((0 : Int) ≤ a1) && decide (a1 < (a2.length : Int)))
    ((some (a2.set (0 + a1.toNat) (a0, (((a2.getD (0 + a1.toNat) TLot.dflt).2).1, ())))).bind fun v1 =>
      cond (decide ((0 : Int) ≤ a1) && decide (a1 < (v1.length : Int)))
      ((some (v1.set (0 + a1.toNat) ((v1.getD (0 + a1.toNat) TLot.dflt).1, (IntKind.i64.wrap (a0 + 1), ())))).bind fun v2 =>
        rc (IntKind.i64.wrap ((IntKind.i64.wrap (a0 + 1)) + 1)) (IntKind.i64.wrap (a1 + 1)) v2)
      (none))
    (none))
  (fin (a0, a2))
def laws_markLotS_l0F (r : (Int × Int × (List DLot)) → Option (Int × (List DLot))) (x : Int × Int × (List DLot)) : Option (Int × (List DLot)) := laws_markLotS_l0K (fun a0 a1 a2 => r (a0, (a1, a2))) some x.1 x.2.1 x.2.2
theorem laws_markLotS_l0c (x : Int × Int × (List DLot)) : Ct fun r => laws_markLotS_l0F r x := by
  unfold laws_markLotS_l0F laws_markLotS_l0K
  repeat' (first | exact Ct.const | exact Ct.call | refine Ct.cond ?_ ?_ | refine Ct.bind ?_ fun _ => ?_ | refine Ct.sum (fun _ => ?_) fun _ => ?_)
def laws_markLotS_l0 (a0 : Int) (a1 : Int) (a2 : List DLot) : Option (Int × (List DLot)) := lim (laws_markLotS_l0F) (a0, (a1, a2))
theorem laws_markLotS_l0_eq (a0 : Int) (a1 : Int) (a2 : List DLot) : laws_markLotS_l0 a0 a1 a2 = laws_markLotS_l0K (laws_markLotS_l0) some a0 a1 a2 := lim_eq (laws_markLotS_l0c) (a0, (a1, a2))
theorem laws_markLotS_l0p {R : Type} {rc : Int → Int → List DLot → Option (Int × (List DLot))} {rc' : Int → Int → List DLot → Option R} {fin : Int × (List DLot) → Option R} (hr : ∀ a0 a1 a2, Par fin (rc a0 a1 a2) (rc' a0 a1 a2)) (a0 : Int) (a1 : Int) (a2 : List DLot) : Par fin (laws_markLotS_l0K rc some a0 a1 a2) (laws_markLotS_l0K rc' fin a0 a1 a2) := by
  unfold laws_markLotS_l0K
  repeat' (first | exact .fin | exact .none | exact hr _ _ _ | refine .cond ?_ ?_ | refine .bind fun _ => ?_ | refine .sum (fun _ => ?_) fun _ => ?_)
def Llaws_markLotS_l0 : Loop := mkL ⟨[0, 1, 5], [.slot 0], [0], []⟩ slaws_markLotS_l0 xlaws_markLotS_l0 (fun (x : (Unit × Int × Int × Unit) × ((List DLot) × Unit)) => ()) fun (x : (Unit × Int × Int × Unit) × ((List DLot) × Unit)) => laws_markLotS_l0 x.1.2.1 x.1.2.2.1 x.2.1
def laws_markLotSK {R : Type} (fin : Int × (List DLot) → Option R) (x0 : List DLot) (x1 : Int) : Option R :=
  (laws_markLotS_l0 x1 0 x0).bind fun y3 =>
  fin y3
def laws_markLotS (x0 : List DLot) (x1 : Int) : Option (Int × (List DLot)) := laws_markLotSK some x0 x1
theorem p43 {R : Type} (fin : Int × (List DLot) → Option R) (x0 : List DLot) (x1 : Int) : Par fin (laws_markLotSK some x0 x1) (laws_markLotSK fin x0 x1) := by
  unfold laws_markLotSK
  repeat' (first | exact .fin | exact .none | refine .cond ?_ ?_ | refine .bind fun _ => ?_ | refine .sum (fun _ => ?_) fun _ => ?_)
def or43 : Ora := { lo := addL 2 (Llaws_markLotS_l0) lo0, fin := [] }
theorem laws_markLotS_l0e (k : Nat) (a0 : Int) (a1 : Int) (a2 : List DLot) : loopC Try.prog EL43 or43 ((loopsIn (codeOf Try.f43)).getD 0 .skip) (Llaws_markLotS_l0).h (Llaws_markLotS_l0).ho Try.f43.ntmps (k + 1) (slaws_markLotS_l0.out (((), (a0, (a1, ()))), (a2, ()))) =
    laws_markLotS_l0K (fun a0 a1 a2 => loopC Try.prog EL43 or43 ((loopsIn (codeOf Try.f43)).getD 0 .skip) (Llaws_markLotS_l0).h (Llaws_markLotS_l0).ho Try.f43.ntmps k (slaws_markLotS_l0.out (((), (a0, (a1, ()))), (a2, ())))) (fun y => some (XS.out xlaws_markLotS_l0 () y)) a0 a1 a2 := by kernel_rfl
theorem laws_markLotS_l0o : LoopOk Try.prog EL43 or43 Try.f43.ntmps ((loopsIn (codeOf Try.f43)).getD 0 .skip) (Llaws_markLotS_l0) :=
  loop_lim (hs := slaws_markLotS_l0) (xs := xlaws_markLotS_l0) (ι := fun (x : (Unit × Int × Int × Unit) × ((List DLot) × Unit)) => ()) (φ := fun (x : (Unit × Int × Int × Unit) × ((List DLot) × Unit)) => (x.1.2.1, (x.1.2.2.1, x.2.1))) (ψ := fun (i : Unit) (v : Int × Int × (List DLot)) => (((), (v.1, (v.2.1, ()))), (v.2.2, ()))) (F := fun (i : Unit) => laws_markLotS_l0F) (fun _ => rfl) fun i k hk v => Par.of_eq (laws_markLotS_l0e k v.1 v.2.1 v.2.2) (laws_markLotS_l0p (fun a0 a1 a2 => hk (a0, (a1, a2))) v.1 v.2.1 v.2.2)
def c43 : Callee := mkC [.one (.sl TLot), .one (.ro (.int .i64))] 1 [.one (.ro (.int .i64)), .one (.sl TLot)] fun x => laws_markLotS x.1 x.2
theorem e43 (x : PK.dens [.one (.sl TLot), .one (.ro (.int .i64))]) : evalFn Try.prog EL43 or43 Try.f43 (PK.outs [.one (.sl TLot), .one (.ro (.int .i64))] x) =
    laws_markLotSK (fun y => some (tupOf ((PK.outs [.one (.ro (.int .i64)), .one (.sl TLot)] y).take 1), (PK.outs [.one (.ro (.int .i64)), .one (.sl TLot)] y).drop 1)) x.1 x.2 := by kernel_rfl
theorem o43 : LoOk Try.prog EL43 or43 Try.f43.ntmps (loopsIn (codeOf Try.f43)) :=
  LoOk.mk (m := 1) (by kernel_rfl) fun i hi => match i, hi with
    | 0, _ => ⟨Llaws_markLotS_l0, by kernel_rfl, laws_markLotS_l0o⟩
    | i + 1, hi => absurd hi (by omega)
theorem k43 : CalleeOk Try.prog 43 c43 := callee_mk Try.func43 (code := codeOf Try.f43) (by kernel_rfl) vL43 mixed o43 fun x y h => (e43 x).trans (p43 _ x.1 x.2 y h)

/-- laws.markPile -/
def EL30 : Nat → Option Callee := addE 43 c43 env0
theorem vL30 : EnvOk Try.prog EL30 := EnvOk.nil.add Try.func43 rfl (by kernel_rfl) k43
def laws_markPileK {R : Type} (fin : Int × (Bool × Int × (List DLot)) → Option R) (x0 : Bool × Int × (List DLot)) (x1 : Int) : Option R :=
  (laws_markLotS x0.2.2 x1).bind fun y1 =>
  fin (y1.1, (x0.1, (x0.2.1, y1.2)))
def laws_markPile (x0 : Bool × Int × (List DLot)) (x1 : Int) : Option (Int × (Bool × Int × (List DLot))) := laws_markPileK some x0 x1
theorem p30 {R : Type} (fin : Int × (Bool × Int × (List DLot)) → Option R) (x0 : Bool × Int × (List DLot)) (x1 : Int) : Par fin (laws_markPileK some x0 x1) (laws_markPileK fin x0 x1) := by
  unfold laws_markPileK
  repeat' (first | exact .fin | exact .none | refine .cond ?_ ?_ | refine .bind fun _ => ?_ | refine .sum (fun _ => ?_) fun _ => ?_)
def c30 : Callee := mkC [.agg [.ro .bool, .ro (.int .i64), .sl TLot], .one (.ro (.int .i64))] 1 [.one (.ro (.int .i64)), .agg [.ro .bool, .ro (.int .i64), .sl TLot]] fun x => laws_markPile x.1 x.2
theorem e30 (x : PK.dens [.agg [.ro .bool, .ro (.int .i64), .sl TLot], .one (.ro (.int .i64))]) : evalFn Try.prog EL30 or0 Try.f30 (PK.outs [.agg [.ro .bool, .ro (.int .i64), .sl TLot], .one (.ro (.int .i64))] x) =
    laws_markPileK (fun y => some (tupOf ((PK.outs [.one (.ro (.int .i64)), .agg [.ro .bool, .ro (.int .i64), .sl TLot]] y).take 1), (PK.outs [.one (.ro (.int .i64)), .agg [.ro .bool, .ro (.int .i64), .sl TLot]] y).drop 1)) x.1 x.2 := by kernel_rfl
theorem k30 : CalleeOk Try.prog 30 c30 := callee_mk Try.func30 (code := codeOf Try.f30) (by kernel_rfl) vL30 mixed (LoOk.nil (by kernel_rfl)) fun x y h => (e30 x).trans (p30 _ x.1 x.2 y h)

/-- laws.heldLotS -/
def EL44 : Nat → Option Callee := env0
theorem vL44 : EnvOk Try.prog EL44 := EnvOk.nil
def slaws_heldLotS_l0 : LS := ⟨[(0, .one (.dat (.slice TLot))), (1, .one (.dat (.int .i64))), (5, .one (.dat (.int .i64)))], [], []⟩
def slaws_heldLotS_l0x0 : LS := ⟨[(4, .one (.dat (.int .i64)))], [], []⟩
def slaws_heldLotS_l0x1 : LS := ⟨[(1, .one (.dat (.int .i64)))], [], []⟩
def xlaws_heldLotS_l0 : List (XS (List DLot)) := [⟨.ret, ⟨[4], [], [], []⟩, slaws_heldLotS_l0x0, Int, fun i y => ((y, ()), ())⟩,
  ⟨.exit 0, ⟨[1], [], [], []⟩, slaws_heldLotS_l0x1, Int, fun i y => ((y, ()), ())⟩]
def laws_heldLotS_l0K {R : Type} (a0 : List DLot) (rc : Int → Int → Option R) (fin : (Int ⊕ Int) → Option R) (a1 : Int) (a2 : Int) : Option R :=
  cond (decide (a2 < (a0.length : Int)))
  ((lat a0 a2).bind fun e1 =>
    cond (e1.1 != a1)
    (fin (.inl (-1)))
    ((lat a0 a2).bind fun e2 =>
      cond (e2.2.1 != (IntKind.i64.wrap (a1 + 1)))
      (fin (.inl (-1)))
      (rc (IntKind.i64.wrap ((IntKind.i64.wrap (a1 + 1)) + 1)) (IntKind.i64.wrap (a2 + 1)))))
  (fin (.inr a1))
def laws_heldLotS_l0F (a0 : List DLot) (r : (Int × Int) → Option (Int ⊕ Int)) (x : Int × Int) : Option (Int ⊕ Int) := laws_heldLotS_l0K a0 (fun a1 a2 => r (a1, a2)) some x.1 x.2
theorem laws_heldLotS_l0c (a0 : List DLot) (x : Int × Int) : Ct fun r => laws_heldLotS_l0F a0 r x := by
  unfold laws_heldLotS_l0F laws_heldLotS_l0K
  repeat' (first | exact Ct.const | exact Ct.call | refine Ct.cond ?_ ?_ | refine Ct.bind ?_ fun _ => ?_ | refine Ct.sum (fun _ => ?_) fun _ => ?_)
def laws_heldLotS_l0 (a0 : List DLot) (a1 : Int) (a2 : Int) : Option (Int ⊕ Int) := lim (laws_heldLotS_l0F a0) (a1, a2)
theorem laws_heldLotS_l0_eq (a0 : List DLot) (a1 : Int) (a2 : Int) : laws_heldLotS_l0 a0 a1 a2 = laws_heldLotS_l0K a0 (laws_heldLotS_l0 a0) some a1 a2 := lim_eq (laws_heldLotS_l0c a0) (a1, a2)
theorem laws_heldLotS_l0p {R : Type} (a0 : List DLot) {rc : Int → Int → Option (Int ⊕ Int)} {rc' : Int → Int → Option R} {fin : (Int ⊕ Int) → Option R} (hr : ∀ a1 a2, Par fin (rc a1 a2) (rc' a1 a2)) (a1 : Int) (a2 : Int) : Par fin (laws_heldLotS_l0K a0 rc some a1 a2) (laws_heldLotS_l0K a0 rc' fin a1 a2) := by
  unfold laws_heldLotS_l0K
  repeat' (first | exact .fin | exact .none | exact hr _ _ | refine .cond ?_ ?_ | refine .bind fun _ => ?_ | refine .sum (fun _ => ?_) fun _ => ?_)
def Llaws_heldLotS_l0 : Loop := mkL ⟨[0, 1, 5], [], [], []⟩ slaws_heldLotS_l0 xlaws_heldLotS_l0 (fun (x : ((List DLot) × Int × Int × Unit) × (Unit)) => x.1.1) fun (x : ((List DLot) × Int × Int × Unit) × (Unit)) => laws_heldLotS_l0 x.1.1 x.1.2.1 x.1.2.2.1
def laws_heldLotSK {R : Type} (fin : Int → Option R) (x0 : List DLot) (x1 : Int) : Option R :=
  (laws_heldLotS_l0 x0 x1 0).bind fun y3 =>
  sumO y3 (fun y4 =>
  fin y4)
  (fun y5 =>
  fin y5)
def laws_heldLotS (x0 : List DLot) (x1 : Int) : Option (Int) := laws_heldLotSK some x0 x1
theorem p44 {R : Type} (fin : Int → Option R) (x0 : List DLot) (x1 : Int) : Par fin (laws_heldLotSK some x0 x1) (laws_heldLotSK fin x0 x1) := by
  unfold laws_heldLotSK
  repeat' (first | exact .fin | exact .none | refine .cond ?_ ?_ | refine .bind fun _ => ?_ | refine .sum (fun _ => ?_) fun _ => ?_)
def or44 : Ora := { lo := addL 2 (Llaws_heldLotS_l0) lo0, fin := [] }
theorem laws_heldLotS_l0e (a0 : List DLot) (k : Nat) (a1 : Int) (a2 : Int) : loopC Try.prog EL44 or44 ((loopsIn (codeOf Try.f44)).getD 0 .skip) (Llaws_heldLotS_l0).h (Llaws_heldLotS_l0).ho Try.f44.ntmps (k + 1) (slaws_heldLotS_l0.out ((a0, (a1, (a2, ()))), ())) =
    laws_heldLotS_l0K a0 (fun a1 a2 => loopC Try.prog EL44 or44 ((loopsIn (codeOf Try.f44)).getD 0 .skip) (Llaws_heldLotS_l0).h (Llaws_heldLotS_l0).ho Try.f44.ntmps k (slaws_heldLotS_l0.out ((a0, (a1, (a2, ()))), ()))) (fun y => some (XS.out xlaws_heldLotS_l0 a0 y)) a1 a2 := by kernel_rfl
theorem laws_heldLotS_l0o : LoopOk Try.prog EL44 or44 Try.f44.ntmps ((loopsIn (codeOf Try.f44)).getD 0 .skip) (Llaws_heldLotS_l0) :=
  loop_lim (hs := slaws_heldLotS_l0) (xs := xlaws_heldLotS_l0) (ι := fun (x : ((List DLot) × Int × Int × Unit) × (Unit)) => x.1.1) (φ := fun (x : ((List DLot) × Int × Int × Unit) × (Unit)) => (x.1.2.1, x.1.2.2.1)) (ψ := fun (i : List DLot) (v : Int × Int) => ((i, (v.1, (v.2, ()))), ())) (F := fun (i : List DLot) => laws_heldLotS_l0F i) (fun _ => rfl) fun i k hk v => Par.of_eq (laws_heldLotS_l0e i k v.1 v.2) (laws_heldLotS_l0p i (fun a1 a2 => hk (a1, a2)) v.1 v.2)
def c44 : Callee := mkC [.one (.ro (.slice TLot)), .one (.ro (.int .i64))] 1 [.one (.ro (.int .i64))] fun x => laws_heldLotS x.1 x.2
theorem e44 (x : PK.dens [.one (.ro (.slice TLot)), .one (.ro (.int .i64))]) : evalFn Try.prog EL44 or44 Try.f44 (PK.outs [.one (.ro (.slice TLot)), .one (.ro (.int .i64))] x) =
    laws_heldLotSK (fun y => some (tupOf ((PK.outs [.one (.ro (.int .i64))] y).take 1), (PK.outs [.one (.ro (.int .i64))] y).drop 1)) x.1 x.2 := by kernel_rfl
theorem o44 : LoOk Try.prog EL44 or44 Try.f44.ntmps (loopsIn (codeOf Try.f44)) :=
  LoOk.mk (m := 1) (by kernel_rfl) fun i hi => match i, hi with
    | 0, _ => ⟨Llaws_heldLotS_l0, by kernel_rfl, laws_heldLotS_l0o⟩
    | i + 1, hi => absurd hi (by omega)
theorem k44 : CalleeOk Try.prog 44 c44 := callee_mk Try.func44 (code := codeOf Try.f44) (by kernel_rfl) vL44 mixed o44 fun x y h => (e44 x).trans (p44 _ x.1 x.2 y h)

/-- laws.heldPile -/
def EL31 : Nat → Option Callee := addE 44 c44 env0
theorem vL31 : EnvOk Try.prog EL31 := EnvOk.nil.add Try.func44 rfl (by kernel_rfl) k44
def laws_heldPileK {R : Type} (fin : Int → Option R) (x0 : DPile) (x1 : Int) : Option R :=
  (laws_heldLotS x0.2.2.1 x1).bind fun y1 =>
  cond (decide (y1 < 0))
  (fin (-1))
  (fin y1)
def laws_heldPile (x0 : DPile) (x1 : Int) : Option (Int) := laws_heldPileK some x0 x1
theorem p31 {R : Type} (fin : Int → Option R) (x0 : DPile) (x1 : Int) : Par fin (laws_heldPileK some x0 x1) (laws_heldPileK fin x0 x1) := by
  unfold laws_heldPileK
  repeat' (first | exact .fin | exact .none | refine .cond ?_ ?_ | refine .bind fun _ => ?_ | refine .sum (fun _ => ?_) fun _ => ?_)
def c31 : Callee := mkC [.agg [.ro TPile], .one (.ro (.int .i64))] 1 [.one (.ro (.int .i64))] fun x => laws_heldPile x.1 x.2
theorem e31 (x : PK.dens [.agg [.ro TPile], .one (.ro (.int .i64))]) : evalFn Try.prog EL31 or0 Try.f31 (PK.outs [.agg [.ro TPile], .one (.ro (.int .i64))] x) =
    laws_heldPileK (fun y => some (tupOf ((PK.outs [.one (.ro (.int .i64))] y).take 1), (PK.outs [.one (.ro (.int .i64))] y).drop 1)) x.1 x.2 := by kernel_rfl
theorem k31 : CalleeOk Try.prog 31 c31 := callee_mk Try.func31 (code := codeOf Try.f31) (by kernel_rfl) vL31 mixed (LoOk.nil (by kernel_rfl)) fun x y h => (e31 x).trans (p31 _ x.1 x.2 y h)

/-- laws.FnExactPutLot -/
def EL8 : Nat → Option Callee := addE 31 c31 (addE 30 c30 (addE 21 c21 (addE 29 c29 (addE 28 c28 (addE 14 c14 (addE 19 c19 (addE 17 c17 env0)))))))
theorem vL8 : EnvOk Try.prog EL8 := (((((((EnvOk.nil.add Try.func17 rfl (by kernel_rfl) k17).add Try.func19 rfl (by kernel_rfl) k19).add Try.func14 rfl (by kernel_rfl) k14).add Try.func28 rfl (by kernel_rfl) k28).add Try.func29 rfl (by kernel_rfl) k29).add Try.func21 rfl (by kernel_rfl) k21).add Try.func30 rfl (by kernel_rfl) k30).add Try.func31 rfl (by kernel_rfl) k31
def laws_FnExactPutLotK {R : Type} (fin : Bool → Option R) (x0 : DPile) (x1 : DLot) : Option R :=
  (laws_szPile x0 1048576).bind fun y1 =>
  cond (decide (y1 < 0))
  (fin true)
  ((laws_toPile x0).bind fun y2 =>
    (laws_toLot x1).bind fun y3 =>
    (spec_PutLot (y2.1, (y2.2.1, (y2.2.2, ()))) y3).bind fun y4 =>
    (laws_toPile x0).bind fun y5 =>
    (laws_toLot x1).bind fun y6 =>
    (impl_PutLot (y5.1, (y5.2.1, (y5.2.2, ()))) y6).bind fun y7 =>
    (laws_eqPile (y7.1.1, (y7.1.2.1, (y7.1.2.2, ()))) (y4.1.1, (y4.1.2.1, (y4.1.2.2, ())))).bind fun y8 =>
    cond (!y8)
    (fin false)
    (cond (!(y7.2 == y4.2))
      (fin false)
      ((laws_toPile x0).bind fun y9 =>
        (laws_eqPile (y5.1, (y5.2.1, (y5.2.2, ()))) (y9.1, (y9.2.1, (y9.2.2, ())))).bind fun y10 =>
        cond (!y10)
        (fin false)
        ((laws_markPile y5 1).bind fun y11 =>
          cond (decide (y11.1 < 0))
          (fin false)
          ((laws_eqPile (y7.1.1, (y7.1.2.1, (y7.1.2.2, ()))) (y4.1.1, (y4.1.2.1, (y4.1.2.2, ())))).bind fun y12 =>
            cond (!y12)
            (fin false)
            (cond (!(y7.2 == y4.2))
              (fin false)
              ((laws_markPile y7.1 1).bind fun y13 =>
                (laws_heldPile (y7.1.1, (y7.1.2.1, (y13.2.2.2, ()))) 1).bind fun y14 =>
                cond (decide (y14 < 0))
                (fin false)
                (cond (y14 != y13.1)
                  (fin false)
                  ((laws_toPile x0).bind fun y15 =>
                    (laws_toLot x1).bind fun y16 =>
                    (impl_PutLot (y15.1, (y15.2.1, (y15.2.2, ()))) y16).bind fun y17 =>
                    (laws_eqPile (y17.1.1, (y17.1.2.1, (y17.1.2.2, ()))) (y4.1.1, (y4.1.2.1, (y4.1.2.2, ())))).bind fun y18 =>
                    cond (!y18)
                    (fin false)
                    (cond (!(y17.2 == y4.2))
                      (fin false)
                      ((laws_heldPile (y7.1.1, (y7.1.2.1, (y13.2.2.2, ()))) 1).bind fun y19 =>
                        cond (decide (y19 < 0))
                        (fin false)
                        (cond (y19 != y13.1)
                          (fin false)
                          (fin true)))))))))))))
def laws_FnExactPutLot (x0 : DPile) (x1 : DLot) : Option (Bool) := laws_FnExactPutLotK some x0 x1
theorem p8 {R : Type} (fin : Bool → Option R) (x0 : DPile) (x1 : DLot) : Par fin (laws_FnExactPutLotK some x0 x1) (laws_FnExactPutLotK fin x0 x1) := by
  unfold laws_FnExactPutLotK
  repeat' (first | exact .fin | exact .none | refine .cond ?_ ?_ | refine .bind fun _ => ?_ | refine .sum (fun _ => ?_) fun _ => ?_)
def c8 : Callee := mkC [.agg [.ro TPile], .agg [.ro TLot]] 1 [.one (.ro .bool)] fun x => laws_FnExactPutLot x.1 x.2
theorem e8 (x : PK.dens [.agg [.ro TPile], .agg [.ro TLot]]) : evalFn Try.prog EL8 or0 Try.f8 (PK.outs [.agg [.ro TPile], .agg [.ro TLot]] x) =
    laws_FnExactPutLotK (fun y => some (tupOf ((PK.outs [.one (.ro .bool)] y).take 1), (PK.outs [.one (.ro .bool)] y).drop 1)) x.1 x.2 := by kernel_rfl
theorem k8 : CalleeOk Try.prog 8 c8 := callee_mk Try.func8 (code := codeOf Try.f8) (by kernel_rfl) vL8 mixed (LoOk.nil (by kernel_rfl)) fun x y h => (e8 x).trans (p8 _ x.1 x.2 y h)

/-- spec.JoinPiles -/
def EL32 : Nat → Option Callee := addE 57 c57 (addE 59 c59 (addE 51 c51 env0))
theorem vL32 : EnvOk Try.prog EL32 := ((EnvOk.nil.add Try.func51 rfl (by kernel_rfl) k51).add Try.func59 rfl (by kernel_rfl) k59).add Try.func57 rfl (by kernel_rfl) k57
def sspec_JoinPiles_l0 : LS := ⟨[(4, .one (.fix (.ptr 0 0))), (6, .one (.fix (.ptr 1 0))), (25, .one (.dat (.slice TLot))), (26, .one (.dat (.int .i64))), (27, .one (.dat (.int .i64)))], [.box [.dat .bool, .dat (.int .i64), .fix .nils], .box [.dat .bool, .dat (.int .i64), .fix (.sref 2)], .sl TLot], []⟩
def sspec_JoinPiles_l0x0 : LS := ⟨[(4, .one (.fix (.ptr 0 0))), (5, .one (.dat .bool))], [.box [.dat .bool, .dat (.int .i64), .fix .nils]], []⟩
def sspec_JoinPiles_l0x1 : LS := ⟨[(4, .one (.fix (.ptr 0 0))), (6, .one (.fix (.ptr 1 0)))], [.box [.dat .bool, .dat (.int .i64), .fix .nils], .box [.dat .bool, .dat (.int .i64), .fix (.sref 2)], .sl TLot], []⟩
def xspec_JoinPiles_l0 : List (XS ((List DLot) × Int × Bool × Int)) := [⟨.ret, ⟨[4, 5], [.slot 4], [], []⟩, sspec_JoinPiles_l0x0, Bool × Bool × Int, fun i y => (((), (y.1, ())), ((y.2.1, (y.2.2, ((), ()))), ()))⟩,
  ⟨.exit 0, ⟨[4, 6], [.slot 4, .slot 6, .cell 6 2], [], []⟩, sspec_JoinPiles_l0x1, Bool × Int × (List DLot), fun i y => (((), ((), ())), ((i.2.2.1, (i.2.2.2, ((), ()))), ((y.1, (y.2.1, ((), ()))), (y.2.2, ()))))⟩]
def spec_JoinPiles_l0K {R : Type} (a0 : List DLot) (a1 : Int) (rc : Int → Bool → Int → List DLot → Option R) (fin : ((Bool × Bool × Int) ⊕ (Bool × Int × (List DLot))) → Option R) (a2 : Int) (a5 : Bool) (a6 : Int) (a7 : List DLot) : Option R :=
  cond (decide (a2 < a1))
  ((lat a0 a2).bind fun e1 =>
    (spec_spPut (a5, (a6, (a7, ()))) e1).bind fun y2 =>
    cond (!y2.2)
    (fin (.inl (false, (false, 0))))
    (rc (IntKind.i64.wrap (a2 + 1)) y2.1.1 y2.1.2.1 y2.1.2.2))
  (fin (.inr (a5, (a6, a7))))
def spec_JoinPiles_l0F (a0 : List DLot) (a1 : Int) (r : (Int × Bool × Int × (List DLot)) → Option ((Bool × Bool × Int) ⊕ (Bool × Int × (List DLot)))) (x : Int × Bool × Int × (List DLot)) : Option ((Bool × Bool × Int) ⊕ (Bool × Int × (List DLot))) := spec_JoinPiles_l0K a0 a1 (fun a2 a5 a6 a7 => r (a2, (a5, (a6, a7)))) some x.1 x.2.1 x.2.2.1 x.2.2.2
theorem spec_JoinPiles_l0c (a0 : List DLot) (a1 : Int) (x : Int × Bool × Int × (List DLot)) : Ct fun r => spec_JoinPiles_l0F a0 a1 r x := by
  unfold spec_JoinPiles_l0F spec_JoinPiles_l0K
  repeat' (first | exact Ct.const | exact Ct.call | refine Ct.cond ?_ ?_ | refine Ct.bind ?_ fun _ => ?_ | refine Ct.sum (fun _ => ?_) fun _ => ?_)
def spec_JoinPiles_l0 (a0 : List DLot) (a1 : Int) (a2 : Int) (a5 : Bool) (a6 : Int) (a7 : List DLot) : Option ((Bool × Bool × Int) ⊕ (Bool × Int × (List DLot))) := lim (spec_JoinPiles_l0F a0 a1) (a2, (a5, (a6, a7)))
theorem spec_JoinPiles_l0_eq (a0 : List DLot) (a1 : Int) (a2 : Int) (a5 : Bool) (a6 : Int) (a7 : List DLot) : spec_JoinPiles_l0 a0 a1 a2 a5 a6 a7 = spec_JoinPiles_l0K a0 a1 (spec_JoinPiles_l0 a0 a1) some a2 a5 a6 a7 := lim_eq (spec_JoinPiles_l0c a0 a1) (a2, (a5, (a6, a7)))
theorem spec_JoinPiles_l0p {R : Type} (a0 : List DLot) (a1 : Int) {rc : Int → Bool → Int → List DLot → Option ((Bool × Bool × Int) ⊕ (Bool × Int × (List DLot)))} {rc' : Int → Bool → Int → List DLot → Option R} {fin : ((Bool × Bool × Int) ⊕ (Bool × Int × (List DLot))) → Option R} (hr : ∀ a2 a5 a6 a7, Par fin (rc a2 a5 a6 a7) (rc' a2 a5 a6 a7)) (a2 : Int) (a5 : Bool) (a6 : Int) (a7 : List DLot) : Par fin (spec_JoinPiles_l0K a0 a1 rc some a2 a5 a6 a7) (spec_JoinPiles_l0K a0 a1 rc' fin a2 a5 a6 a7) := by
  unfold spec_JoinPiles_l0K
  repeat' (first | exact .fin | exact .none | exact hr _ _ _ _ | refine .cond ?_ ?_ | refine .bind fun _ => ?_ | refine .sum (fun _ => ?_) fun _ => ?_)
def Lspec_JoinPiles_l0 : Loop := mkL ⟨[4, 6, 25, 26, 27], [.slot 4, .slot 6, .cell 6 2], [], []⟩ sspec_JoinPiles_l0 xspec_JoinPiles_l0 (fun (x : (Unit × Unit × (List DLot) × Int × Int × Unit) × ((Bool × Int × Unit × Unit) × (Bool × Int × Unit × Unit) × (List DLot) × Unit)) => (x.1.2.2.1, (x.1.2.2.2.1, (x.2.1.1, x.2.1.2.1)))) fun (x : (Unit × Unit × (List DLot) × Int × Int × Unit) × ((Bool × Int × Unit × Unit) × (Bool × Int × Unit × Unit) × (List DLot) × Unit)) => spec_JoinPiles_l0 x.1.2.2.1 x.1.2.2.2.1 x.1.2.2.2.2.1 x.2.2.1.1 x.2.2.1.2.1 x.2.2.2.1
def spec_JoinPilesK {R : Type} (fin : (Bool × Int × (List DLot)) × Bool → Option R) (x0 : DPile) (x1 : DPile) : Option R :=
  (spec_spGood x0).bind fun y1 =>
  cond (!y1)
  (fin ((false, (0, [])), false))
  ((spec_spGood x1).bind fun y2 =>
    cond (!y2)
    (fin ((false, (0, [])), false))
    ((spec_spWith x0 x0.2.2.1).bind fun y3 =>
      (spec_JoinPiles_l0 x1.2.2.1 (x1.2.2.1.length : Int) 0 y3.1 y3.2.1 y3.2.2).bind fun y6 =>
      sumO y6 (fun y7 =>
      fin ((y7.2.1, (y7.2.2, [])), y7.1))
      (fun y8 =>
      fin (y8, true))))
def spec_JoinPiles (x0 : DPile) (x1 : DPile) : Option ((Bool × Int × (List DLot)) × Bool) := spec_JoinPilesK some x0 x1
theorem p32 {R : Type} (fin : (Bool × Int × (List DLot)) × Bool → Option R) (x0 : DPile) (x1 : DPile) : Par fin (spec_JoinPilesK some x0 x1) (spec_JoinPilesK fin x0 x1) := by
  unfold spec_JoinPilesK
  repeat' (first | exact .fin | exact .none | refine .cond ?_ ?_ | refine .bind fun _ => ?_ | refine .sum (fun _ => ?_) fun _ => ?_)
def or32 : Ora := { lo := addL 5 (Lspec_JoinPiles_l0) lo0, fin := [.own (.cell 4 2) TLot] }
theorem spec_JoinPiles_l0e (a0 : List DLot) (a1 : Int) (a3 : Bool) (a4 : Int) (k : Nat) (a2 : Int) (a5 : Bool) (a6 : Int) (a7 : List DLot) : loopC Try.prog EL32 or32 ((loopsIn (codeOf Try.f32)).getD 0 .skip) (Lspec_JoinPiles_l0).h (Lspec_JoinPiles_l0).ho Try.f32.ntmps (k + 1) (sspec_JoinPiles_l0.out (((), ((), (a0, (a1, (a2, ()))))), ((a3, (a4, ((), ()))), ((a5, (a6, ((), ()))), (a7, ()))))) =
    spec_JoinPiles_l0K a0 a1 (fun a2 a5 a6 a7 => loopC Try.prog EL32 or32 ((loopsIn (codeOf Try.f32)).getD 0 .skip) (Lspec_JoinPiles_l0).h (Lspec_JoinPiles_l0).ho Try.f32.ntmps k (sspec_JoinPiles_l0.out (((), ((), (a0, (a1, (a2, ()))))), ((a3, (a4, ((), ()))), ((a5, (a6, ((), ()))), (a7, ())))))) (fun y => some (XS.out xspec_JoinPiles_l0 (a0, (a1, (a3, a4))) y)) a2 a5 a6 a7 := by kernel_rfl
theorem spec_JoinPiles_l0o : LoopOk Try.prog EL32 or32 Try.f32.ntmps ((loopsIn (codeOf Try.f32)).getD 0 .skip) (Lspec_JoinPiles_l0) :=
  loop_lim (hs := sspec_JoinPiles_l0) (xs := xspec_JoinPiles_l0) (ι := fun (x : (Unit × Unit × (List DLot) × Int × Int × Unit) × ((Bool × Int × Unit × Unit) × (Bool × Int × Unit × Unit) × (List DLot) × Unit)) => (x.1.2.2.1, (x.1.2.2.2.1, (x.2.1.1, x.2.1.2.1)))) (φ := fun (x : (Unit × Unit × (List DLot) × Int × Int × Unit) × ((Bool × Int × Unit × Unit) × (Bool × Int × Unit × Unit) × (List DLot) × Unit)) => (x.1.2.2.2.2.1, (x.2.2.1.1, (x.2.2.1.2.1, x.2.2.2.1)))) (ψ := fun (i : (List DLot) × Int × Bool × Int) (v : Int × Bool × Int × (List DLot)) => (((), ((), (i.1, (i.2.1, (v.1, ()))))), ((i.2.2.1, (i.2.2.2, ((), ()))), ((v.2.1, (v.2.2.1, ((), ()))), (v.2.2.2, ()))))) (F := fun (i : (List DLot) × Int × Bool × Int) => spec_JoinPiles_l0F i.1 i.2.1) (fun _ => rfl) fun i k hk v => Par.of_eq (spec_JoinPiles_l0e i.1 i.2.1 i.2.2.1 i.2.2.2 k v.1 v.2.1 v.2.2.1 v.2.2.2) (spec_JoinPiles_l0p i.1 i.2.1 (fun a2 a5 a6 a7 => hk (a2, (a5, (a6, a7)))) v.1 v.2.1 v.2.2.1 v.2.2.2)
def c32 : Callee := mkC [.agg [.ro TPile], .agg [.ro TPile]] 2 [.agg [.ro .bool, .ro (.int .i64), .sl TLot], .one (.ro .bool)] fun x => spec_JoinPiles x.1 x.2
theorem e32 (x : PK.dens [.agg [.ro TPile], .agg [.ro TPile]]) : evalFn Try.prog EL32 or32 Try.f32 (PK.outs [.agg [.ro TPile], .agg [.ro TPile]] x) =
    spec_JoinPilesK (fun y => some (tupOf ((PK.outs [.agg [.ro .bool, .ro (.int .i64), .sl TLot], .one (.ro .bool)] y).take 2), (PK.outs [.agg [.ro .bool, .ro (.int .i64), .sl TLot], .one (.ro .bool)] y).drop 2)) x.1 x.2 := by kernel_rfl
theorem o32 : LoOk Try.prog EL32 or32 Try.f32.ntmps (loopsIn (codeOf Try.f32)) :=
  LoOk.mk (m := 1) (by kernel_rfl) fun i hi => match i, hi with
    | 0, _ => ⟨Lspec_JoinPiles_l0, by kernel_rfl, spec_JoinPiles_l0o⟩
    | i + 1, hi => absurd hi (by omega)
theorem k32 : CalleeOk Try.prog 32 c32 := callee_mk Try.func32 (code := codeOf Try.f32) (by kernel_rfl) vL32 mixed o32 fun x y h => (e32 x).trans (p32 _ x.1 x.2 y h)

/-- impl.JoinPiles -/
def EL33 : Nat → Option Callee := addE 58 c58 (addE 60 c60 (addE 20 c20 env0))
theorem vL33 : EnvOk Try.prog EL33 := ((EnvOk.nil.add Try.func20 rfl (by kernel_rfl) k20).add Try.func60 rfl (by kernel_rfl) k60).add Try.func58 rfl (by kernel_rfl) k58
def simpl_JoinPiles_l0 : LS := ⟨[(4, .one (.fix (.ptr 0 0))), (6, .one (.fix (.ptr 1 0))), (23, .one (.dat (.slice TLot))), (24, .one (.dat (.int .i64))), (25, .one (.dat (.int .i64)))], [.box [.dat .bool, .dat (.int .i64), .fix .nils], .box [.dat .bool, .dat (.int .i64), .fix (.sref 2)], .sl TLot], []⟩
def simpl_JoinPiles_l0x0 : LS := ⟨[(4, .one (.fix (.ptr 0 0))), (5, .one (.dat .bool))], [.box [.dat .bool, .dat (.int .i64), .fix .nils]], []⟩
def simpl_JoinPiles_l0x1 : LS := ⟨[(4, .one (.fix (.ptr 0 0))), (6, .one (.fix (.ptr 1 0)))], [.box [.dat .bool, .dat (.int .i64), .fix .nils], .box [.dat .bool, .dat (.int .i64), .fix (.sref 2)], .sl TLot], []⟩
def ximpl_JoinPiles_l0 : List (XS ((List DLot) × Int × Bool × Int)) := [⟨.ret, ⟨[4, 5], [.slot 4], [], []⟩, simpl_JoinPiles_l0x0, Bool × Bool × Int, fun i y => (((), (y.1, ())), ((y.2.1, (y.2.2, ((), ()))), ()))⟩,
  ⟨.exit 0, ⟨[4, 6], [.slot 4, .slot 6, .cell 6 2], [], []⟩, simpl_JoinPiles_l0x1, Bool × Int × (List DLot), fun i y => (((), ((), ())), ((i.2.2.1, (i.2.2.2, ((), ()))), ((y.1, (y.2.1, ((), ()))), (y.2.2, ()))))⟩]
def impl_JoinPiles_l0K {R : Type} (a0 : List DLot) (a1 : Int) (rc : Int → Bool → Int → List DLot → Option R) (fin : ((Bool × Bool × Int) ⊕ (Bool × Int × (List DLot))) → Option R) (a2 : Int) (a5 : Bool) (a6 : Int) (a7 : List DLot) : Option R :=
  cond (decide (a2 < a1))
  ((lat a0 a2).bind fun e1 =>
    (impl_putLot (a5, (a6, (a7, ()))) e1).bind fun y2 =>
    cond (!y2.2)
    (fin (.inl (false, (false, 0))))
    (rc (IntKind.i64.wrap (a2 + 1)) y2.1.1 y2.1.2.1 y2.1.2.2))
  (fin (.inr (a5, (a6, a7))))
def impl_JoinPiles_l0F (a0 : List DLot) (a1 : Int) (r : (Int × Bool × Int × (List DLot)) → Option ((Bool × Bool × Int) ⊕ (Bool × Int × (List DLot)))) (x : Int × Bool × Int × (List DLot)) : Option ((Bool × Bool × Int) ⊕ (Bool × Int × (List DLot))) := impl_JoinPiles_l0K a0 a1 (fun a2 a5 a6 a7 => r (a2, (a5, (a6, a7)))) some x.1 x.2.1 x.2.2.1 x.2.2.2
theorem impl_JoinPiles_l0c (a0 : List DLot) (a1 : Int) (x : Int × Bool × Int × (List DLot)) : Ct fun r => impl_JoinPiles_l0F a0 a1 r x := by
  unfold impl_JoinPiles_l0F impl_JoinPiles_l0K
  repeat' (first | exact Ct.const | exact Ct.call | refine Ct.cond ?_ ?_ | refine Ct.bind ?_ fun _ => ?_ | refine Ct.sum (fun _ => ?_) fun _ => ?_)
def impl_JoinPiles_l0 (a0 : List DLot) (a1 : Int) (a2 : Int) (a5 : Bool) (a6 : Int) (a7 : List DLot) : Option ((Bool × Bool × Int) ⊕ (Bool × Int × (List DLot))) := lim (impl_JoinPiles_l0F a0 a1) (a2, (a5, (a6, a7)))
theorem impl_JoinPiles_l0_eq (a0 : List DLot) (a1 : Int) (a2 : Int) (a5 : Bool) (a6 : Int) (a7 : List DLot) : impl_JoinPiles_l0 a0 a1 a2 a5 a6 a7 = impl_JoinPiles_l0K a0 a1 (impl_JoinPiles_l0 a0 a1) some a2 a5 a6 a7 := lim_eq (impl_JoinPiles_l0c a0 a1) (a2, (a5, (a6, a7)))
theorem impl_JoinPiles_l0p {R : Type} (a0 : List DLot) (a1 : Int) {rc : Int → Bool → Int → List DLot → Option ((Bool × Bool × Int) ⊕ (Bool × Int × (List DLot)))} {rc' : Int → Bool → Int → List DLot → Option R} {fin : ((Bool × Bool × Int) ⊕ (Bool × Int × (List DLot))) → Option R} (hr : ∀ a2 a5 a6 a7, Par fin (rc a2 a5 a6 a7) (rc' a2 a5 a6 a7)) (a2 : Int) (a5 : Bool) (a6 : Int) (a7 : List DLot) : Par fin (impl_JoinPiles_l0K a0 a1 rc some a2 a5 a6 a7) (impl_JoinPiles_l0K a0 a1 rc' fin a2 a5 a6 a7) := by
  unfold impl_JoinPiles_l0K
  repeat' (first | exact .fin | exact .none | exact hr _ _ _ _ | refine .cond ?_ ?_ | refine .bind fun _ => ?_ | refine .sum (fun _ => ?_) fun _ => ?_)
def Limpl_JoinPiles_l0 : Loop := mkL ⟨[4, 6, 23, 24, 25], [.slot 4, .slot 6, .cell 6 2], [], []⟩ simpl_JoinPiles_l0 ximpl_JoinPiles_l0 (fun (x : (Unit × Unit × (List DLot) × Int × Int × Unit) × ((Bool × Int × Unit × Unit) × (Bool × Int × Unit × Unit) × (List DLot) × Unit)) => (x.1.2.2.1, (x.1.2.2.2.1, (x.2.1.1, x.2.1.2.1)))) fun (x : (Unit × Unit × (List DLot) × Int × Int × Unit) × ((Bool × Int × Unit × Unit) × (Bool × Int × Unit × Unit) × (List DLot) × Unit)) => impl_JoinPiles_l0 x.1.2.2.1 x.1.2.2.2.1 x.1.2.2.2.2.1 x.2.2.1.1 x.2.2.1.2.1 x.2.2.2.1
def impl_JoinPilesK {R : Type} (fin : (Bool × Int × (List DLot)) × Bool → Option R) (x0 : DPile) (x1 : DPile) : Option R :=
  (impl_IsPile x0).bind fun y1 =>
  cond (!y1)
  (fin ((false, (0, [])), false))
  ((impl_IsPile x1).bind fun y2 =>
    cond (!y2)
    (fin ((false, (0, [])), false))
    ((impl_copyPile x0).bind fun y3 =>
      (impl_JoinPiles_l0 x1.2.2.1 (x1.2.2.1.length : Int) 0 y3.1 y3.2.1 y3.2.2).bind fun y6 =>
      sumO y6 (fun y7 =>
      fin ((y7.2.1, (y7.2.2, [])), y7.1))
      (fun y8 =>
      fin (y8, true))))
def impl_JoinPiles (x0 : DPile) (x1 : DPile) : Option ((Bool × Int × (List DLot)) × Bool) := impl_JoinPilesK some x0 x1
theorem p33 {R : Type} (fin : (Bool × Int × (List DLot)) × Bool → Option R) (x0 : DPile) (x1 : DPile) : Par fin (impl_JoinPilesK some x0 x1) (impl_JoinPilesK fin x0 x1) := by
  unfold impl_JoinPilesK
  repeat' (first | exact .fin | exact .none | refine .cond ?_ ?_ | refine .bind fun _ => ?_ | refine .sum (fun _ => ?_) fun _ => ?_)
def or33 : Ora := { lo := addL 5 (Limpl_JoinPiles_l0) lo0, fin := [.own (.cell 4 2) TLot] }
theorem impl_JoinPiles_l0e (a0 : List DLot) (a1 : Int) (a3 : Bool) (a4 : Int) (k : Nat) (a2 : Int) (a5 : Bool) (a6 : Int) (a7 : List DLot) : loopC Try.prog EL33 or33 ((loopsIn (codeOf Try.f33)).getD 0 .skip) (Limpl_JoinPiles_l0).h (Limpl_JoinPiles_l0).ho Try.f33.ntmps (k + 1) (simpl_JoinPiles_l0.out (((), ((), (a0, (a1, (a2, ()))))), ((a3, (a4, ((), ()))), ((a5, (a6, ((), ()))), (a7, ()))))) =
    impl_JoinPiles_l0K a0 a1 (fun a2 a5 a6 a7 => loopC Try.prog EL33 or33 ((loopsIn (codeOf Try.f33)).getD 0 .skip) (Limpl_JoinPiles_l0).h (Limpl_JoinPiles_l0).ho Try.f33.ntmps k (simpl_JoinPiles_l0.out (((), ((), (a0, (a1, (a2, ()))))), ((a3, (a4, ((), ()))), ((a5, (a6, ((), ()))), (a7, ())))))) (fun y => some (XS.out ximpl_JoinPiles_l0 (a0, (a1, (a3, a4))) y)) a2 a5 a6 a7 := by kernel_rfl
theorem impl_JoinPiles_l0o : LoopOk Try.prog EL33 or33 Try.f33.ntmps ((loopsIn (codeOf Try.f33)).getD 0 .skip) (Limpl_JoinPiles_l0) :=
  loop_lim (hs := simpl_JoinPiles_l0) (xs := ximpl_JoinPiles_l0) (ι := fun (x : (Unit × Unit × (List DLot) × Int × Int × Unit) × ((Bool × Int × Unit × Unit) × (Bool × Int × Unit × Unit) × (List DLot) × Unit)) => (x.1.2.2.1, (x.1.2.2.2.1, (x.2.1.1, x.2.1.2.1)))) (φ := fun (x : (Unit × Unit × (List DLot) × Int × Int × Unit) × ((Bool × Int × Unit × Unit) × (Bool × Int × Unit × Unit) × (List DLot) × Unit)) => (x.1.2.2.2.2.1, (x.2.2.1.1, (x.2.2.1.2.1, x.2.2.2.1)))) (ψ := fun (i : (List DLot) × Int × Bool × Int) (v : Int × Bool × Int × (List DLot)) => (((), ((), (i.1, (i.2.1, (v.1, ()))))), ((i.2.2.1, (i.2.2.2, ((), ()))), ((v.2.1, (v.2.2.1, ((), ()))), (v.2.2.2, ()))))) (F := fun (i : (List DLot) × Int × Bool × Int) => impl_JoinPiles_l0F i.1 i.2.1) (fun _ => rfl) fun i k hk v => Par.of_eq (impl_JoinPiles_l0e i.1 i.2.1 i.2.2.1 i.2.2.2 k v.1 v.2.1 v.2.2.1 v.2.2.2) (impl_JoinPiles_l0p i.1 i.2.1 (fun a2 a5 a6 a7 => hk (a2, (a5, (a6, a7)))) v.1 v.2.1 v.2.2.1 v.2.2.2)
def c33 : Callee := mkC [.agg [.ro TPile], .agg [.ro TPile]] 2 [.agg [.ro .bool, .ro (.int .i64), .sl TLot], .one (.ro .bool)] fun x => impl_JoinPiles x.1 x.2
theorem e33 (x : PK.dens [.agg [.ro TPile], .agg [.ro TPile]]) : evalFn Try.prog EL33 or33 Try.f33 (PK.outs [.agg [.ro TPile], .agg [.ro TPile]] x) =
    impl_JoinPilesK (fun y => some (tupOf ((PK.outs [.agg [.ro .bool, .ro (.int .i64), .sl TLot], .one (.ro .bool)] y).take 2), (PK.outs [.agg [.ro .bool, .ro (.int .i64), .sl TLot], .one (.ro .bool)] y).drop 2)) x.1 x.2 := by kernel_rfl
theorem o33 : LoOk Try.prog EL33 or33 Try.f33.ntmps (loopsIn (codeOf Try.f33)) :=
  LoOk.mk (m := 1) (by kernel_rfl) fun i hi => match i, hi with
    | 0, _ => ⟨Limpl_JoinPiles_l0, by kernel_rfl, impl_JoinPiles_l0o⟩
    | i + 1, hi => absurd hi (by omega)
theorem k33 : CalleeOk Try.prog 33 c33 := callee_mk Try.func33 (code := codeOf Try.f33) (by kernel_rfl) vL33 mixed o33 fun x y h => (e33 x).trans (p33 _ x.1 x.2 y h)

/-- laws.FnExactJoinPiles -/
def EL9 : Nat → Option Callee := addE 31 c31 (addE 30 c30 (addE 21 c21 (addE 33 c33 (addE 32 c32 (addE 19 c19 (addE 17 c17 env0))))))
theorem vL9 : EnvOk Try.prog EL9 := ((((((EnvOk.nil.add Try.func17 rfl (by kernel_rfl) k17).add Try.func19 rfl (by kernel_rfl) k19).add Try.func32 rfl (by kernel_rfl) k32).add Try.func33 rfl (by kernel_rfl) k33).add Try.func21 rfl (by kernel_rfl) k21).add Try.func30 rfl (by kernel_rfl) k30).add Try.func31 rfl (by kernel_rfl) k31
def laws_FnExactJoinPilesK {R : Type} (fin : Bool → Option R) (x0 : DPile) (x1 : DPile) : Option R :=
  (laws_szPile x0 1048576).bind fun y1 =>
  cond (decide (y1 < 0))
  (fin true)
  ((laws_szPile x1 y1).bind fun y2 =>
    cond (decide (y2 < 0))
    (fin true)
    ((laws_toPile x0).bind fun y3 =>
      (laws_toPile x1).bind fun y4 =>
      (spec_JoinPiles (y3.1, (y3.2.1, (y3.2.2, ()))) (y4.1, (y4.2.1, (y4.2.2, ())))).bind fun y5 =>
      (laws_toPile x0).bind fun y6 =>
      (laws_toPile x1).bind fun y7 =>
      (impl_JoinPiles (y6.1, (y6.2.1, (y6.2.2, ()))) (y7.1, (y7.2.1, (y7.2.2, ())))).bind fun y8 =>
      (laws_eqPile (y8.1.1, (y8.1.2.1, (y8.1.2.2, ()))) (y5.1.1, (y5.1.2.1, (y5.1.2.2, ())))).bind fun y9 =>
      cond (!y9)
      (fin false)
      (cond (!(y8.2 == y5.2))
        (fin false)
        ((laws_toPile x0).bind fun y10 =>
          (laws_eqPile (y6.1, (y6.2.1, (y6.2.2, ()))) (y10.1, (y10.2.1, (y10.2.2, ())))).bind fun y11 =>
          cond (!y11)
          (fin false)
          ((laws_toPile x1).bind fun y12 =>
            (laws_eqPile (y7.1, (y7.2.1, (y7.2.2, ()))) (y12.1, (y12.2.1, (y12.2.2, ())))).bind fun y13 =>
            cond (!y13)
            (fin false)
            ((laws_markPile y6 1).bind fun y14 =>
              (laws_markPile y7 y14.1).bind fun y15 =>
              cond (decide (y15.1 < 0))
              (fin false)
              ((laws_eqPile (y8.1.1, (y8.1.2.1, (y8.1.2.2, ()))) (y5.1.1, (y5.1.2.1, (y5.1.2.2, ())))).bind fun y16 =>
                cond (!y16)
                (fin false)
                (cond (!(y8.2 == y5.2))
                  (fin false)
                  ((laws_markPile y8.1 1).bind fun y17 =>
                    (laws_heldPile (y8.1.1, (y8.1.2.1, (y17.2.2.2, ()))) 1).bind fun y18 =>
                    cond (decide (y18 < 0))
                    (fin false)
                    (cond (y18 != y17.1)
                      (fin false)
                      ((laws_toPile x0).bind fun y19 =>
                        (laws_toPile x1).bind fun y20 =>
                        (impl_JoinPiles (y19.1, (y19.2.1, (y19.2.2, ()))) (y20.1, (y20.2.1, (y20.2.2, ())))).bind fun y21 =>
                        (laws_eqPile (y21.1.1, (y21.1.2.1, (y21.1.2.2, ()))) (y5.1.1, (y5.1.2.1, (y5.1.2.2, ())))).bind fun y22 =>
                        cond (!y22)
                        (fin false)
                        (cond (!(y21.2 == y5.2))
                          (fin false)
                          ((laws_heldPile (y8.1.1, (y8.1.2.1, (y17.2.2.2, ()))) 1).bind fun y23 =>
                            cond (decide (y23 < 0))
                            (fin false)
                            (cond (y23 != y17.1)
                              (fin false)
                              (fin true)))))))))))))))
def laws_FnExactJoinPiles (x0 : DPile) (x1 : DPile) : Option (Bool) := laws_FnExactJoinPilesK some x0 x1
theorem p9 {R : Type} (fin : Bool → Option R) (x0 : DPile) (x1 : DPile) : Par fin (laws_FnExactJoinPilesK some x0 x1) (laws_FnExactJoinPilesK fin x0 x1) := by
  unfold laws_FnExactJoinPilesK
  repeat' (first | exact .fin | exact .none | refine .cond ?_ ?_ | refine .bind fun _ => ?_ | refine .sum (fun _ => ?_) fun _ => ?_)
def c9 : Callee := mkC [.agg [.ro TPile], .agg [.ro TPile]] 1 [.one (.ro .bool)] fun x => laws_FnExactJoinPiles x.1 x.2
theorem e9 (x : PK.dens [.agg [.ro TPile], .agg [.ro TPile]]) : evalFn Try.prog EL9 or0 Try.f9 (PK.outs [.agg [.ro TPile], .agg [.ro TPile]] x) =
    laws_FnExactJoinPilesK (fun y => some (tupOf ((PK.outs [.one (.ro .bool)] y).take 1), (PK.outs [.one (.ro .bool)] y).drop 1)) x.1 x.2 := by kernel_rfl
theorem k9 : CalleeOk Try.prog 9 c9 := callee_mk Try.func9 (code := codeOf Try.f9) (by kernel_rfl) vL9 mixed (LoOk.nil (by kernel_rfl)) fun x y h => (e9 x).trans (p9 _ x.1 x.2 y h)

/-- spec.spTake -/
def EL61 : Nat → Option Callee := addE 51 c51 (addE 45 c45 (addE 59 c59 (addE 47 c47 (addE 53 c53 env0))))
theorem vL61 : EnvOk Try.prog EL61 := ((((EnvOk.nil.add Try.func53 rfl (by kernel_rfl) k53).add Try.func47 rfl (by kernel_rfl) k47).add Try.func59 rfl (by kernel_rfl) k59).add Try.func45 rfl (by kernel_rfl) k45).add Try.func51 rfl (by kernel_rfl) k51
def sspec_spTake_l0 : LS := ⟨[(1, .one (.dat (.int .i64))), (2, .one (.fix (.ptr 0 0))), (4, .one (.fix (.ptr 1 0))), (5, .one (.fix (.ptr 2 0))), (9, .one (.fix (.ptr 3 0))), (10, .one (.win 4))], [.box [.dat .bool, .dat (.int .i64), .dat (.slice TLot)], .box [.dat .bool, .dat (.int .i64), .fix .nils], .box [.dat (.int .i64), .dat (.int .i64)], .box [.dat (.int .i64), .dat (.int .i64)], .sl TLot], []⟩
def sspec_spTake_l0x0 : LS := ⟨[(2, .one (.fix (.ptr 0 0))), (4, .one (.fix (.ptr 1 0))), (5, .one (.fix (.ptr 2 0))), (9, .one (.fix (.ptr 3 0))), (10, .one (.win 4))], [.box [.dat .bool, .dat (.int .i64), .dat (.slice TLot)], .box [.dat .bool, .dat (.int .i64), .fix .nils], .box [.dat (.int .i64), .dat (.int .i64)], .box [.dat (.int .i64), .dat (.int .i64)], .sl TLot], []⟩
def xspec_spTake_l0 : List (XS (Int × Bool × Int × (List DLot) × Bool × Int × Int × Int)) := [⟨.exit 0, ⟨[2, 4, 5, 9, 10], [.slot 2, .slot 4, .slot 5, .slot 9, .slot 10], [], []⟩, sspec_spTake_l0x0, Nat × Nat × Int × Int × (List DLot), fun i y => (((), ((), ((), ((), ((y.1, y.2.1), ()))))), ((i.2.1, (i.2.2.1, (i.2.2.2.1, ()))), ((i.2.2.2.2.1, (i.2.2.2.2.2.1, ((), ()))), ((i.2.2.2.2.2.2.1, (i.2.2.2.2.2.2.2, ())), ((y.2.2.1, (y.2.2.2.1, ())), (y.2.2.2.2, ()))))))⟩]
def spec_spTake_l0K {R : Type} (a0 : Int) (rc : Nat → Nat → Int → Int → List DLot → Option R) (fin : Nat × Nat × Int × Int × (List DLot) → Option R) (a1 : Nat) (a2 : Nat) (a10 : Int) (a11 : Int) (a12 : List DLot) : Option R :=
  cond (decide (a10 < a0))
  (cond (decide ((0 : Int) < (((a12.drop a1).take a2).length : Int)))
    (cond (decide ((1 : Int) ≤ (((a12.drop a1).take a2).length : Int)) && decide ((((a12.drop a1).take a2).length : Int) ≤ (((a12.drop a1).take a2).length : Int)))
      (cond (decide ((IntKind.i64.wrap (a0 - a10)) < ((a12.getD (a1 + 0) TLot.dflt).1)))
        ((spec_spSplit ((a12.getD (a1 + 0) TLot.dflt).1, (((a12.getD (a1 + 0) TLot.dflt).2).1, ())) (IntKind.i64.wrap (a0 - a10))).bind fun y1 =>
          cond (decide ([y1.2].length + ((a12.drop (a1 + 1)).take ((((a12.drop a1).take a2).length : Int).toNat - 1)).length ≤ 1099511627776))
          ((some ([y1.2] ++ ((a12.drop (a1 + 1)).take ((((a12.drop a1).take a2).length : Int).toNat - 1)))).bind fun v2 =>
            rc 0 v2.length (IntKind.i64.wrap (a10 + y1.1.1)) (IntKind.i64.wrap (a11 + y1.1.2.1)) v2)
          (none))
        (rc (a1 + 1) ((((a12.drop a1).take a2).length : Int).toNat - 1) (IntKind.i64.wrap (a10 + ((a12.getD (a1 + 0) TLot.dflt).1))) (IntKind.i64.wrap (a11 + (((a12.getD (a1 + 0) TLot.dflt).2).1))) a12))
      (none))
    (none))
  (fin (a1, (a2, (a10, (a11, a12)))))
def spec_spTake_l0F (a0 : Int) (r : (Nat × Nat × Int × Int × (List DLot)) → Option (Nat × Nat × Int × Int × (List DLot))) (x : Nat × Nat × Int × Int × (List DLot)) : Option (Nat × Nat × Int × Int × (List DLot)) := spec_spTake_l0K a0 (fun a1 a2 a10 a11 a12 => r (a1, (a2, (a10, (a11, a12))))) some x.1 x.2.1 x.2.2.1 x.2.2.2.1 x.2.2.2.2
theorem spec_spTake_l0c (a0 : Int) (x : Nat × Nat × Int × Int × (List DLot)) : Ct fun r => spec_spTake_l0F a0 r x := by
  unfold spec_spTake_l0F spec_spTake_l0K
  repeat' (first | exact Ct.const | exact Ct.call | refine Ct.cond ?_ ?_ | refine Ct.bind ?_ fun _ => ?_ | refine Ct.sum (fun _ => ?_) fun _ => ?_)
def spec_spTake_l0 (a0 : Int) (a1 : Nat) (a2 : Nat) (a10 : Int) (a11 : Int) (a12 : List DLot) : Option (Nat × Nat × Int × Int × (List DLot)) := lim (spec_spTake_l0F a0) (a1, (a2, (a10, (a11, a12))))
theorem spec_spTake_l0_eq (a0 : Int) (a1 : Nat) (a2 : Nat) (a10 : Int) (a11 : Int) (a12 : List DLot) : spec_spTake_l0 a0 a1 a2 a10 a11 a12 = spec_spTake_l0K a0 (spec_spTake_l0 a0) some a1 a2 a10 a11 a12 := lim_eq (spec_spTake_l0c a0) (a1, (a2, (a10, (a11, a12))))
theorem spec_spTake_l0p {R : Type} (a0 : Int) {rc : Nat → Nat → Int → Int → List DLot → Option (Nat × Nat × Int × Int × (List DLot))} {rc' : Nat → Nat → Int → Int → List DLot → Option R} {fin : Nat × Nat × Int × Int × (List DLot) → Option R} (hr : ∀ a1 a2 a10 a11 a12, Par fin (rc a1 a2 a10 a11 a12) (rc' a1 a2 a10 a11 a12)) (a1 : Nat) (a2 : Nat) (a10 : Int) (a11 : Int) (a12 : List DLot) : Par fin (spec_spTake_l0K a0 rc some a1 a2 a10 a11 a12) (spec_spTake_l0K a0 rc' fin a1 a2 a10 a11 a12) := by
  unfold spec_spTake_l0K
  repeat' (first | exact .fin | exact .none | exact hr _ _ _ _ _ | refine .cond ?_ ?_ | refine .bind fun _ => ?_ | refine .sum (fun _ => ?_) fun _ => ?_)
def Lspec_spTake_l0 : Loop := mkL ⟨[1, 2, 4, 5, 9, 10], [.slot 2, .slot 4, .slot 5, .slot 9, .slot 10], [], [.win (.slot 10)]⟩ sspec_spTake_l0 xspec_spTake_l0 (fun (x : (Int × Unit × Unit × Unit × Unit × (Nat × Nat) × Unit) × ((Bool × Int × (List DLot) × Unit) × (Bool × Int × Unit × Unit) × (Int × Int × Unit) × (Int × Int × Unit) × (List DLot) × Unit)) => (x.1.1, (x.2.1.1, (x.2.1.2.1, (x.2.1.2.2.1, (x.2.2.1.1, (x.2.2.1.2.1, (x.2.2.2.1.1, x.2.2.2.1.2.1)))))))) fun (x : (Int × Unit × Unit × Unit × Unit × (Nat × Nat) × Unit) × ((Bool × Int × (List DLot) × Unit) × (Bool × Int × Unit × Unit) × (Int × Int × Unit) × (Int × Int × Unit) × (List DLot) × Unit)) => spec_spTake_l0 x.1.1 x.1.2.2.2.2.2.1.1 x.1.2.2.2.2.2.1.2 x.2.2.2.2.1.1 x.2.2.2.2.1.2.1 x.2.2.2.2.2.1
def spec_spTakeK {R : Type} (fin : (Bool × Int × (List DLot)) × DLot × Bool → Option R) (x0 : DPile) (x1 : Int) : Option R :=
  (spec_spSums x0.2.2.1).bind fun y1 =>
  cond (decide (x1 < 1))
  (fin ((false, (0, [])), ((0, (0, ())), false)))
  (cond (decide (x1 > y1.1))
    (fin ((false, (0, [])), ((0, (0, ())), false)))
    (cond (decide (([] : List DLot).length + x0.2.2.1.length ≤ 1099511627776))
      ((spec_spTake_l0 x1 0 ((([] : List DLot) ++ x0.2.2.1).length) 0 0 (([] : List DLot) ++ x0.2.2.1)).bind fun y6 =>
        (spec_spWith x0 ((y6.2.2.2.2.drop y6.1).take y6.2.1)).bind fun y7 =>
        (spec_spLot (y6.2.2.1, (y6.2.2.2.1, ()))).bind fun y8 =>
        cond (!y8)
        (fin ((false, (0, [])), ((0, (0, ())), false)))
        ((spec_spGood (y7.1, (y7.2.1, (y7.2.2, ())))).bind fun y9 =>
          cond (!y9)
          (fin ((false, (0, [])), ((0, (0, ())), false)))
          (fin (y7, ((y6.2.2.1, (y6.2.2.2.1, ())), true)))))
      (none)))
def spec_spTake (x0 : DPile) (x1 : Int) : Option ((Bool × Int × (List DLot)) × DLot × Bool) := spec_spTakeK some x0 x1
theorem p61 {R : Type} (fin : (Bool × Int × (List DLot)) × DLot × Bool → Option R) (x0 : DPile) (x1 : Int) : Par fin (spec_spTakeK some x0 x1) (spec_spTakeK fin x0 x1) := by
  unfold spec_spTakeK
  repeat' (first | exact .fin | exact .none | refine .cond ?_ ?_ | refine .bind fun _ => ?_ | refine .sum (fun _ => ?_) fun _ => ?_)
def or61 : Ora := { lo := addL 6 (Lspec_spTake_l0) lo0, fin := [.own (.cell 4 2) TLot] }
theorem spec_spTake_l0e (a0 : Int) (a3 : Bool) (a4 : Int) (a5 : List DLot) (a6 : Bool) (a7 : Int) (a8 : Int) (a9 : Int) (k : Nat) (a1 : Nat) (a2 : Nat) (a10 : Int) (a11 : Int) (a12 : List DLot) : loopC Try.prog EL61 or61 ((loopsIn (codeOf Try.f61)).getD 0 .skip) (Lspec_spTake_l0).h (Lspec_spTake_l0).ho Try.f61.ntmps (k + 1) (sspec_spTake_l0.out ((a0, ((), ((), ((), ((), ((a1, a2), ())))))), ((a3, (a4, (a5, ()))), ((a6, (a7, ((), ()))), ((a8, (a9, ())), ((a10, (a11, ())), (a12, ()))))))) =
    spec_spTake_l0K a0 (fun a1 a2 a10 a11 a12 => loopC Try.prog EL61 or61 ((loopsIn (codeOf Try.f61)).getD 0 .skip) (Lspec_spTake_l0).h (Lspec_spTake_l0).ho Try.f61.ntmps k (sspec_spTake_l0.out ((a0, ((), ((), ((), ((), ((a1, a2), ())))))), ((a3, (a4, (a5, ()))), ((a6, (a7, ((), ()))), ((a8, (a9, ())), ((a10, (a11, ())), (a12, ())))))))) (fun y => some (XS.out xspec_spTake_l0 (a0, (a3, (a4, (a5, (a6, (a7, (a8, a9))))))) y)) a1 a2 a10 a11 a12 := by kernel_rfl
theorem spec_spTake_l0o : LoopOk Try.prog EL61 or61 Try.f61.ntmps ((loopsIn (codeOf Try.f61)).getD 0 .skip) (Lspec_spTake_l0) :=
  loop_lim (hs := sspec_spTake_l0) (xs := xspec_spTake_l0) (ι := fun (x : (Int × Unit × Unit × Unit × Unit × (Nat × Nat) × Unit) × ((Bool × Int × (List DLot) × Unit) × (Bool × Int × Unit × Unit) × (Int × Int × Unit) × (Int × Int × Unit) × (List DLot) × Unit)) => (x.1.1, (x.2.1.1, (x.2.1.2.1, (x.2.1.2.2.1, (x.2.2.1.1, (x.2.2.1.2.1, (x.2.2.2.1.1, x.2.2.2.1.2.1)))))))) (φ := fun (x : (Int × Unit × Unit × Unit × Unit × (Nat × Nat) × Unit) × ((Bool × Int × (List DLot) × Unit) × (Bool × Int × Unit × Unit) × (Int × Int × Unit) × (Int × Int × Unit) × (List DLot) × Unit)) => (x.1.2.2.2.2.2.1.1, (x.1.2.2.2.2.2.1.2, (x.2.2.2.2.1.1, (x.2.2.2.2.1.2.1, x.2.2.2.2.2.1))))) (ψ := fun (i : Int × Bool × Int × (List DLot) × Bool × Int × Int × Int) (v : Nat × Nat × Int × Int × (List DLot)) => ((i.1, ((), ((), ((), ((), ((v.1, v.2.1), ())))))), ((i.2.1, (i.2.2.1, (i.2.2.2.1, ()))), ((i.2.2.2.2.1, (i.2.2.2.2.2.1, ((), ()))), ((i.2.2.2.2.2.2.1, (i.2.2.2.2.2.2.2, ())), ((v.2.2.1, (v.2.2.2.1, ())), (v.2.2.2.2, ()))))))) (F := fun (i : Int × Bool × Int × (List DLot) × Bool × Int × Int × Int) => spec_spTake_l0F i.1) (fun _ => rfl) fun i k hk v => Par.of_eq (spec_spTake_l0e i.1 i.2.1 i.2.2.1 i.2.2.2.1 i.2.2.2.2.1 i.2.2.2.2.2.1 i.2.2.2.2.2.2.1 i.2.2.2.2.2.2.2 k v.1 v.2.1 v.2.2.1 v.2.2.2.1 v.2.2.2.2) (spec_spTake_l0p i.1 (fun a1 a2 a10 a11 a12 => hk (a1, (a2, (a10, (a11, a12))))) v.1 v.2.1 v.2.2.1 v.2.2.2.1 v.2.2.2.2)
def c61 : Callee := mkC [.agg [.ro TPile], .one (.ro (.int .i64))] 3 [.agg [.ro .bool, .ro (.int .i64), .sl TLot], .agg [.ro TLot], .one (.ro .bool)] fun x => spec_spTake x.1 x.2
theorem e61 (x : PK.dens [.agg [.ro TPile], .one (.ro (.int .i64))]) : evalFn Try.prog EL61 or61 Try.f61 (PK.outs [.agg [.ro TPile], .one (.ro (.int .i64))] x) =
    spec_spTakeK (fun y => some (tupOf ((PK.outs [.agg [.ro .bool, .ro (.int .i64), .sl TLot], .agg [.ro TLot], .one (.ro .bool)] y).take 3), (PK.outs [.agg [.ro .bool, .ro (.int .i64), .sl TLot], .agg [.ro TLot], .one (.ro .bool)] y).drop 3)) x.1 x.2 := by kernel_rfl
theorem o61 : LoOk Try.prog EL61 or61 Try.f61.ntmps (loopsIn (codeOf Try.f61)) :=
  LoOk.mk (m := 1) (by kernel_rfl) fun i hi => match i, hi with
    | 0, _ => ⟨Lspec_spTake_l0, by kernel_rfl, spec_spTake_l0o⟩
    | i + 1, hi => absurd hi (by omega)
theorem k61 : CalleeOk Try.prog 61 c61 := callee_mk Try.func61 (code := codeOf Try.f61) (by kernel_rfl) vL61 mixed o61 fun x y h => (e61 x).trans (p61 _ x.1 x.2 y h)

/-- spec.TakeTonnes -/
def EL34 : Nat → Option Callee := addE 61 c61 (addE 51 c51 env0)
theorem vL34 : EnvOk Try.prog EL34 := (EnvOk.nil.add Try.func51 rfl (by kernel_rfl) k51).add Try.func61 rfl (by kernel_rfl) k61
def spec_TakeTonnesK {R : Type} (fin : (Bool × Int × (List DLot)) × DLot × Bool → Option R) (x0 : DPile) (x1 : Int) : Option R :=
  (spec_spGood x0).bind fun y1 =>
  cond (!y1)
  (fin ((false, (0, [])), ((0, (0, ())), false)))
  ((spec_spTake x0 x1).bind fun y2 =>
    fin y2)
def spec_TakeTonnes (x0 : DPile) (x1 : Int) : Option ((Bool × Int × (List DLot)) × DLot × Bool) := spec_TakeTonnesK some x0 x1
theorem p34 {R : Type} (fin : (Bool × Int × (List DLot)) × DLot × Bool → Option R) (x0 : DPile) (x1 : Int) : Par fin (spec_TakeTonnesK some x0 x1) (spec_TakeTonnesK fin x0 x1) := by
  unfold spec_TakeTonnesK
  repeat' (first | exact .fin | exact .none | refine .cond ?_ ?_ | refine .bind fun _ => ?_ | refine .sum (fun _ => ?_) fun _ => ?_)
def or34 : Ora := { lo := lo0, fin := [.own (.cell 4 2) TLot] }
def c34 : Callee := mkC [.agg [.ro TPile], .one (.ro (.int .i64))] 3 [.agg [.ro .bool, .ro (.int .i64), .sl TLot], .agg [.ro TLot], .one (.ro .bool)] fun x => spec_TakeTonnes x.1 x.2
theorem e34 (x : PK.dens [.agg [.ro TPile], .one (.ro (.int .i64))]) : evalFn Try.prog EL34 or34 Try.f34 (PK.outs [.agg [.ro TPile], .one (.ro (.int .i64))] x) =
    spec_TakeTonnesK (fun y => some (tupOf ((PK.outs [.agg [.ro .bool, .ro (.int .i64), .sl TLot], .agg [.ro TLot], .one (.ro .bool)] y).take 3), (PK.outs [.agg [.ro .bool, .ro (.int .i64), .sl TLot], .agg [.ro TLot], .one (.ro .bool)] y).drop 3)) x.1 x.2 := by kernel_rfl
theorem k34 : CalleeOk Try.prog 34 c34 := callee_mk Try.func34 (code := codeOf Try.f34) (by kernel_rfl) vL34 mixed (LoOk.nil (by kernel_rfl)) fun x y h => (e34 x).trans (p34 _ x.1 x.2 y h)

/-- impl.takeTonnes -/
def EL62 : Nat → Option Callee := addE 48 c48 (addE 49 c49 (addE 54 c54 env0))
theorem vL62 : EnvOk Try.prog EL62 := ((EnvOk.nil.add Try.func54 rfl (by kernel_rfl) k54).add Try.func49 rfl (by kernel_rfl) k49).add Try.func48 rfl (by kernel_rfl) k48
def simpl_takeTonnes_l0 : LS := ⟨[(1, .one (.dat (.int .i64))), (4, .one (.fix (.ptr 0 0))), (5, .one (.fix (.ptr 1 0))), (7, .one (.fix (.ptr 2 0))), (8, .one (.fix (.ptr 4 0))), (27, .one (.dat (.slice TLot))), (28, .one (.dat (.int .i64))), (29, .one (.dat (.int .i64)))], [.box [.dat .bool, .dat (.int .i64), .fix .nils], .box [.dat (.int .i64), .dat (.int .i64)], .box [.dat .bool, .dat (.int .i64), .fix (.sref 3)], .sl TLot, .box [.dat (.int .i64), .dat (.int .i64)]], []⟩
def simpl_takeTonnes_l0x0 : LS := ⟨[(4, .one (.fix (.ptr 0 0))), (5, .one (.fix (.ptr 1 0))), (7, .one (.fix (.ptr 2 0))), (8, .one (.fix (.ptr 4 0)))], [.box [.dat .bool, .dat (.int .i64), .fix .nils], .box [.dat (.int .i64), .dat (.int .i64)], .box [.dat .bool, .dat (.int .i64), .fix (.sref 3)], .sl TLot, .box [.dat (.int .i64), .dat (.int .i64)]], []⟩
def ximpl_takeTonnes_l0 : List (XS ((List DLot) × Int × Bool × Int × Int × Int × Bool × Int)) := [⟨.exit 0, ⟨[4, 5, 7, 8], [.slot 4, .slot 5, .slot 7, .cell 7 2, .slot 8], [], []⟩, simpl_takeTonnes_l0x0, (List DLot) × Int × Int, fun i y => (((), ((), ((), ((), ())))), ((i.2.2.1, (i.2.2.2.1, ((), ()))), ((i.2.2.2.2.1, (i.2.2.2.2.2.1, ())), ((i.2.2.2.2.2.2.1, (i.2.2.2.2.2.2.2, ((), ()))), (y.1, ((y.2.1, (y.2.2, ())), ()))))))⟩]
def impl_takeTonnes_l0K {R : Type} (a1 : List DLot) (a2 : Int) (rc : Int → Int → List DLot → Int → Int → Option R) (fin : (List DLot) × Int × Int → Option R) (a0 : Int) (a3 : Int) (a10 : List DLot) (a11 : Int) (a12 : Int) : Option R :=
  cond (decide (a3 < a2))
  ((lat a1 a3).bind fun e1 =>
    (impl_splitOff e1 (if a0 < e1.1 then a0 else e1.1)).bind fun y2 =>
    (impl_lotSum [(a11, (a12, ())), y2]).bind fun y3 =>
    cond (decide (y2.1 < e1.1))
    (cond (decide (a10.length + [(IntKind.i64.wrap (e1.1 - y2.1), (IntKind.i64.wrap (e1.2.1 - y2.2.1), ()))].length ≤ 1099511627776))
      ((some (a10 ++ [(IntKind.i64.wrap (e1.1 - y2.1), (IntKind.i64.wrap (e1.2.1 - y2.2.1), ()))])).bind fun v4 =>
        rc (IntKind.i64.wrap (a0 - y2.1)) (IntKind.i64.wrap (a3 + 1)) v4 y3.1 y3.2.1)
      (none))
    (rc (IntKind.i64.wrap (a0 - y2.1)) (IntKind.i64.wrap (a3 + 1)) a10 y3.1 y3.2.1))
  (fin (a10, (a11, a12)))
def impl_takeTonnes_l0F (a1 : List DLot) (a2 : Int) (r : (Int × Int × (List DLot) × Int × Int) → Option ((List DLot) × Int × Int)) (x : Int × Int × (List DLot) × Int × Int) : Option ((List DLot) × Int × Int) := impl_takeTonnes_l0K a1 a2 (fun a0 a3 a10 a11 a12 => r (a0, (a3, (a10, (a11, a12))))) some x.1 x.2.1 x.2.2.1 x.2.2.2.1 x.2.2.2.2
theorem impl_takeTonnes_l0c (a1 : List DLot) (a2 : Int) (x : Int × Int × (List DLot) × Int × Int) : Ct fun r => impl_takeTonnes_l0F a1 a2 r x := by
  unfold impl_takeTonnes_l0F impl_takeTonnes_l0K
  repeat' (first | exact Ct.const | exact Ct.call | refine Ct.cond ?_ ?_ | refine Ct.bind ?_ fun _ => ?_ | refine Ct.sum (fun _ => ?_) fun _ => ?_)
def impl_takeTonnes_l0 (a1 : List DLot) (a2 : Int) (a0 : Int) (a3 : Int) (a10 : List DLot) (a11 : Int) (a12 : Int) : Option ((List DLot) × Int × Int) := lim (impl_takeTonnes_l0F a1 a2) (a0, (a3, (a10, (a11, a12))))
theorem impl_takeTonnes_l0_eq (a1 : List DLot) (a2 : Int) (a0 : Int) (a3 : Int) (a10 : List DLot) (a11 : Int) (a12 : Int) : impl_takeTonnes_l0 a1 a2 a0 a3 a10 a11 a12 = impl_takeTonnes_l0K a1 a2 (impl_takeTonnes_l0 a1 a2) some a0 a3 a10 a11 a12 := lim_eq (impl_takeTonnes_l0c a1 a2) (a0, (a3, (a10, (a11, a12))))
theorem impl_takeTonnes_l0p {R : Type} (a1 : List DLot) (a2 : Int) {rc : Int → Int → List DLot → Int → Int → Option ((List DLot) × Int × Int)} {rc' : Int → Int → List DLot → Int → Int → Option R} {fin : (List DLot) × Int × Int → Option R} (hr : ∀ a0 a3 a10 a11 a12, Par fin (rc a0 a3 a10 a11 a12) (rc' a0 a3 a10 a11 a12)) (a0 : Int) (a3 : Int) (a10 : List DLot) (a11 : Int) (a12 : Int) : Par fin (impl_takeTonnes_l0K a1 a2 rc some a0 a3 a10 a11 a12) (impl_takeTonnes_l0K a1 a2 rc' fin a0 a3 a10 a11 a12) := by
  unfold impl_takeTonnes_l0K
  repeat' (first | exact .fin | exact .none | exact hr _ _ _ _ _ | refine .cond ?_ ?_ | refine .bind fun _ => ?_ | refine .sum (fun _ => ?_) fun _ => ?_)
def Limpl_takeTonnes_l0 : Loop := mkL ⟨[1, 4, 5, 7, 8, 27, 28, 29], [.slot 4, .slot 5, .slot 7, .cell 7 2, .slot 8], [], [.own (.cell 7 2) TLot]⟩ simpl_takeTonnes_l0 ximpl_takeTonnes_l0 (fun (x : (Int × Unit × Unit × Unit × Unit × (List DLot) × Int × Int × Unit) × ((Bool × Int × Unit × Unit) × (Int × Int × Unit) × (Bool × Int × Unit × Unit) × (List DLot) × (Int × Int × Unit) × Unit)) => (x.1.2.2.2.2.2.1, (x.1.2.2.2.2.2.2.1, (x.2.1.1, (x.2.1.2.1, (x.2.2.1.1, (x.2.2.1.2.1, (x.2.2.2.1.1, x.2.2.2.1.2.1)))))))) fun (x : (Int × Unit × Unit × Unit × Unit × (List DLot) × Int × Int × Unit) × ((Bool × Int × Unit × Unit) × (Int × Int × Unit) × (Bool × Int × Unit × Unit) × (List DLot) × (Int × Int × Unit) × Unit)) => impl_takeTonnes_l0 x.1.2.2.2.2.2.1 x.1.2.2.2.2.2.2.1 x.1.1 x.1.2.2.2.2.2.2.2.1 x.2.2.2.2.1 x.2.2.2.2.2.1.1 x.2.2.2.2.2.1.2.1
def impl_takeTonnesK {R : Type} (fin : (Bool × Int × (List DLot)) × DLot × Bool → Option R) (x0 : DPile) (x1 : Int) : Option R :=
  (impl_lotSum x0.2.2.1).bind fun y1 =>
  cond (decide (y1.1 < x1))
  (fin ((false, (0, [])), ((0, (0, ())), false)))
  ((impl_takeTonnes_l0 x0.2.2.1 (x0.2.2.1.length : Int) x1 0 [] 0 0).bind fun y10 =>
    (impl_isLot (y10.2.1, (y10.2.2, ()))).bind fun y11 =>
    cond (!y11)
    (fin ((false, (0, [])), ((0, (0, ())), false)))
    (fin ((x0.1, (x0.2.1, y10.1)), ((y10.2.1, (y10.2.2, ())), true))))
def impl_takeTonnes (x0 : DPile) (x1 : Int) : Option ((Bool × Int × (List DLot)) × DLot × Bool) := impl_takeTonnesK some x0 x1
theorem p62 {R : Type} (fin : (Bool × Int × (List DLot)) × DLot × Bool → Option R) (x0 : DPile) (x1 : Int) : Par fin (impl_takeTonnesK some x0 x1) (impl_takeTonnesK fin x0 x1) := by
  unfold impl_takeTonnesK
  repeat' (first | exact .fin | exact .none | refine .cond ?_ ?_ | refine .bind fun _ => ?_ | refine .sum (fun _ => ?_) fun _ => ?_)
def or62 : Ora := { lo := addL 6 (Limpl_takeTonnes_l0) lo0, fin := [.own (.cell 4 2) TLot] }
theorem impl_takeTonnes_l0e (a1 : List DLot) (a2 : Int) (a4 : Bool) (a5 : Int) (a6 : Int) (a7 : Int) (a8 : Bool) (a9 : Int) (k : Nat) (a0 : Int) (a3 : Int) (a10 : List DLot) (a11 : Int) (a12 : Int) : loopC Try.prog EL62 or62 ((loopsIn (codeOf Try.f62)).getD 0 .skip) (Limpl_takeTonnes_l0).h (Limpl_takeTonnes_l0).ho Try.f62.ntmps (k + 1) (simpl_takeTonnes_l0.out ((a0, ((), ((), ((), ((), (a1, (a2, (a3, ())))))))), ((a4, (a5, ((), ()))), ((a6, (a7, ())), ((a8, (a9, ((), ()))), (a10, ((a11, (a12, ())), ()))))))) =
    impl_takeTonnes_l0K a1 a2 (fun a0 a3 a10 a11 a12 => loopC Try.prog EL62 or62 ((loopsIn (codeOf Try.f62)).getD 0 .skip) (Limpl_takeTonnes_l0).h (Limpl_takeTonnes_l0).ho Try.f62.ntmps k (simpl_takeTonnes_l0.out ((a0, ((), ((), ((), ((), (a1, (a2, (a3, ())))))))), ((a4, (a5, ((), ()))), ((a6, (a7, ())), ((a8, (a9, ((), ()))), (a10, ((a11, (a12, ())), ())))))))) (fun y => some (XS.out ximpl_takeTonnes_l0 (a1, (a2, (a4, (a5, (a6, (a7, (a8, a9))))))) y)) a0 a3 a10 a11 a12 := by kernel_rfl
theorem impl_takeTonnes_l0o : LoopOk Try.prog EL62 or62 Try.f62.ntmps ((loopsIn (codeOf Try.f62)).getD 0 .skip) (Limpl_takeTonnes_l0) :=
  loop_lim (hs := simpl_takeTonnes_l0) (xs := ximpl_takeTonnes_l0) (ι := fun (x : (Int × Unit × Unit × Unit × Unit × (List DLot) × Int × Int × Unit) × ((Bool × Int × Unit × Unit) × (Int × Int × Unit) × (Bool × Int × Unit × Unit) × (List DLot) × (Int × Int × Unit) × Unit)) => (x.1.2.2.2.2.2.1, (x.1.2.2.2.2.2.2.1, (x.2.1.1, (x.2.1.2.1, (x.2.2.1.1, (x.2.2.1.2.1, (x.2.2.2.1.1, x.2.2.2.1.2.1)))))))) (φ := fun (x : (Int × Unit × Unit × Unit × Unit × (List DLot) × Int × Int × Unit) × ((Bool × Int × Unit × Unit) × (Int × Int × Unit) × (Bool × Int × Unit × Unit) × (List DLot) × (Int × Int × Unit) × Unit)) => (x.1.1, (x.1.2.2.2.2.2.2.2.1, (x.2.2.2.2.1, (x.2.2.2.2.2.1.1, x.2.2.2.2.2.1.2.1))))) (ψ := fun (i : (List DLot) × Int × Bool × Int × Int × Int × Bool × Int) (v : Int × Int × (List DLot) × Int × Int) => ((v.1, ((), ((), ((), ((), (i.1, (i.2.1, (v.2.1, ())))))))), ((i.2.2.1, (i.2.2.2.1, ((), ()))), ((i.2.2.2.2.1, (i.2.2.2.2.2.1, ())), ((i.2.2.2.2.2.2.1, (i.2.2.2.2.2.2.2, ((), ()))), (v.2.2.1, ((v.2.2.2.1, (v.2.2.2.2, ())), ()))))))) (F := fun (i : (List DLot) × Int × Bool × Int × Int × Int × Bool × Int) => impl_takeTonnes_l0F i.1 i.2.1) (fun _ => rfl) fun i k hk v => Par.of_eq (impl_takeTonnes_l0e i.1 i.2.1 i.2.2.1 i.2.2.2.1 i.2.2.2.2.1 i.2.2.2.2.2.1 i.2.2.2.2.2.2.1 i.2.2.2.2.2.2.2 k v.1 v.2.1 v.2.2.1 v.2.2.2.1 v.2.2.2.2) (impl_takeTonnes_l0p i.1 i.2.1 (fun a0 a3 a10 a11 a12 => hk (a0, (a3, (a10, (a11, a12))))) v.1 v.2.1 v.2.2.1 v.2.2.2.1 v.2.2.2.2)
def c62 : Callee := mkC [.agg [.ro TPile], .one (.ro (.int .i64))] 3 [.agg [.ro .bool, .ro (.int .i64), .sl TLot], .agg [.ro TLot], .one (.ro .bool)] fun x => impl_takeTonnes x.1 x.2
theorem e62 (x : PK.dens [.agg [.ro TPile], .one (.ro (.int .i64))]) : evalFn Try.prog EL62 or62 Try.f62 (PK.outs [.agg [.ro TPile], .one (.ro (.int .i64))] x) =
    impl_takeTonnesK (fun y => some (tupOf ((PK.outs [.agg [.ro .bool, .ro (.int .i64), .sl TLot], .agg [.ro TLot], .one (.ro .bool)] y).take 3), (PK.outs [.agg [.ro .bool, .ro (.int .i64), .sl TLot], .agg [.ro TLot], .one (.ro .bool)] y).drop 3)) x.1 x.2 := by kernel_rfl
theorem o62 : LoOk Try.prog EL62 or62 Try.f62.ntmps (loopsIn (codeOf Try.f62)) :=
  LoOk.mk (m := 1) (by kernel_rfl) fun i hi => match i, hi with
    | 0, _ => ⟨Limpl_takeTonnes_l0, by kernel_rfl, impl_takeTonnes_l0o⟩
    | i + 1, hi => absurd hi (by omega)
theorem k62 : CalleeOk Try.prog 62 c62 := callee_mk Try.func62 (code := codeOf Try.f62) (by kernel_rfl) vL62 mixed o62 fun x y h => (e62 x).trans (p62 _ x.1 x.2 y h)

/-- impl.TakeTonnes -/
def EL35 : Nat → Option Callee := addE 62 c62 (addE 20 c20 env0)
theorem vL35 : EnvOk Try.prog EL35 := (EnvOk.nil.add Try.func20 rfl (by kernel_rfl) k20).add Try.func62 rfl (by kernel_rfl) k62
def impl_TakeTonnesK {R : Type} (fin : (Bool × Int × (List DLot)) × DLot × Bool → Option R) (x0 : DPile) (x1 : Int) : Option R :=
  (impl_IsPile x0).bind fun y1 =>
  cond (!y1)
  (fin ((false, (0, [])), ((0, (0, ())), false)))
  (cond (decide (x1 < 1))
    (fin ((false, (0, [])), ((0, (0, ())), false)))
    ((impl_takeTonnes x0 x1).bind fun y2 =>
      fin y2))
def impl_TakeTonnes (x0 : DPile) (x1 : Int) : Option ((Bool × Int × (List DLot)) × DLot × Bool) := impl_TakeTonnesK some x0 x1
theorem p35 {R : Type} (fin : (Bool × Int × (List DLot)) × DLot × Bool → Option R) (x0 : DPile) (x1 : Int) : Par fin (impl_TakeTonnesK some x0 x1) (impl_TakeTonnesK fin x0 x1) := by
  unfold impl_TakeTonnesK
  repeat' (first | exact .fin | exact .none | refine .cond ?_ ?_ | refine .bind fun _ => ?_ | refine .sum (fun _ => ?_) fun _ => ?_)
def or35 : Ora := { lo := lo0, fin := [.own (.cell 4 2) TLot] }
def c35 : Callee := mkC [.agg [.ro TPile], .one (.ro (.int .i64))] 3 [.agg [.ro .bool, .ro (.int .i64), .sl TLot], .agg [.ro TLot], .one (.ro .bool)] fun x => impl_TakeTonnes x.1 x.2
theorem e35 (x : PK.dens [.agg [.ro TPile], .one (.ro (.int .i64))]) : evalFn Try.prog EL35 or35 Try.f35 (PK.outs [.agg [.ro TPile], .one (.ro (.int .i64))] x) =
    impl_TakeTonnesK (fun y => some (tupOf ((PK.outs [.agg [.ro .bool, .ro (.int .i64), .sl TLot], .agg [.ro TLot], .one (.ro .bool)] y).take 3), (PK.outs [.agg [.ro .bool, .ro (.int .i64), .sl TLot], .agg [.ro TLot], .one (.ro .bool)] y).drop 3)) x.1 x.2 := by kernel_rfl
theorem k35 : CalleeOk Try.prog 35 c35 := callee_mk Try.func35 (code := codeOf Try.f35) (by kernel_rfl) vL35 mixed (LoOk.nil (by kernel_rfl)) fun x y h => (e35 x).trans (p35 _ x.1 x.2 y h)

/-- laws.FnExactTakeTonnes -/
def EL10 : Nat → Option Callee := addE 31 c31 (addE 30 c30 (addE 16 c16 (addE 21 c21 (addE 35 c35 (addE 34 c34 (addE 19 c19 (addE 17 c17 env0)))))))
theorem vL10 : EnvOk Try.prog EL10 := (((((((EnvOk.nil.add Try.func17 rfl (by kernel_rfl) k17).add Try.func19 rfl (by kernel_rfl) k19).add Try.func34 rfl (by kernel_rfl) k34).add Try.func35 rfl (by kernel_rfl) k35).add Try.func21 rfl (by kernel_rfl) k21).add Try.func16 rfl (by kernel_rfl) k16).add Try.func30 rfl (by kernel_rfl) k30).add Try.func31 rfl (by kernel_rfl) k31
def laws_FnExactTakeTonnesK {R : Type} (fin : Bool → Option R) (x0 : DPile) (x1 : Int) : Option R :=
  (laws_szPile x0 1048576).bind fun y1 =>
  cond (decide (y1 < 0))
  (fin true)
  ((laws_toPile x0).bind fun y2 =>
    (spec_TakeTonnes (y2.1, (y2.2.1, (y2.2.2, ()))) x1).bind fun y3 =>
    (laws_toPile x0).bind fun y4 =>
    (impl_TakeTonnes (y4.1, (y4.2.1, (y4.2.2, ()))) x1).bind fun y5 =>
    (laws_eqPile (y5.1.1, (y5.1.2.1, (y5.1.2.2, ()))) (y3.1.1, (y3.1.2.1, (y3.1.2.2, ())))).bind fun y6 =>
    cond (!y6)
    (fin false)
    ((laws_eqLot y5.2.1 y3.2.1).bind fun y7 =>
      cond (!y7)
      (fin false)
      (cond (!(y5.2.2 == y3.2.2))
        (fin false)
        ((laws_toPile x0).bind fun y8 =>
          (laws_eqPile (y4.1, (y4.2.1, (y4.2.2, ()))) (y8.1, (y8.2.1, (y8.2.2, ())))).bind fun y9 =>
          cond (!y9)
          (fin false)
          ((laws_markPile y4 1).bind fun y10 =>
            cond (decide (y10.1 < 0))
            (fin false)
            ((laws_eqPile (y5.1.1, (y5.1.2.1, (y5.1.2.2, ()))) (y3.1.1, (y3.1.2.1, (y3.1.2.2, ())))).bind fun y11 =>
              cond (!y11)
              (fin false)
              ((laws_eqLot y5.2.1 y3.2.1).bind fun y12 =>
                cond (!y12)
                (fin false)
                (cond (!(y5.2.2 == y3.2.2))
                  (fin false)
                  ((laws_markPile y5.1 1).bind fun y13 =>
                    (laws_heldPile (y5.1.1, (y5.1.2.1, (y13.2.2.2, ()))) 1).bind fun y14 =>
                    cond (decide (y14 < 0))
                    (fin false)
                    (cond (y14 != y13.1)
                      (fin false)
                      ((laws_toPile x0).bind fun y15 =>
                        (impl_TakeTonnes (y15.1, (y15.2.1, (y15.2.2, ()))) x1).bind fun y16 =>
                        (laws_eqPile (y16.1.1, (y16.1.2.1, (y16.1.2.2, ()))) (y3.1.1, (y3.1.2.1, (y3.1.2.2, ())))).bind fun y17 =>
                        cond (!y17)
                        (fin false)
                        ((laws_eqLot y16.2.1 y3.2.1).bind fun y18 =>
                          cond (!y18)
                          (fin false)
                          (cond (!(y16.2.2 == y3.2.2))
                            (fin false)
                            ((laws_heldPile (y5.1.1, (y5.1.2.1, (y13.2.2.2, ()))) 1).bind fun y19 =>
                              cond (decide (y19 < 0))
                              (fin false)
                              (cond (y19 != y13.1)
                                (fin false)
                                (fin true))))))))))))))))
def laws_FnExactTakeTonnes (x0 : DPile) (x1 : Int) : Option (Bool) := laws_FnExactTakeTonnesK some x0 x1
theorem p10 {R : Type} (fin : Bool → Option R) (x0 : DPile) (x1 : Int) : Par fin (laws_FnExactTakeTonnesK some x0 x1) (laws_FnExactTakeTonnesK fin x0 x1) := by
  unfold laws_FnExactTakeTonnesK
  repeat' (first | exact .fin | exact .none | refine .cond ?_ ?_ | refine .bind fun _ => ?_ | refine .sum (fun _ => ?_) fun _ => ?_)
def c10 : Callee := mkC [.agg [.ro TPile], .one (.ro (.int .i64))] 1 [.one (.ro .bool)] fun x => laws_FnExactTakeTonnes x.1 x.2
theorem e10 (x : PK.dens [.agg [.ro TPile], .one (.ro (.int .i64))]) : evalFn Try.prog EL10 or0 Try.f10 (PK.outs [.agg [.ro TPile], .one (.ro (.int .i64))] x) =
    laws_FnExactTakeTonnesK (fun y => some (tupOf ((PK.outs [.one (.ro .bool)] y).take 1), (PK.outs [.one (.ro .bool)] y).drop 1)) x.1 x.2 := by kernel_rfl
theorem k10 : CalleeOk Try.prog 10 c10 := callee_mk Try.func10 (code := codeOf Try.f10) (by kernel_rfl) vL10 mixed (LoOk.nil (by kernel_rfl)) fun x y h => (e10 x).trans (p10 _ x.1 x.2 y h)

/-- laws.szStirS -/
def EL36 : Nat → Option Callee := env0
theorem vL36 : EnvOk Try.prog EL36 := EnvOk.nil
def laws_szStirSK {R : Type} (fin : Int → Option R) (x0 : List DStir) (x1 : Int) : Option R :=
  cond (decide ((IntKind.i64.wrap (x1 - (x0.length : Int))) < 0))
  (fin (-1))
  (fin (IntKind.i64.wrap (x1 - (x0.length : Int))))
def laws_szStirS (x0 : List DStir) (x1 : Int) : Option (Int) := laws_szStirSK some x0 x1
theorem p36 {R : Type} (fin : Int → Option R) (x0 : List DStir) (x1 : Int) : Par fin (laws_szStirSK some x0 x1) (laws_szStirSK fin x0 x1) := by
  unfold laws_szStirSK
  repeat' (first | exact .fin | exact .none | refine .cond ?_ ?_ | refine .bind fun _ => ?_ | refine .sum (fun _ => ?_) fun _ => ?_)
def c36 : Callee := mkC [.one (.ro (.slice TStir)), .one (.ro (.int .i64))] 1 [.one (.ro (.int .i64))] fun x => laws_szStirS x.1 x.2
theorem e36 (x : PK.dens [.one (.ro (.slice TStir)), .one (.ro (.int .i64))]) : evalFn Try.prog EL36 or0 Try.f36 (PK.outs [.one (.ro (.slice TStir)), .one (.ro (.int .i64))] x) =
    laws_szStirSK (fun y => some (tupOf ((PK.outs [.one (.ro (.int .i64))] y).take 1), (PK.outs [.one (.ro (.int .i64))] y).drop 1)) x.1 x.2 := by kernel_rfl
theorem k36 : CalleeOk Try.prog 36 c36 := callee_mk Try.func36 (code := codeOf Try.f36) (by kernel_rfl) vL36 mixed (LoOk.nil (by kernel_rfl)) fun x y h => (e36 x).trans (p36 _ x.1 x.2 y h)

/-- laws.toStir -/
def EL64 : Nat → Option Callee := env0
theorem vL64 : EnvOk Try.prog EL64 := EnvOk.nil
def laws_toStirK {R : Type} (fin : DStir → Option R) (x0 : DStir) : Option R :=
  fin x0
def laws_toStir (x0 : DStir) : Option (DStir) := laws_toStirK some x0
theorem p64 {R : Type} (fin : DStir → Option R) (x0 : DStir) : Par fin (laws_toStirK some x0) (laws_toStirK fin x0) := by
  unfold laws_toStirK
  repeat' (first | exact .fin | exact .none | refine .cond ?_ ?_ | refine .bind fun _ => ?_ | refine .sum (fun _ => ?_) fun _ => ?_)
def c64 : Callee := mkC [.agg [.ro TStir]] 1 [.agg [.ro TStir]] fun x => laws_toStir x
theorem e64 (x : PK.dens [.agg [.ro TStir]]) : evalFn Try.prog EL64 or0 Try.f64 (PK.outs [.agg [.ro TStir]] x) =
    laws_toStirK (fun y => some (tupOf ((PK.outs [.agg [.ro TStir]] y).take 1), (PK.outs [.agg [.ro TStir]] y).drop 1)) x := by kernel_rfl
theorem k64 : CalleeOk Try.prog 64 c64 := callee_mk Try.func64 (code := codeOf Try.f64) (by kernel_rfl) vL64 mixed (LoOk.nil (by kernel_rfl)) fun x y h => (e64 x).trans (p64 _ x y h)

/-- laws.toStirS -/
def EL38 : Nat → Option Callee := addE 64 c64 env0
theorem vL38 : EnvOk Try.prog EL38 := EnvOk.nil.add Try.func64 rfl (by kernel_rfl) k64
def slaws_toStirS_l0 : LS := ⟨[(0, .one (.dat (.slice TStir))), (3, .one (.fix (.sref 0))), (4, .one (.dat (.int .i64)))], [.sl TStir], []⟩
def slaws_toStirS_l0x0 : LS := ⟨[(3, .one (.fix (.sref 0)))], [.sl TStir], []⟩
def xlaws_toStirS_l0 : List (XS (List DStir)) := [⟨.exit 0, ⟨[3], [.slot 3], [], []⟩, slaws_toStirS_l0x0, List DStir, fun i y => (((), ()), (y, ()))⟩]
def laws_toStirS_l0K {R : Type} (a0 : List DStir) (rc : Int → List DStir → Option R) (fin : List DStir → Option R) (a1 : Int) (a2 : List DStir) : Option R :=
  cond (decide (a1 < (a0.length : Int)))
  ((lat a0 a1).bind fun e1 =>
    (laws_toStir e1).bind fun y2 =>
    cond (decide ((0 : Int) ≤ a1) && decide (a1 < (a2.length : Int)))
    ((some (a2.set (0 + a1.toNat) y2)).bind fun v3 =>
      rc (IntKind.i64.wrap (a1 + 1)) v3)
    (none))
  (fin a2)
def laws_toStirS_l0F (a0 : List DStir) (r : (Int × (List DStir)) → Option (List DStir)) (x : Int × (List DStir)) : Option (List DStir) := laws_toStirS_l0K a0 (fun a1 a2 => r (a1, a2)) some x.1 x.2
theorem laws_toStirS_l0c (a0 : List DStir) (x : Int × (List DStir)) : Ct fun r => laws_toStirS_l0F a0 r x := by
  unfold laws_toStirS_l0F laws_toStirS_l0K
  repeat' (first | exact Ct.const | exact Ct.call | refine Ct.cond ?_ ?_ | refine Ct.bind ?_ fun _ => ?_ | refine Ct.sum (fun _ => ?_) fun _ => ?_)
def laws_toStirS_l0 (a0 : List DStir) (a1 : Int) (a2 : List DStir) : Option (List DStir) := lim (laws_toStirS_l0F a0) (a1, a2)
theorem laws_toStirS_l0_eq (a0 : List DStir) (a1 : Int) (a2 : List DStir) : laws_toStirS_l0 a0 a1 a2 = laws_toStirS_l0K a0 (laws_toStirS_l0 a0) some a1 a2 := lim_eq (laws_toStirS_l0c a0) (a1, a2)
theorem laws_toStirS_l0p {R : Type} (a0 : List DStir) {rc : Int → List DStir → Option (List DStir)} {rc' : Int → List DStir → Option R} {fin : List DStir → Option R} (hr : ∀ a1 a2, Par fin (rc a1 a2) (rc' a1 a2)) (a1 : Int) (a2 : List DStir) : Par fin (laws_toStirS_l0K a0 rc some a1 a2) (laws_toStirS_l0K a0 rc' fin a1 a2) := by
  unfold laws_toStirS_l0K
  repeat' (first | exact .fin | exact .none | exact hr _ _ | refine .cond ?_ ?_ | refine .bind fun _ => ?_ | refine .sum (fun _ => ?_) fun _ => ?_)
def Llaws_toStirS_l0 : Loop := mkL ⟨[0, 3, 4], [.slot 3], [], []⟩ slaws_toStirS_l0 xlaws_toStirS_l0 (fun (x : ((List DStir) × Unit × Int × Unit) × ((List DStir) × Unit)) => x.1.1) fun (x : ((List DStir) × Unit × Int × Unit) × ((List DStir) × Unit)) => laws_toStirS_l0 x.1.1 x.1.2.2.1 x.2.1
def laws_toStirSK {R : Type} (fin : List DStir → Option R) (x0 : List DStir) : Option R :=
  cond (decide ((0 : Int) ≤ (x0.length : Int)) && (decide ((x0.length : Int) ≤ (x0.length : Int)) && decide ((x0.length : Int) ≤ 1099511627776)))
  ((some ((List.replicate ((x0.length : Int).toNat) (false, (0, (0, ()))) : List DStir))).bind fun v1 =>
    (laws_toStirS_l0 x0 0 v1).bind fun y5 =>
    fin y5)
  (none)
def laws_toStirS (x0 : List DStir) : Option (List DStir) := laws_toStirSK some x0
theorem p38 {R : Type} (fin : List DStir → Option R) (x0 : List DStir) : Par fin (laws_toStirSK some x0) (laws_toStirSK fin x0) := by
  unfold laws_toStirSK
  repeat' (first | exact .fin | exact .none | refine .cond ?_ ?_ | refine .bind fun _ => ?_ | refine .sum (fun _ => ?_) fun _ => ?_)
def or38 : Ora := { lo := addL 3 (Llaws_toStirS_l0) lo0, fin := [] }
theorem laws_toStirS_l0e (a0 : List DStir) (k : Nat) (a1 : Int) (a2 : List DStir) : loopC Try.prog EL38 or38 ((loopsIn (codeOf Try.f38)).getD 0 .skip) (Llaws_toStirS_l0).h (Llaws_toStirS_l0).ho Try.f38.ntmps (k + 1) (slaws_toStirS_l0.out ((a0, ((), (a1, ()))), (a2, ()))) =
    laws_toStirS_l0K a0 (fun a1 a2 => loopC Try.prog EL38 or38 ((loopsIn (codeOf Try.f38)).getD 0 .skip) (Llaws_toStirS_l0).h (Llaws_toStirS_l0).ho Try.f38.ntmps k (slaws_toStirS_l0.out ((a0, ((), (a1, ()))), (a2, ())))) (fun y => some (XS.out xlaws_toStirS_l0 a0 y)) a1 a2 := by kernel_rfl
theorem laws_toStirS_l0o : LoopOk Try.prog EL38 or38 Try.f38.ntmps ((loopsIn (codeOf Try.f38)).getD 0 .skip) (Llaws_toStirS_l0) :=
  loop_lim (hs := slaws_toStirS_l0) (xs := xlaws_toStirS_l0) (ι := fun (x : ((List DStir) × Unit × Int × Unit) × ((List DStir) × Unit)) => x.1.1) (φ := fun (x : ((List DStir) × Unit × Int × Unit) × ((List DStir) × Unit)) => (x.1.2.2.1, x.2.1)) (ψ := fun (i : List DStir) (v : Int × (List DStir)) => ((i, ((), (v.1, ()))), (v.2, ()))) (F := fun (i : List DStir) => laws_toStirS_l0F i) (fun _ => rfl) fun i k hk v => Par.of_eq (laws_toStirS_l0e i k v.1 v.2) (laws_toStirS_l0p i (fun a1 a2 => hk (a1, a2)) v.1 v.2)
def c38 : Callee := mkC [.one (.ro (.slice TStir))] 1 [.one (.sl TStir)] fun x => laws_toStirS x
theorem e38 (x : PK.dens [.one (.ro (.slice TStir))]) : evalFn Try.prog EL38 or38 Try.f38 (PK.outs [.one (.ro (.slice TStir))] x) =
    laws_toStirSK (fun y => some (tupOf ((PK.outs [.one (.sl TStir)] y).take 1), (PK.outs [.one (.sl TStir)] y).drop 1)) x := by kernel_rfl
theorem o38 : LoOk Try.prog EL38 or38 Try.f38.ntmps (loopsIn (codeOf Try.f38)) :=
  LoOk.mk (m := 1) (by kernel_rfl) fun i hi => match i, hi with
    | 0, _ => ⟨Llaws_toStirS_l0, by kernel_rfl, laws_toStirS_l0o⟩
    | i + 1, hi => absurd hi (by omega)
theorem k38 : CalleeOk Try.prog 38 c38 := callee_mk Try.func38 (code := codeOf Try.f38) (by kernel_rfl) vL38 mixed o38 fun x y h => (e38 x).trans (p38 _ x y h)

/-- spec.spStir -/
def EL63 : Nat → Option Callee := addE 57 c57 (addE 45 c45 (addE 61 c61 env0))
theorem vL63 : EnvOk Try.prog EL63 := ((EnvOk.nil.add Try.func61 rfl (by kernel_rfl) k61).add Try.func45 rfl (by kernel_rfl) k45).add Try.func57 rfl (by kernel_rfl) k57
def spec_spStirK {R : Type} (fin : (Bool × Int × (List DLot)) × DLot × Bool → Option R) (x0 : DPile) (x1 : DStir) : Option R :=
  cond (!x1.1)
  ((spec_spTake x0 x1.2.1).bind fun y1 =>
    fin y1)
  ((spec_spLot x1.2).bind fun y2 =>
    cond (!y2)
    (fin ((false, (0, [])), ((0, (0, ())), false)))
    ((spec_spPut x0 x1.2).bind fun y3 =>
      fin (y3.1, ((0, (0, ())), y3.2))))
def spec_spStir (x0 : DPile) (x1 : DStir) : Option ((Bool × Int × (List DLot)) × DLot × Bool) := spec_spStirK some x0 x1
theorem p63 {R : Type} (fin : (Bool × Int × (List DLot)) × DLot × Bool → Option R) (x0 : DPile) (x1 : DStir) : Par fin (spec_spStirK some x0 x1) (spec_spStirK fin x0 x1) := by
  unfold spec_spStirK
  repeat' (first | exact .fin | exact .none | refine .cond ?_ ?_ | refine .bind fun _ => ?_ | refine .sum (fun _ => ?_) fun _ => ?_)
def or63 : Ora := { lo := lo0, fin := [.own (.cell 4 2) TLot] }
def c63 : Callee := mkC [.agg [.ro TPile], .agg [.ro TStir]] 3 [.agg [.ro .bool, .ro (.int .i64), .sl TLot], .agg [.ro TLot], .one (.ro .bool)] fun x => spec_spStir x.1 x.2
theorem e63 (x : PK.dens [.agg [.ro TPile], .agg [.ro TStir]]) : evalFn Try.prog EL63 or63 Try.f63 (PK.outs [.agg [.ro TPile], .agg [.ro TStir]] x) =
    spec_spStirK (fun y => some (tupOf ((PK.outs [.agg [.ro .bool, .ro (.int .i64), .sl TLot], .agg [.ro TLot], .one (.ro .bool)] y).take 3), (PK.outs [.agg [.ro .bool, .ro (.int .i64), .sl TLot], .agg [.ro TLot], .one (.ro .bool)] y).drop 3)) x.1 x.2 := by kernel_rfl
theorem k63 : CalleeOk Try.prog 63 c63 := callee_mk Try.func63 (code := codeOf Try.f63) (by kernel_rfl) vL63 mixed (LoOk.nil (by kernel_rfl)) fun x y h => (e63 x).trans (p63 _ x.1 x.2 y h)

/-- spec.RunPile -/
def EL37 : Nat → Option Callee := addE 63 c63 (addE 59 c59 (addE 51 c51 env0))
theorem vL37 : EnvOk Try.prog EL37 := ((EnvOk.nil.add Try.func51 rfl (by kernel_rfl) k51).add Try.func59 rfl (by kernel_rfl) k59).add Try.func63 rfl (by kernel_rfl) k63
def sspec_RunPile_l0 : LS := ⟨[(1, .one (.dat (.slice TStir))), (4, .one (.fix (.ptr 0 0))), (8, .one (.fix (.ptr 1 0))), (9, .one (.fix (.sref 3))), (28, .one (.dat (.slice TStir))), (29, .one (.dat (.int .i64))), (30, .one (.dat (.int .i64)))], [.box [.dat .bool, .dat (.int .i64), .fix .nils], .box [.dat .bool, .dat (.int .i64), .fix (.sref 2)], .sl TLot, .sl TLot], []⟩
def sspec_RunPile_l0x0 : LS := ⟨[(4, .one (.fix (.ptr 0 0))), (5, .one (.fix (.sref 2))), (6, .one (.dat (.int .i64))), (7, .one (.dat .bool))], [.box [.dat .bool, .dat (.int .i64), .fix (.sref 1)], .sl TLot, .sl TLot], []⟩
def sspec_RunPile_l0x1 : LS := ⟨[(1, .one (.dat (.slice TStir))), (4, .one (.fix (.ptr 0 0))), (8, .one (.fix (.ptr 1 0))), (9, .one (.fix (.sref 3)))], [.box [.dat .bool, .dat (.int .i64), .fix .nils], .box [.dat .bool, .dat (.int .i64), .fix (.sref 2)], .sl TLot, .sl TLot], []⟩
def xspec_RunPile_l0 : List (XS ((List DStir) × (List DStir) × Int × Bool × Int)) := [⟨.ret, ⟨[4, 5, 6, 7], [.slot 4, .cell 4 2, .slot 5], [], []⟩, sspec_RunPile_l0x0, Int × Bool × Bool × Int × (List DLot) × (List DLot), fun i y => (((), ((), (y.1, (y.2.1, ())))), ((y.2.2.1, (y.2.2.2.1, ((), ()))), (y.2.2.2.2.1, (y.2.2.2.2.2, ()))))⟩,
  ⟨.exit 0, ⟨[1, 4, 8, 9], [.slot 4, .slot 8, .cell 8 2, .slot 9], [], []⟩, sspec_RunPile_l0x1, Bool × Int × (List DLot) × (List DLot), fun i y => ((i.1, ((), ((), ((), ())))), ((i.2.2.2.1, (i.2.2.2.2, ((), ()))), ((y.1, (y.2.1, ((), ()))), (y.2.2.1, (y.2.2.2, ())))))⟩]
def spec_RunPile_l0K {R : Type} (a1 : List DStir) (a2 : Int) (rc : Int → Bool → Int → List DLot → List DLot → Option R) (fin : ((Int × Bool × Bool × Int × (List DLot) × (List DLot)) ⊕ (Bool × Int × (List DLot) × (List DLot))) → Option R) (a3 : Int) (a6 : Bool) (a7 : Int) (a8 : List DLot) (a9 : List DLot) : Option R :=
  cond (decide (a3 < a2))
  ((lat a1 a3).bind fun e1 =>
    (spec_spStir (a6, (a7, (a8, ()))) e1).bind fun y2 =>
    cond (!y2.2.2)
    (fin (.inl (a3, (true, (a6, (a7, (a8, a9)))))))
    (cond (!e1.1)
      (cond (e1.2.2.1 != 0)
        (fin (.inl (a3, (true, (a6, (a7, (a8, a9)))))))
        (cond (!e1.1)
          (cond (decide (a9.length + [y2.2.1].length ≤ 1099511627776))
            ((some (a9 ++ [y2.2.1])).bind fun v3 =>
              rc (IntKind.i64.wrap (a3 + 1)) y2.1.1 y2.1.2.1 y2.1.2.2 v3)
            (none))
          (rc (IntKind.i64.wrap (a3 + 1)) y2.1.1 y2.1.2.1 y2.1.2.2 a9)))
      (cond (!e1.1)
        (cond (decide (a9.length + [y2.2.1].length ≤ 1099511627776))
          ((some (a9 ++ [y2.2.1])).bind fun v4 =>
            rc (IntKind.i64.wrap (a3 + 1)) y2.1.1 y2.1.2.1 y2.1.2.2 v4)
          (none))
        (rc (IntKind.i64.wrap (a3 + 1)) y2.1.1 y2.1.2.1 y2.1.2.2 a9))))
  (fin (.inr (a6, (a7, (a8, a9)))))
def spec_RunPile_l0F (a1 : List DStir) (a2 : Int) (r : (Int × Bool × Int × (List DLot) × (List DLot)) → Option ((Int × Bool × Bool × Int × (List DLot) × (List DLot)) ⊕ (Bool × Int × (List DLot) × (List DLot)))) (x : Int × Bool × Int × (List DLot) × (List DLot)) : Option ((Int × Bool × Bool × Int × (List DLot) × (List DLot)) ⊕ (Bool × Int × (List DLot) × (List DLot))) := spec_RunPile_l0K a1 a2 (fun a3 a6 a7 a8 a9 => r (a3, (a6, (a7, (a8, a9))))) some x.1 x.2.1 x.2.2.1 x.2.2.2.1 x.2.2.2.2
theorem spec_RunPile_l0c (a1 : List DStir) (a2 : Int) (x : Int × Bool × Int × (List DLot) × (List DLot)) : Ct fun r => spec_RunPile_l0F a1 a2 r x := by
  unfold spec_RunPile_l0F spec_RunPile_l0K
  repeat' (first | exact Ct.const | exact Ct.call | refine Ct.cond ?_ ?_ | refine Ct.bind ?_ fun _ => ?_ | refine Ct.sum (fun _ => ?_) fun _ => ?_)
def spec_RunPile_l0 (a1 : List DStir) (a2 : Int) (a3 : Int) (a6 : Bool) (a7 : Int) (a8 : List DLot) (a9 : List DLot) : Option ((Int × Bool × Bool × Int × (List DLot) × (List DLot)) ⊕ (Bool × Int × (List DLot) × (List DLot))) := lim (spec_RunPile_l0F a1 a2) (a3, (a6, (a7, (a8, a9))))
theorem spec_RunPile_l0_eq (a1 : List DStir) (a2 : Int) (a3 : Int) (a6 : Bool) (a7 : Int) (a8 : List DLot) (a9 : List DLot) : spec_RunPile_l0 a1 a2 a3 a6 a7 a8 a9 = spec_RunPile_l0K a1 a2 (spec_RunPile_l0 a1 a2) some a3 a6 a7 a8 a9 := lim_eq (spec_RunPile_l0c a1 a2) (a3, (a6, (a7, (a8, a9))))
theorem spec_RunPile_l0p {R : Type} (a1 : List DStir) (a2 : Int) {rc : Int → Bool → Int → List DLot → List DLot → Option ((Int × Bool × Bool × Int × (List DLot) × (List DLot)) ⊕ (Bool × Int × (List DLot) × (List DLot)))} {rc' : Int → Bool → Int → List DLot → List DLot → Option R} {fin : ((Int × Bool × Bool × Int × (List DLot) × (List DLot)) ⊕ (Bool × Int × (List DLot) × (List DLot))) → Option R} (hr : ∀ a3 a6 a7 a8 a9, Par fin (rc a3 a6 a7 a8 a9) (rc' a3 a6 a7 a8 a9)) (a3 : Int) (a6 : Bool) (a7 : Int) (a8 : List DLot) (a9 : List DLot) : Par fin (spec_RunPile_l0K a1 a2 rc some a3 a6 a7 a8 a9) (spec_RunPile_l0K a1 a2 rc' fin a3 a6 a7 a8 a9) := by
  unfold spec_RunPile_l0K
  repeat' (first | exact .fin | exact .none | exact hr _ _ _ _ _ | refine .cond ?_ ?_ | refine .bind fun _ => ?_ | refine .sum (fun _ => ?_) fun _ => ?_)
def Lspec_RunPile_l0 : Loop := mkL ⟨[1, 4, 8, 9, 28, 29, 30], [.slot 4, .slot 8, .cell 8 2, .slot 9], [], [.own (.slot 9) TLot]⟩ sspec_RunPile_l0 xspec_RunPile_l0 (fun (x : ((List DStir) × Unit × Unit × Unit × (List DStir) × Int × Int × Unit) × ((Bool × Int × Unit × Unit) × (Bool × Int × Unit × Unit) × (List DLot) × (List DLot) × Unit)) => (x.1.1, (x.1.2.2.2.2.1, (x.1.2.2.2.2.2.1, (x.2.1.1, x.2.1.2.1))))) fun (x : ((List DStir) × Unit × Unit × Unit × (List DStir) × Int × Int × Unit) × ((Bool × Int × Unit × Unit) × (Bool × Int × Unit × Unit) × (List DLot) × (List DLot) × Unit)) => spec_RunPile_l0 x.1.2.2.2.2.1 x.1.2.2.2.2.2.1 x.1.2.2.2.2.2.2.1 x.2.2.1.1 x.2.2.1.2.1 x.2.2.2.1 x.2.2.2.2.1
def spec_RunPileK {R : Type} (fin : (Bool × Int × (List DLot)) × (List DLot) × Int × Bool → Option R) (x0 : DPile) (x1 : List DStir) : Option R :=
  (spec_spGood x0).bind fun y1 =>
  cond (!y1)
  (fin ((false, (0, [])), ([], (0, false))))
  (cond (decide ((x1.length : Int) > 60))
    (fin ((false, (0, [])), ([], (0, false))))
    ((spec_spWith x0 x0.2.2.1).bind fun y2 =>
      (spec_RunPile_l0 x1 (x1.length : Int) 0 y2.1 y2.2.1 y2.2.2 []).bind fun y9 =>
      sumO y9 (fun y10 =>
      fin ((y10.2.2.1, (y10.2.2.2.1, y10.2.2.2.2.1)), (y10.2.2.2.2.2, (y10.1, y10.2.1))))
      (fun y11 =>
      fin ((y11.1, (y11.2.1, y11.2.2.1)), (y11.2.2.2, ((x1.length : Int), true))))))
def spec_RunPile (x0 : DPile) (x1 : List DStir) : Option ((Bool × Int × (List DLot)) × (List DLot) × Int × Bool) := spec_RunPileK some x0 x1
theorem p37 {R : Type} (fin : (Bool × Int × (List DLot)) × (List DLot) × Int × Bool → Option R) (x0 : DPile) (x1 : List DStir) : Par fin (spec_RunPileK some x0 x1) (spec_RunPileK fin x0 x1) := by
  unfold spec_RunPileK
  repeat' (first | exact .fin | exact .none | refine .cond ?_ ?_ | refine .bind fun _ => ?_ | refine .sum (fun _ => ?_) fun _ => ?_)
def or37 : Ora := { lo := addL 6 (Lspec_RunPile_l0) lo0, fin := [.own (.cell 4 2) TLot, .own (.slot 5) TLot] }
theorem spec_RunPile_l0e (a0 : List DStir) (a1 : List DStir) (a2 : Int) (a4 : Bool) (a5 : Int) (k : Nat) (a3 : Int) (a6 : Bool) (a7 : Int) (a8 : List DLot) (a9 : List DLot) : loopC Try.prog EL37 or37 ((loopsIn (codeOf Try.f37)).getD 0 .skip) (Lspec_RunPile_l0).h (Lspec_RunPile_l0).ho Try.f37.ntmps (k + 1) (sspec_RunPile_l0.out ((a0, ((), ((), ((), (a1, (a2, (a3, ()))))))), ((a4, (a5, ((), ()))), ((a6, (a7, ((), ()))), (a8, (a9, ())))))) =
    spec_RunPile_l0K a1 a2 (fun a3 a6 a7 a8 a9 => loopC Try.prog EL37 or37 ((loopsIn (codeOf Try.f37)).getD 0 .skip) (Lspec_RunPile_l0).h (Lspec_RunPile_l0).ho Try.f37.ntmps k (sspec_RunPile_l0.out ((a0, ((), ((), ((), (a1, (a2, (a3, ()))))))), ((a4, (a5, ((), ()))), ((a6, (a7, ((), ()))), (a8, (a9, ()))))))) (fun y => some (XS.out xspec_RunPile_l0 (a0, (a1, (a2, (a4, a5)))) y)) a3 a6 a7 a8 a9 := by kernel_rfl
theorem spec_RunPile_l0o : LoopOk Try.prog EL37 or37 Try.f37.ntmps ((loopsIn (codeOf Try.f37)).getD 0 .skip) (Lspec_RunPile_l0) :=
  loop_lim (hs := sspec_RunPile_l0) (xs := xspec_RunPile_l0) (ι := fun (x : ((List DStir) × Unit × Unit × Unit × (List DStir) × Int × Int × Unit) × ((Bool × Int × Unit × Unit) × (Bool × Int × Unit × Unit) × (List DLot) × (List DLot) × Unit)) => (x.1.1, (x.1.2.2.2.2.1, (x.1.2.2.2.2.2.1, (x.2.1.1, x.2.1.2.1))))) (φ := fun (x : ((List DStir) × Unit × Unit × Unit × (List DStir) × Int × Int × Unit) × ((Bool × Int × Unit × Unit) × (Bool × Int × Unit × Unit) × (List DLot) × (List DLot) × Unit)) => (x.1.2.2.2.2.2.2.1, (x.2.2.1.1, (x.2.2.1.2.1, (x.2.2.2.1, x.2.2.2.2.1))))) (ψ := fun (i : (List DStir) × (List DStir) × Int × Bool × Int) (v : Int × Bool × Int × (List DLot) × (List DLot)) => ((i.1, ((), ((), ((), (i.2.1, (i.2.2.1, (v.1, ()))))))), ((i.2.2.2.1, (i.2.2.2.2, ((), ()))), ((v.2.1, (v.2.2.1, ((), ()))), (v.2.2.2.1, (v.2.2.2.2, ())))))) (F := fun (i : (List DStir) × (List DStir) × Int × Bool × Int) => spec_RunPile_l0F i.2.1 i.2.2.1) (fun _ => rfl) fun i k hk v => Par.of_eq (spec_RunPile_l0e i.1 i.2.1 i.2.2.1 i.2.2.2.1 i.2.2.2.2 k v.1 v.2.1 v.2.2.1 v.2.2.2.1 v.2.2.2.2) (spec_RunPile_l0p i.2.1 i.2.2.1 (fun a3 a6 a7 a8 a9 => hk (a3, (a6, (a7, (a8, a9))))) v.1 v.2.1 v.2.2.1 v.2.2.2.1 v.2.2.2.2)
def c37 : Callee := mkC [.agg [.ro TPile], .one (.ro (.slice TStir))] 4 [.agg [.ro .bool, .ro (.int .i64), .sl TLot], .one (.sl TLot), .one (.ro (.int .i64)), .one (.ro .bool)] fun x => spec_RunPile x.1 x.2
theorem e37 (x : PK.dens [.agg [.ro TPile], .one (.ro (.slice TStir))]) : evalFn Try.prog EL37 or37 Try.f37 (PK.outs [.agg [.ro TPile], .one (.ro (.slice TStir))] x) =
    spec_RunPileK (fun y => some (tupOf ((PK.outs [.agg [.ro .bool, .ro (.int .i64), .sl TLot], .one (.sl TLot), .one (.ro (.int .i64)), .one (.ro .bool)] y).take 4), (PK.outs [.agg [.ro .bool, .ro (.int .i64), .sl TLot], .one (.sl TLot), .one (.ro (.int .i64)), .one (.ro .bool)] y).drop 4)) x.1 x.2 := by kernel_rfl
theorem o37 : LoOk Try.prog EL37 or37 Try.f37.ntmps (loopsIn (codeOf Try.f37)) :=
  LoOk.mk (m := 1) (by kernel_rfl) fun i hi => match i, hi with
    | 0, _ => ⟨Lspec_RunPile_l0, by kernel_rfl, spec_RunPile_l0o⟩
    | i + 1, hi => absurd hi (by omega)
theorem k37 : CalleeOk Try.prog 37 c37 := callee_mk Try.func37 (code := codeOf Try.f37) (by kernel_rfl) vL37 mixed o37 fun x y h => (e37 x).trans (p37 _ x.1 x.2 y h)

/-- impl.RunPile -/
def EL39 : Nat → Option Callee := addE 62 c62 (addE 58 c58 (addE 48 c48 (addE 60 c60 (addE 20 c20 env0))))
theorem vL39 : EnvOk Try.prog EL39 := ((((EnvOk.nil.add Try.func20 rfl (by kernel_rfl) k20).add Try.func60 rfl (by kernel_rfl) k60).add Try.func48 rfl (by kernel_rfl) k48).add Try.func58 rfl (by kernel_rfl) k58).add Try.func62 rfl (by kernel_rfl) k62
def simpl_RunPile_l0 : LS := ⟨[(1, .one (.dat (.slice TStir))), (4, .one (.fix (.ptr 0 0))), (8, .one (.fix (.ptr 1 0))), (9, .one (.fix (.sref 3))), (27, .one (.dat (.slice TStir))), (28, .one (.dat (.int .i64))), (29, .one (.dat (.int .i64)))], [.box [.dat .bool, .dat (.int .i64), .fix .nils], .box [.dat .bool, .dat (.int .i64), .fix (.sref 2)], .sl TLot, .sl TLot], []⟩
def simpl_RunPile_l0x0 : LS := ⟨[(4, .one (.fix (.ptr 0 0))), (5, .one (.fix (.sref 2))), (6, .one (.dat (.int .i64))), (7, .one (.dat .bool))], [.box [.dat .bool, .dat (.int .i64), .fix (.sref 1)], .sl TLot, .sl TLot], []⟩
def simpl_RunPile_l0x1 : LS := ⟨[(1, .one (.dat (.slice TStir))), (4, .one (.fix (.ptr 0 0))), (8, .one (.fix (.ptr 1 0))), (9, .one (.fix (.sref 3)))], [.box [.dat .bool, .dat (.int .i64), .fix .nils], .box [.dat .bool, .dat (.int .i64), .fix (.sref 2)], .sl TLot, .sl TLot], []⟩
def ximpl_RunPile_l0 : List (XS ((List DStir) × (List DStir) × Int × Bool × Int)) := [⟨.ret, ⟨[4, 5, 6, 7], [.slot 4, .cell 4 2, .slot 5], [], []⟩, simpl_RunPile_l0x0, Int × Bool × Bool × Int × (List DLot) × (List DLot), fun i y => (((), ((), (y.1, (y.2.1, ())))), ((y.2.2.1, (y.2.2.2.1, ((), ()))), (y.2.2.2.2.1, (y.2.2.2.2.2, ()))))⟩,
  ⟨.exit 0, ⟨[1, 4, 8, 9], [.slot 4, .slot 8, .cell 8 2, .slot 9], [], []⟩, simpl_RunPile_l0x1, Bool × Int × (List DLot) × (List DLot), fun i y => ((i.1, ((), ((), ((), ())))), ((i.2.2.2.1, (i.2.2.2.2, ((), ()))), ((y.1, (y.2.1, ((), ()))), (y.2.2.1, (y.2.2.2, ())))))⟩]
def impl_RunPile_l0K {R : Type} (a1 : List DStir) (a2 : Int) (rc : Int → Bool → Int → List DLot → List DLot → Option R) (fin : ((Int × Bool × Bool × Int × (List DLot) × (List DLot)) ⊕ (Bool × Int × (List DLot) × (List DLot))) → Option R) (a3 : Int) (a6 : Bool) (a7 : Int) (a8 : List DLot) (a9 : List DLot) : Option R :=
  cond (decide (a3 < a2))
  ((lat a1 a3).bind fun e1 =>
    cond (e1.1)
    ((impl_isLot e1.2).bind fun y2 =>
      cond (y2)
      ((impl_putLot (a6, (a7, (a8, ()))) e1.2).bind fun y3 =>
        cond (!y3.2)
        (fin (.inl (a3, (true, (a6, (a7, (a8, a9)))))))
        (cond (!e1.1)
          (cond (decide (a9.length + [e1.2].length ≤ 1099511627776))
            ((some (a9 ++ [e1.2])).bind fun v4 =>
              rc (IntKind.i64.wrap (a3 + 1)) y3.1.1 y3.1.2.1 y3.1.2.2 v4)
            (none))
          (rc (IntKind.i64.wrap (a3 + 1)) y3.1.1 y3.1.2.1 y3.1.2.2 a9)))
      (fin (.inl (a3, (true, (a6, (a7, (a8, a9))))))))
    (cond (decide (e1.2.1 ≥ 1))
      (cond (e1.2.2.1 == 0)
        ((impl_takeTonnes (a6, (a7, (a8, ()))) e1.2.1).bind fun y5 =>
          cond (!y5.2.2)
          (fin (.inl (a3, (true, (a6, (a7, (a8, a9)))))))
          (cond (!e1.1)
            (cond (decide (a9.length + [y5.2.1].length ≤ 1099511627776))
              ((some (a9 ++ [y5.2.1])).bind fun v6 =>
                rc (IntKind.i64.wrap (a3 + 1)) y5.1.1 y5.1.2.1 y5.1.2.2 v6)
              (none))
            (rc (IntKind.i64.wrap (a3 + 1)) y5.1.1 y5.1.2.1 y5.1.2.2 a9)))
        (fin (.inl (a3, (true, (a6, (a7, (a8, a9))))))))
      (fin (.inl (a3, (true, (a6, (a7, (a8, a9)))))))))
  (fin (.inr (a6, (a7, (a8, a9)))))
def impl_RunPile_l0F (a1 : List DStir) (a2 : Int) (r : (Int × Bool × Int × (List DLot) × (List DLot)) → Option ((Int × Bool × Bool × Int × (List DLot) × (List DLot)) ⊕ (Bool × Int × (List DLot) × (List DLot)))) (x : Int × Bool × Int × (List DLot) × (List DLot)) : Option ((Int × Bool × Bool × Int × (List DLot) × (List DLot)) ⊕ (Bool × Int × (List DLot) × (List DLot))) := impl_RunPile_l0K a1 a2 (fun a3 a6 a7 a8 a9 => r (a3, (a6, (a7, (a8, a9))))) some x.1 x.2.1 x.2.2.1 x.2.2.2.1 x.2.2.2.2
theorem impl_RunPile_l0c (a1 : List DStir) (a2 : Int) (x : Int × Bool × Int × (List DLot) × (List DLot)) : Ct fun r => impl_RunPile_l0F a1 a2 r x := by
  unfold impl_RunPile_l0F impl_RunPile_l0K
  repeat' (first | exact Ct.const | exact Ct.call | refine Ct.cond ?_ ?_ | refine Ct.bind ?_ fun _ => ?_ | refine Ct.sum (fun _ => ?_) fun _ => ?_)
def impl_RunPile_l0 (a1 : List DStir) (a2 : Int) (a3 : Int) (a6 : Bool) (a7 : Int) (a8 : List DLot) (a9 : List DLot) : Option ((Int × Bool × Bool × Int × (List DLot) × (List DLot)) ⊕ (Bool × Int × (List DLot) × (List DLot))) := lim (impl_RunPile_l0F a1 a2) (a3, (a6, (a7, (a8, a9))))
theorem impl_RunPile_l0_eq (a1 : List DStir) (a2 : Int) (a3 : Int) (a6 : Bool) (a7 : Int) (a8 : List DLot) (a9 : List DLot) : impl_RunPile_l0 a1 a2 a3 a6 a7 a8 a9 = impl_RunPile_l0K a1 a2 (impl_RunPile_l0 a1 a2) some a3 a6 a7 a8 a9 := lim_eq (impl_RunPile_l0c a1 a2) (a3, (a6, (a7, (a8, a9))))
theorem impl_RunPile_l0p {R : Type} (a1 : List DStir) (a2 : Int) {rc : Int → Bool → Int → List DLot → List DLot → Option ((Int × Bool × Bool × Int × (List DLot) × (List DLot)) ⊕ (Bool × Int × (List DLot) × (List DLot)))} {rc' : Int → Bool → Int → List DLot → List DLot → Option R} {fin : ((Int × Bool × Bool × Int × (List DLot) × (List DLot)) ⊕ (Bool × Int × (List DLot) × (List DLot))) → Option R} (hr : ∀ a3 a6 a7 a8 a9, Par fin (rc a3 a6 a7 a8 a9) (rc' a3 a6 a7 a8 a9)) (a3 : Int) (a6 : Bool) (a7 : Int) (a8 : List DLot) (a9 : List DLot) : Par fin (impl_RunPile_l0K a1 a2 rc some a3 a6 a7 a8 a9) (impl_RunPile_l0K a1 a2 rc' fin a3 a6 a7 a8 a9) := by
  unfold impl_RunPile_l0K
  repeat' (first | exact .fin | exact .none | exact hr _ _ _ _ _ | refine .cond ?_ ?_ | refine .bind fun _ => ?_ | refine .sum (fun _ => ?_) fun _ => ?_)
def Limpl_RunPile_l0 : Loop := mkL ⟨[1, 4, 8, 9, 27, 28, 29], [.slot 4, .slot 8, .cell 8 2, .slot 9], [], []⟩ simpl_RunPile_l0 ximpl_RunPile_l0 (fun (x : ((List DStir) × Unit × Unit × Unit × (List DStir) × Int × Int × Unit) × ((Bool × Int × Unit × Unit) × (Bool × Int × Unit × Unit) × (List DLot) × (List DLot) × Unit)) => (x.1.1, (x.1.2.2.2.2.1, (x.1.2.2.2.2.2.1, (x.2.1.1, x.2.1.2.1))))) fun (x : ((List DStir) × Unit × Unit × Unit × (List DStir) × Int × Int × Unit) × ((Bool × Int × Unit × Unit) × (Bool × Int × Unit × Unit) × (List DLot) × (List DLot) × Unit)) => impl_RunPile_l0 x.1.2.2.2.2.1 x.1.2.2.2.2.2.1 x.1.2.2.2.2.2.2.1 x.2.2.1.1 x.2.2.1.2.1 x.2.2.2.1 x.2.2.2.2.1
def impl_RunPileK {R : Type} (fin : (Bool × Int × (List DLot)) × (List DLot) × Int × Bool → Option R) (x0 : DPile) (x1 : List DStir) : Option R :=
  (impl_IsPile x0).bind fun y1 =>
  cond (!y1)
  (fin ((false, (0, [])), ([], (0, false))))
  (cond (decide ((x1.length : Int) > 60))
    (fin ((false, (0, [])), ([], (0, false))))
    ((impl_copyPile x0).bind fun y2 =>
      (impl_RunPile_l0 x1 (x1.length : Int) 0 y2.1 y2.2.1 y2.2.2 []).bind fun y9 =>
      sumO y9 (fun y10 =>
      fin ((y10.2.2.1, (y10.2.2.2.1, y10.2.2.2.2.1)), (y10.2.2.2.2.2, (y10.1, y10.2.1))))
      (fun y11 =>
      fin ((y11.1, (y11.2.1, y11.2.2.1)), (y11.2.2.2, ((x1.length : Int), true))))))
def impl_RunPile (x0 : DPile) (x1 : List DStir) : Option ((Bool × Int × (List DLot)) × (List DLot) × Int × Bool) := impl_RunPileK some x0 x1
theorem p39 {R : Type} (fin : (Bool × Int × (List DLot)) × (List DLot) × Int × Bool → Option R) (x0 : DPile) (x1 : List DStir) : Par fin (impl_RunPileK some x0 x1) (impl_RunPileK fin x0 x1) := by
  unfold impl_RunPileK
  repeat' (first | exact .fin | exact .none | refine .cond ?_ ?_ | refine .bind fun _ => ?_ | refine .sum (fun _ => ?_) fun _ => ?_)
def or39 : Ora := { lo := addL 6 (Limpl_RunPile_l0) lo0, fin := [.own (.cell 4 2) TLot, .own (.slot 5) TLot] }
theorem impl_RunPile_l0e (a0 : List DStir) (a1 : List DStir) (a2 : Int) (a4 : Bool) (a5 : Int) (k : Nat) (a3 : Int) (a6 : Bool) (a7 : Int) (a8 : List DLot) (a9 : List DLot) : loopC Try.prog EL39 or39 ((loopsIn (codeOf Try.f39)).getD 0 .skip) (Limpl_RunPile_l0).h (Limpl_RunPile_l0).ho Try.f39.ntmps (k + 1) (simpl_RunPile_l0.out ((a0, ((), ((), ((), (a1, (a2, (a3, ()))))))), ((a4, (a5, ((), ()))), ((a6, (a7, ((), ()))), (a8, (a9, ())))))) =
    impl_RunPile_l0K a1 a2 (fun a3 a6 a7 a8 a9 => loopC Try.prog EL39 or39 ((loopsIn (codeOf Try.f39)).getD 0 .skip) (Limpl_RunPile_l0).h (Limpl_RunPile_l0).ho Try.f39.ntmps k (simpl_RunPile_l0.out ((a0, ((), ((), ((), (a1, (a2, (a3, ()))))))), ((a4, (a5, ((), ()))), ((a6, (a7, ((), ()))), (a8, (a9, ()))))))) (fun y => some (XS.out ximpl_RunPile_l0 (a0, (a1, (a2, (a4, a5)))) y)) a3 a6 a7 a8 a9 := by kernel_rfl
theorem impl_RunPile_l0o : LoopOk Try.prog EL39 or39 Try.f39.ntmps ((loopsIn (codeOf Try.f39)).getD 0 .skip) (Limpl_RunPile_l0) :=
  loop_lim (hs := simpl_RunPile_l0) (xs := ximpl_RunPile_l0) (ι := fun (x : ((List DStir) × Unit × Unit × Unit × (List DStir) × Int × Int × Unit) × ((Bool × Int × Unit × Unit) × (Bool × Int × Unit × Unit) × (List DLot) × (List DLot) × Unit)) => (x.1.1, (x.1.2.2.2.2.1, (x.1.2.2.2.2.2.1, (x.2.1.1, x.2.1.2.1))))) (φ := fun (x : ((List DStir) × Unit × Unit × Unit × (List DStir) × Int × Int × Unit) × ((Bool × Int × Unit × Unit) × (Bool × Int × Unit × Unit) × (List DLot) × (List DLot) × Unit)) => (x.1.2.2.2.2.2.2.1, (x.2.2.1.1, (x.2.2.1.2.1, (x.2.2.2.1, x.2.2.2.2.1))))) (ψ := fun (i : (List DStir) × (List DStir) × Int × Bool × Int) (v : Int × Bool × Int × (List DLot) × (List DLot)) => ((i.1, ((), ((), ((), (i.2.1, (i.2.2.1, (v.1, ()))))))), ((i.2.2.2.1, (i.2.2.2.2, ((), ()))), ((v.2.1, (v.2.2.1, ((), ()))), (v.2.2.2.1, (v.2.2.2.2, ())))))) (F := fun (i : (List DStir) × (List DStir) × Int × Bool × Int) => impl_RunPile_l0F i.2.1 i.2.2.1) (fun _ => rfl) fun i k hk v => Par.of_eq (impl_RunPile_l0e i.1 i.2.1 i.2.2.1 i.2.2.2.1 i.2.2.2.2 k v.1 v.2.1 v.2.2.1 v.2.2.2.1 v.2.2.2.2) (impl_RunPile_l0p i.2.1 i.2.2.1 (fun a3 a6 a7 a8 a9 => hk (a3, (a6, (a7, (a8, a9))))) v.1 v.2.1 v.2.2.1 v.2.2.2.1 v.2.2.2.2)
def c39 : Callee := mkC [.agg [.ro TPile], .one (.ro (.slice TStir))] 4 [.agg [.ro .bool, .ro (.int .i64), .sl TLot], .one (.sl TLot), .one (.ro (.int .i64)), .one (.ro .bool)] fun x => impl_RunPile x.1 x.2
theorem e39 (x : PK.dens [.agg [.ro TPile], .one (.ro (.slice TStir))]) : evalFn Try.prog EL39 or39 Try.f39 (PK.outs [.agg [.ro TPile], .one (.ro (.slice TStir))] x) =
    impl_RunPileK (fun y => some (tupOf ((PK.outs [.agg [.ro .bool, .ro (.int .i64), .sl TLot], .one (.sl TLot), .one (.ro (.int .i64)), .one (.ro .bool)] y).take 4), (PK.outs [.agg [.ro .bool, .ro (.int .i64), .sl TLot], .one (.sl TLot), .one (.ro (.int .i64)), .one (.ro .bool)] y).drop 4)) x.1 x.2 := by kernel_rfl
theorem o39 : LoOk Try.prog EL39 or39 Try.f39.ntmps (loopsIn (codeOf Try.f39)) :=
  LoOk.mk (m := 1) (by kernel_rfl) fun i hi => match i, hi with
    | 0, _ => ⟨Limpl_RunPile_l0, by kernel_rfl, impl_RunPile_l0o⟩
    | i + 1, hi => absurd hi (by omega)
theorem k39 : CalleeOk Try.prog 39 c39 := callee_mk Try.func39 (code := codeOf Try.f39) (by kernel_rfl) vL39 mixed o39 fun x y h => (e39 x).trans (p39 _ x.1 x.2 y h)

/-- laws.eqStir -/
def EL65 : Nat → Option Callee := env0
theorem vL65 : EnvOk Try.prog EL65 := EnvOk.nil
def laws_eqStirK {R : Type} (fin : Bool → Option R) (x0 : DStir) (x1 : DStir) : Option R :=
  cond (!(x0.1 == x1.1))
  (fin false)
  (cond (x0.2.1 != x1.2.1)
    (fin false)
    (cond (x0.2.2.1 != x1.2.2.1)
      (fin false)
      (fin true)))
def laws_eqStir (x0 : DStir) (x1 : DStir) : Option (Bool) := laws_eqStirK some x0 x1
theorem p65 {R : Type} (fin : Bool → Option R) (x0 : DStir) (x1 : DStir) : Par fin (laws_eqStirK some x0 x1) (laws_eqStirK fin x0 x1) := by
  unfold laws_eqStirK
  repeat' (first | exact .fin | exact .none | refine .cond ?_ ?_ | refine .bind fun _ => ?_ | refine .sum (fun _ => ?_) fun _ => ?_)
def c65 : Callee := mkC [.agg [.ro TStir], .agg [.ro TStir]] 1 [.one (.ro .bool)] fun x => laws_eqStir x.1 x.2
theorem e65 (x : PK.dens [.agg [.ro TStir], .agg [.ro TStir]]) : evalFn Try.prog EL65 or0 Try.f65 (PK.outs [.agg [.ro TStir], .agg [.ro TStir]] x) =
    laws_eqStirK (fun y => some (tupOf ((PK.outs [.one (.ro .bool)] y).take 1), (PK.outs [.one (.ro .bool)] y).drop 1)) x.1 x.2 := by kernel_rfl
theorem k65 : CalleeOk Try.prog 65 c65 := callee_mk Try.func65 (code := codeOf Try.f65) (by kernel_rfl) vL65 mixed (LoOk.nil (by kernel_rfl)) fun x y h => (e65 x).trans (p65 _ x.1 x.2 y h)

/-- laws.eqStirS -/
def EL41 : Nat → Option Callee := addE 65 c65 env0
theorem vL41 : EnvOk Try.prog EL41 := EnvOk.nil.add Try.func65 rfl (by kernel_rfl) k65
def slaws_eqStirS_l0 : LS := ⟨[(0, .one (.dat (.slice TStir))), (1, .one (.dat (.slice TStir))), (5, .one (.dat (.int .i64)))], [], []⟩
def slaws_eqStirS_l0x0 : LS := ⟨[(4, .one (.dat .bool))], [], []⟩
def slaws_eqStirS_l0x1 : LS := ⟨[], [], []⟩
def xlaws_eqStirS_l0 : List (XS ((List DStir) × (List DStir))) := [⟨.ret, ⟨[4], [], [], []⟩, slaws_eqStirS_l0x0, Bool, fun i y => ((y, ()), ())⟩,
  ⟨.exit 0, ⟨[], [], [], []⟩, slaws_eqStirS_l0x1, Unit, fun i y => ((), ())⟩]
def laws_eqStirS_l0K {R : Type} (a0 : List DStir) (a1 : List DStir) (rc : Int → Option R) (fin : (Bool ⊕ Unit) → Option R) (a2 : Int) : Option R :=
  cond (decide (a2 < (a0.length : Int)))
  ((lat a0 a2).bind fun e1 =>
    (lat a1 a2).bind fun e2 =>
    (laws_eqStir e1 e2).bind fun y3 =>
    cond (!y3)
    (fin (.inl false))
    (rc (IntKind.i64.wrap (a2 + 1))))
  (fin (.inr ()))
def laws_eqStirS_l0F (a0 : List DStir) (a1 : List DStir) (r : Int → Option (Bool ⊕ Unit)) (x : Int) : Option (Bool ⊕ Unit) := laws_eqStirS_l0K a0 a1 (fun a2 => r a2) some x
theorem laws_eqStirS_l0c (a0 : List DStir) (a1 : List DStir) (x : Int) : Ct fun r => laws_eqStirS_l0F a0 a1 r x := by
  unfold laws_eqStirS_l0F laws_eqStirS_l0K
  repeat' (first | exact Ct.const | exact Ct.call | refine Ct.cond ?_ ?_ | refine Ct.bind ?_ fun _ => ?_ | refine Ct.sum (fun _ => ?_) fun _ => ?_)
def laws_eqStirS_l0 (a0 : List DStir) (a1 : List DStir) (a2 : Int) : Option (Bool ⊕ Unit) := lim (laws_eqStirS_l0F a0 a1) a2
theorem laws_eqStirS_l0_eq (a0 : List DStir) (a1 : List DStir) (a2 : Int) : laws_eqStirS_l0 a0 a1 a2 = laws_eqStirS_l0K a0 a1 (laws_eqStirS_l0 a0 a1) some a2 := lim_eq (laws_eqStirS_l0c a0 a1) a2
theorem laws_eqStirS_l0p {R : Type} (a0 : List DStir) (a1 : List DStir) {rc : Int → Option (Bool ⊕ Unit)} {rc' : Int → Option R} {fin : (Bool ⊕ Unit) → Option R} (hr : ∀ a2, Par fin (rc a2) (rc' a2)) (a2 : Int) : Par fin (laws_eqStirS_l0K a0 a1 rc some a2) (laws_eqStirS_l0K a0 a1 rc' fin a2) := by
  unfold laws_eqStirS_l0K
  repeat' (first | exact .fin | exact .none | exact hr _ | refine .cond ?_ ?_ | refine .bind fun _ => ?_ | refine .sum (fun _ => ?_) fun _ => ?_)
def Llaws_eqStirS_l0 : Loop := mkL ⟨[0, 1, 5], [], [], []⟩ slaws_eqStirS_l0 xlaws_eqStirS_l0 (fun (x : ((List DStir) × (List DStir) × Int × Unit) × (Unit)) => (x.1.1, x.1.2.1)) fun (x : ((List DStir) × (List DStir) × Int × Unit) × (Unit)) => laws_eqStirS_l0 x.1.1 x.1.2.1 x.1.2.2.1
def laws_eqStirSK {R : Type} (fin : Bool → Option R) (x0 : List DStir) (x1 : List DStir) : Option R :=
  cond ((x0.length : Int) != (x1.length : Int))
  (fin false)
  ((laws_eqStirS_l0 x0 x1 0).bind fun y4 =>
    sumO y4 (fun y5 =>
    fin y5)
    (fun y6 =>
    fin true))
def laws_eqStirS (x0 : List DStir) (x1 : List DStir) : Option (Bool) := laws_eqStirSK some x0 x1
theorem p41 {R : Type} (fin : Bool → Option R) (x0 : List DStir) (x1 : List DStir) : Par fin (laws_eqStirSK some x0 x1) (laws_eqStirSK fin x0 x1) := by
  unfold laws_eqStirSK
  repeat' (first | exact .fin | exact .none | refine .cond ?_ ?_ | refine .bind fun _ => ?_ | refine .sum (fun _ => ?_) fun _ => ?_)
def or41 : Ora := { lo := addL 4 (Llaws_eqStirS_l0) lo0, fin := [] }
theorem laws_eqStirS_l0e (a0 : List DStir) (a1 : List DStir) (k : Nat) (a2 : Int) : loopC Try.prog EL41 or41 ((loopsIn (codeOf Try.f41)).getD 0 .skip) (Llaws_eqStirS_l0).h (Llaws_eqStirS_l0).ho Try.f41.ntmps (k + 1) (slaws_eqStirS_l0.out ((a0, (a1, (a2, ()))), ())) =
    laws_eqStirS_l0K a0 a1 (fun a2 => loopC Try.prog EL41 or41 ((loopsIn (codeOf Try.f41)).getD 0 .skip) (Llaws_eqStirS_l0).h (Llaws_eqStirS_l0).ho Try.f41.ntmps k (slaws_eqStirS_l0.out ((a0, (a1, (a2, ()))), ()))) (fun y => some (XS.out xlaws_eqStirS_l0 (a0, a1) y)) a2 := by kernel_rfl
theorem laws_eqStirS_l0o : LoopOk Try.prog EL41 or41 Try.f41.ntmps ((loopsIn (codeOf Try.f41)).getD 0 .skip) (Llaws_eqStirS_l0) :=
  loop_lim (hs := slaws_eqStirS_l0) (xs := xlaws_eqStirS_l0) (ι := fun (x : ((List DStir) × (List DStir) × Int × Unit) × (Unit)) => (x.1.1, x.1.2.1)) (φ := fun (x : ((List DStir) × (List DStir) × Int × Unit) × (Unit)) => x.1.2.2.1) (ψ := fun (i : (List DStir) × (List DStir)) (v : Int) => ((i.1, (i.2, (v, ()))), ())) (F := fun (i : (List DStir) × (List DStir)) => laws_eqStirS_l0F i.1 i.2) (fun _ => rfl) fun i k hk v => Par.of_eq (laws_eqStirS_l0e i.1 i.2 k v) (laws_eqStirS_l0p i.1 i.2 (fun a2 => hk a2) v)
def c41 : Callee := mkC [.one (.ro (.slice TStir)), .one (.ro (.slice TStir))] 1 [.one (.ro .bool)] fun x => laws_eqStirS x.1 x.2
theorem e41 (x : PK.dens [.one (.ro (.slice TStir)), .one (.ro (.slice TStir))]) : evalFn Try.prog EL41 or41 Try.f41 (PK.outs [.one (.ro (.slice TStir)), .one (.ro (.slice TStir))] x) =
    laws_eqStirSK (fun y => some (tupOf ((PK.outs [.one (.ro .bool)] y).take 1), (PK.outs [.one (.ro .bool)] y).drop 1)) x.1 x.2 := by kernel_rfl
theorem o41 : LoOk Try.prog EL41 or41 Try.f41.ntmps (loopsIn (codeOf Try.f41)) :=
  LoOk.mk (m := 1) (by kernel_rfl) fun i hi => match i, hi with
    | 0, _ => ⟨Llaws_eqStirS_l0, by kernel_rfl, laws_eqStirS_l0o⟩
    | i + 1, hi => absurd hi (by omega)
theorem k41 : CalleeOk Try.prog 41 c41 := callee_mk Try.func41 (code := codeOf Try.f41) (by kernel_rfl) vL41 mixed o41 fun x y h => (e41 x).trans (p41 _ x.1 x.2 y h)

/-- laws.markStirS -/
def EL42 : Nat → Option Callee := env0
theorem vL42 : EnvOk Try.prog EL42 := EnvOk.nil
def slaws_markStirS_l0 : LS := ⟨[(0, .one (.fix (.sref 0))), (1, .one (.dat (.int .i64))), (5, .one (.dat (.int .i64)))], [.sl TStir], [0]⟩
def slaws_markStirS_l0x0 : LS := ⟨[(0, .one (.fix (.sref 0))), (1, .one (.dat (.int .i64)))], [.sl TStir], [0]⟩
def xlaws_markStirS_l0 : List (XS (Unit)) := [⟨.exit 0, ⟨[0, 1], [.slot 0], [0], []⟩, slaws_markStirS_l0x0, Int × (List DStir), fun i y => (((), (y.1, ())), (y.2, ()))⟩]
def laws_markStirS_l0K {R : Type} (rc : Int → Int → List DStir → Option R) (fin : Int × (List DStir) → Option R) (a0 : Int) (a1 : Int) (a2 : List DStir) : Option R :=
  cond (decide (a1 < (a2.length : Int)))
  (cond (decide ((0 : Int) ≤ a1) && decide (a1 < (a2.length : Int)))
    ((some (a2.set (0 + a1.toNat) ((a0.tmod 3) == 0, (((a2.getD (0 + a1.toNat) TStir.dflt).2).1, ((((a2.getD (0 + a1.toNat) TStir.dflt).2).2).1, ()))))).bind fun v1 =>
      cond (decide ((0 : Int) ≤ a1) && decide (a1 < (v1.length : Int)))
      ((some (v1.set (0 + a1.toNat) ((v1.getD (0 + a1.toNat) TStir.dflt).1, (IntKind.i64.wrap (a0 + 1), ((((v1.getD (0 + a1.toNat) TStir.dflt).2).2).1, ()))))).bind fun v2 =>
        cond (decide ((0 : Int) ≤ a1) && decide (a1 < (v2.length : Int)))
        ((some (v2.set (0 + a1.toNat) ((v2.getD (0 + a1.toNat) TStir.dflt).1, (((v2.getD (0 + a1.toNat) TStir.dflt).2).1, (IntKind.i64.wrap ((IntKind.i64.wrap (a0 + 1)) + 1), ()))))).bind fun v3 =>
          (some (IntKind.i64.wrap ((IntKind.i64.wrap ((IntKind.i64.wrap (a0 + 1)) + 1)) + 1))).bind fun v4 =>
          rc v4 (IntKind.i64.wrap (a1 + 1)) v3)
        (none))
      (none))
    (none))
  (fin (a0, a2))
def laws_markStirS_l0F (r : (Int × Int × (List DStir)) → Option (Int × (List DStir))) (x : Int × Int × (List DStir)) : Option (Int × (List DStir)) := laws_markStirS_l0K (fun a0 a1 a2 => r (a0, (a1, a2))) some x.1 x.2.1 x.2.2
theorem laws_markStirS_l0c (x : Int × Int × (List DStir)) : Ct fun r => laws_markStirS_l0F r x := by
  unfold laws_markStirS_l0F laws_markStirS_l0K
  repeat' (first | exact Ct.const | exact Ct.call | refine Ct.cond ?_ ?_ | refine Ct.bind ?_ fun _ => ?_ | refine Ct.sum (fun _ => ?_) fun _ => ?_)
def laws_markStirS_l0 (a0 : Int) (a1 : Int) (a2 : List DStir) : Option (Int × (List DStir)) := lim (laws_markStirS_l0F) (a0, (a1, a2))
theorem laws_markStirS_l0_eq (a0 : Int) (a1 : Int) (a2 : List DStir) : laws_markStirS_l0 a0 a1 a2 = laws_markStirS_l0K (laws_markStirS_l0) some a0 a1 a2 := lim_eq (laws_markStirS_l0c) (a0, (a1, a2))
theorem laws_markStirS_l0p {R : Type} {rc : Int → Int → List DStir → Option (Int × (List DStir))} {rc' : Int → Int → List DStir → Option R} {fin : Int × (List DStir) → Option R} (hr : ∀ a0 a1 a2, Par fin (rc a0 a1 a2) (rc' a0 a1 a2)) (a0 : Int) (a1 : Int) (a2 : List DStir) : Par fin (laws_markStirS_l0K rc some a0 a1 a2) (laws_markStirS_l0K rc' fin a0 a1 a2) := by
  unfold laws_markStirS_l0K
  repeat' (first | exact .fin | exact .none | exact hr _ _ _ | refine .cond ?_ ?_ | refine .bind fun _ => ?_ | refine .sum (fun _ => ?_) fun _ => ?_)
def Llaws_markStirS_l0 : Loop := mkL ⟨[0, 1, 5], [.slot 0], [0], []⟩ slaws_markStirS_l0 xlaws_markStirS_l0 (fun (x : (Unit × Int × Int × Unit) × ((List DStir) × Unit)) => ()) fun (x : (Unit × Int × Int × Unit) × ((List DStir) × Unit)) => laws_markStirS_l0 x.1.2.1 x.1.2.2.1 x.2.1
def laws_markStirSK {R : Type} (fin : Int × (List DStir) → Option R) (x0 : List DStir) (x1 : Int) : Option R :=
  (laws_markStirS_l0 x1 0 x0).bind fun y5 =>
  fin y5
def laws_markStirS (x0 : List DStir) (x1 : Int) : Option (Int × (List DStir)) := laws_markStirSK some x0 x1
theorem p42 {R : Type} (fin : Int × (List DStir) → Option R) (x0 : List DStir) (x1 : Int) : Par fin (laws_markStirSK some x0 x1) (laws_markStirSK fin x0 x1) := by
  unfold laws_markStirSK
  repeat' (first | exact .fin | exact .none | refine .cond ?_ ?_ | refine .bind fun _ => ?_ | refine .sum (fun _ => ?_) fun _ => ?_)
def or42 : Ora := { lo := addL 2 (Llaws_markStirS_l0) lo0, fin := [] }
theorem laws_markStirS_l0e (k : Nat) (a0 : Int) (a1 : Int) (a2 : List DStir) : loopC Try.prog EL42 or42 ((loopsIn (codeOf Try.f42)).getD 0 .skip) (Llaws_markStirS_l0).h (Llaws_markStirS_l0).ho Try.f42.ntmps (k + 1) (slaws_markStirS_l0.out (((), (a0, (a1, ()))), (a2, ()))) =
    laws_markStirS_l0K (fun a0 a1 a2 => loopC Try.prog EL42 or42 ((loopsIn (codeOf Try.f42)).getD 0 .skip) (Llaws_markStirS_l0).h (Llaws_markStirS_l0).ho Try.f42.ntmps k (slaws_markStirS_l0.out (((), (a0, (a1, ()))), (a2, ())))) (fun y => some (XS.out xlaws_markStirS_l0 () y)) a0 a1 a2 := by kernel_rfl
theorem laws_markStirS_l0o : LoopOk Try.prog EL42 or42 Try.f42.ntmps ((loopsIn (codeOf Try.f42)).getD 0 .skip) (Llaws_markStirS_l0) :=
  loop_lim (hs := slaws_markStirS_l0) (xs := xlaws_markStirS_l0) (ι := fun (x : (Unit × Int × Int × Unit) × ((List DStir) × Unit)) => ()) (φ := fun (x : (Unit × Int × Int × Unit) × ((List DStir) × Unit)) => (x.1.2.1, (x.1.2.2.1, x.2.1))) (ψ := fun (i : Unit) (v : Int × Int × (List DStir)) => (((), (v.1, (v.2.1, ()))), (v.2.2, ()))) (F := fun (i : Unit) => laws_markStirS_l0F) (fun _ => rfl) fun i k hk v => Par.of_eq (laws_markStirS_l0e k v.1 v.2.1 v.2.2) (laws_markStirS_l0p (fun a0 a1 a2 => hk (a0, (a1, a2))) v.1 v.2.1 v.2.2)
def c42 : Callee := mkC [.one (.sl TStir), .one (.ro (.int .i64))] 1 [.one (.ro (.int .i64)), .one (.sl TStir)] fun x => laws_markStirS x.1 x.2
theorem e42 (x : PK.dens [.one (.sl TStir), .one (.ro (.int .i64))]) : evalFn Try.prog EL42 or42 Try.f42 (PK.outs [.one (.sl TStir), .one (.ro (.int .i64))] x) =
    laws_markStirSK (fun y => some (tupOf ((PK.outs [.one (.ro (.int .i64)), .one (.sl TStir)] y).take 1), (PK.outs [.one (.ro (.int .i64)), .one (.sl TStir)] y).drop 1)) x.1 x.2 := by kernel_rfl
theorem o42 : LoOk Try.prog EL42 or42 Try.f42.ntmps (loopsIn (codeOf Try.f42)) :=
  LoOk.mk (m := 1) (by kernel_rfl) fun i hi => match i, hi with
    | 0, _ => ⟨Llaws_markStirS_l0, by kernel_rfl, laws_markStirS_l0o⟩
    | i + 1, hi => absurd hi (by omega)
theorem k42 : CalleeOk Try.prog 42 c42 := callee_mk Try.func42 (code := codeOf Try.f42) (by kernel_rfl) vL42 mixed o42 fun x y h => (e42 x).trans (p42 _ x.1 x.2 y h)

/-- laws.FnExactRunPile -/
def EL11 : Nat → Option Callee := addE 44 c44 (addE 31 c31 (addE 43 c43 (addE 42 c42 (addE 30 c30 (addE 41 c41 (addE 40 c40 (addE 21 c21 (addE 39 c39 (addE 37 c37 (addE 38 c38 (addE 19 c19 (addE 36 c36 (addE 17 c17 env0)))))))))))))
theorem vL11 : EnvOk Try.prog EL11 := (((((((((((((EnvOk.nil.add Try.func17 rfl (by kernel_rfl) k17).add Try.func36 rfl (by kernel_rfl) k36).add Try.func19 rfl (by kernel_rfl) k19).add Try.func38 rfl (by kernel_rfl) k38).add Try.func37 rfl (by kernel_rfl) k37).add Try.func39 rfl (by kernel_rfl) k39).add Try.func21 rfl (by kernel_rfl) k21).add Try.func40 rfl (by kernel_rfl) k40).add Try.func41 rfl (by kernel_rfl) k41).add Try.func30 rfl (by kernel_rfl) k30).add Try.func42 rfl (by kernel_rfl) k42).add Try.func43 rfl (by kernel_rfl) k43).add Try.func31 rfl (by kernel_rfl) k31).add Try.func44 rfl (by kernel_rfl) k44
def laws_FnExactRunPileK {R : Type} (fin : Bool → Option R) (x0 : DPile) (x1 : List DStir) : Option R :=
  (laws_szPile x0 1048576).bind fun y1 =>
  cond (decide (y1 < 0))
  (fin true)
  ((laws_szStirS x1 y1).bind fun y2 =>
    cond (decide (y2 < 0))
    (fin true)
    ((laws_toPile x0).bind fun y3 =>
      (laws_toStirS x1).bind fun y4 =>
      (spec_RunPile (y3.1, (y3.2.1, (y3.2.2, ()))) y4).bind fun y5 =>
      (laws_toPile x0).bind fun y6 =>
      (laws_toStirS x1).bind fun y7 =>
      (impl_RunPile (y6.1, (y6.2.1, (y6.2.2, ()))) y7).bind fun y8 =>
      (laws_eqPile (y8.1.1, (y8.1.2.1, (y8.1.2.2, ()))) (y5.1.1, (y5.1.2.1, (y5.1.2.2, ())))).bind fun y9 =>
      cond (!y9)
      (fin false)
      ((laws_eqLotS y8.2.1 y5.2.1).bind fun y10 =>
        cond (!y10)
        (fin false)
        (cond (y8.2.2.1 != y5.2.2.1)
          (fin false)
          (cond (!(y8.2.2.2 == y5.2.2.2))
            (fin false)
            ((laws_toPile x0).bind fun y11 =>
              (laws_eqPile (y6.1, (y6.2.1, (y6.2.2, ()))) (y11.1, (y11.2.1, (y11.2.2, ())))).bind fun y12 =>
              cond (!y12)
              (fin false)
              ((laws_toStirS x1).bind fun y13 =>
                (laws_eqStirS y7 y13).bind fun y14 =>
                cond (!y14)
                (fin false)
                ((laws_markPile y6 1).bind fun y15 =>
                  (laws_markStirS y7 y15.1).bind fun y16 =>
                  cond (decide (y16.1 < 0))
                  (fin false)
                  ((laws_eqPile (y8.1.1, (y8.1.2.1, (y8.1.2.2, ()))) (y5.1.1, (y5.1.2.1, (y5.1.2.2, ())))).bind fun y17 =>
                    cond (!y17)
                    (fin false)
                    ((laws_eqLotS y8.2.1 y5.2.1).bind fun y18 =>
                      cond (!y18)
                      (fin false)
                      (cond (y8.2.2.1 != y5.2.2.1)
                        (fin false)
                        (cond (!(y8.2.2.2 == y5.2.2.2))
                          (fin false)
                          ((laws_markPile y8.1 1).bind fun y19 =>
                            (laws_markLotS y8.2.1 y19.1).bind fun y20 =>
                            (laws_heldPile (y8.1.1, (y8.1.2.1, (y19.2.2.2, ()))) 1).bind fun y21 =>
                            cond (decide (y21 < 0))
                            (fin false)
                            ((laws_heldLotS y20.2 y21).bind fun y22 =>
                              cond (decide (y22 < 0))
                              (fin false)
                              (cond (y22 != y20.1)
                                (fin false)
                                ((laws_toPile x0).bind fun y23 =>
                                  (laws_toStirS x1).bind fun y24 =>
                                  (impl_RunPile (y23.1, (y23.2.1, (y23.2.2, ()))) y24).bind fun y25 =>
                                  (laws_eqPile (y25.1.1, (y25.1.2.1, (y25.1.2.2, ()))) (y5.1.1, (y5.1.2.1, (y5.1.2.2, ())))).bind fun y26 =>
                                  cond (!y26)
                                  (fin false)
                                  ((laws_eqLotS y25.2.1 y5.2.1).bind fun y27 =>
                                    cond (!y27)
                                    (fin false)
                                    (cond (y25.2.2.1 != y5.2.2.1)
                                      (fin false)
                                      (cond (!(y25.2.2.2 == y5.2.2.2))
                                        (fin false)
                                        ((laws_heldPile (y8.1.1, (y8.1.2.1, (y19.2.2.2, ()))) 1).bind fun y28 =>
                                          cond (decide (y28 < 0))
                                          (fin false)
                                          ((laws_heldLotS y20.2 y28).bind fun y29 =>
                                            cond (decide (y29 < 0))
                                            (fin false)
                                            (cond (y29 != y20.1)
                                              (fin false)
                                              (fin true)))))))))))))))))))))))
def laws_FnExactRunPile (x0 : DPile) (x1 : List DStir) : Option (Bool) := laws_FnExactRunPileK some x0 x1
theorem p11 {R : Type} (fin : Bool → Option R) (x0 : DPile) (x1 : List DStir) : Par fin (laws_FnExactRunPileK some x0 x1) (laws_FnExactRunPileK fin x0 x1) := by
  unfold laws_FnExactRunPileK
  repeat' (first | exact .fin | exact .none | refine .cond ?_ ?_ | refine .bind fun _ => ?_ | refine .sum (fun _ => ?_) fun _ => ?_)
def c11 : Callee := mkC [.agg [.ro TPile], .one (.ro (.slice TStir))] 1 [.one (.ro .bool)] fun x => laws_FnExactRunPile x.1 x.2
theorem e11 (x : PK.dens [.agg [.ro TPile], .one (.ro (.slice TStir))]) : evalFn Try.prog EL11 or0 Try.f11 (PK.outs [.agg [.ro TPile], .one (.ro (.slice TStir))] x) =
    laws_FnExactRunPileK (fun y => some (tupOf ((PK.outs [.one (.ro .bool)] y).take 1), (PK.outs [.one (.ro .bool)] y).drop 1)) x.1 x.2 := by kernel_rfl
theorem k11 : CalleeOk Try.prog 11 c11 := callee_mk Try.func11 (code := codeOf Try.f11) (by kernel_rfl) vL11 mixed (LoOk.nil (by kernel_rfl)) fun x y h => (e11 x).trans (p11 _ x.1 x.2 y h)

/-- laws.FnLotsBalanced -/
def EL12 : Nat → Option Callee := addE 28 c28 (addE 29 c29 (addE 24 c24 (addE 25 c25 env0)))
theorem vL12 : EnvOk Try.prog EL12 := (((EnvOk.nil.add Try.func25 rfl (by kernel_rfl) k25).add Try.func24 rfl (by kernel_rfl) k24).add Try.func29 rfl (by kernel_rfl) k29).add Try.func28 rfl (by kernel_rfl) k28
def slaws_FnLotsBalanced_l0 : LS := ⟨[(2, .one (.fix (.ptr 0 0))), (5, .one (.dat (.int .i64))), (6, .one (.dat (.int .i64))), (7, .one (.dat .bool)), (48, .one (.dat (.slice TLot))), (49, .one (.dat (.int .i64))), (50, .one (.dat (.int .i64)))], [.box [.dat .bool, .dat (.int .i64), .dat (.slice TLot)]], []⟩
def slaws_FnLotsBalanced_l0x0 : LS := ⟨[(4, .one (.dat .bool))], [], []⟩
def slaws_FnLotsBalanced_l0x1 : LS := ⟨[(2, .one (.fix (.ptr 0 0))), (5, .one (.dat (.int .i64))), (6, .one (.dat (.int .i64))), (7, .one (.dat .bool))], [.box [.dat .bool, .dat (.int .i64), .dat (.slice TLot)]], []⟩
def xlaws_FnLotsBalanced_l0 : List (XS (Bool × (List DLot) × Int)) := [⟨.ret, ⟨[4], [], [], []⟩, slaws_FnLotsBalanced_l0x0, Bool, fun i y => ((y, ()), ())⟩,
  ⟨.exit 0, ⟨[2, 5, 6, 7], [.slot 2], [], []⟩, slaws_FnLotsBalanced_l0x1, Int × Int × Bool × Int × (List DLot), fun i y => (((), (y.1, (y.2.1, (i.1, ())))), ((y.2.2.1, (y.2.2.2.1, (y.2.2.2.2, ()))), ()))⟩]
def laws_FnLotsBalanced_l0K {R : Type} (a3 : List DLot) (a4 : Int) (rc : Int → Int → Int → Bool → Int → List DLot → Option R) (fin : (Bool ⊕ (Int × Int × Bool × Int × (List DLot))) → Option R) (a0 : Int) (a1 : Int) (a5 : Int) (a6 : Bool) (a7 : Int) (a8 : List DLot) : Option R :=
  cond (decide (a5 < a4))
  ((lat a3 a5).bind fun e1 =>
    (impl_PutLot (a6, (a7, (a8, ()))) e1).bind fun y2 =>
    (spec_PutLot (a6, (a7, (a8, ()))) e1).bind fun y3 =>
    cond (!(y2.2 == y3.2))
    (fin (.inl false))
    (cond (!y2.2)
      (fin (.inl true))
      (rc (IntKind.i64.wrap (a0 + e1.1)) (IntKind.i64.wrap (a1 + e1.2.1)) (IntKind.i64.wrap (a5 + 1)) y2.1.1 y2.1.2.1 y2.1.2.2)))
  (fin (.inr (a0, (a1, (a6, (a7, a8))))))
def laws_FnLotsBalanced_l0F (a3 : List DLot) (a4 : Int) (r : (Int × Int × Int × Bool × Int × (List DLot)) → Option (Bool ⊕ (Int × Int × Bool × Int × (List DLot)))) (x : Int × Int × Int × Bool × Int × (List DLot)) : Option (Bool ⊕ (Int × Int × Bool × Int × (List DLot))) := laws_FnLotsBalanced_l0K a3 a4 (fun a0 a1 a5 a6 a7 a8 => r (a0, (a1, (a5, (a6, (a7, a8)))))) some x.1 x.2.1 x.2.2.1 x.2.2.2.1 x.2.2.2.2.1 x.2.2.2.2.2
theorem laws_FnLotsBalanced_l0c (a3 : List DLot) (a4 : Int) (x : Int × Int × Int × Bool × Int × (List DLot)) : Ct fun r => laws_FnLotsBalanced_l0F a3 a4 r x := by
  unfold laws_FnLotsBalanced_l0F laws_FnLotsBalanced_l0K
  repeat' (first | exact Ct.const | exact Ct.call | refine Ct.cond ?_ ?_ | refine Ct.bind ?_ fun _ => ?_ | refine Ct.sum (fun _ => ?_) fun _ => ?_)
def laws_FnLotsBalanced_l0 (a3 : List DLot) (a4 : Int) (a0 : Int) (a1 : Int) (a5 : Int) (a6 : Bool) (a7 : Int) (a8 : List DLot) : Option (Bool ⊕ (Int × Int × Bool × Int × (List DLot))) := lim (laws_FnLotsBalanced_l0F a3 a4) (a0, (a1, (a5, (a6, (a7, a8)))))
theorem laws_FnLotsBalanced_l0_eq (a3 : List DLot) (a4 : Int) (a0 : Int) (a1 : Int) (a5 : Int) (a6 : Bool) (a7 : Int) (a8 : List DLot) : laws_FnLotsBalanced_l0 a3 a4 a0 a1 a5 a6 a7 a8 = laws_FnLotsBalanced_l0K a3 a4 (laws_FnLotsBalanced_l0 a3 a4) some a0 a1 a5 a6 a7 a8 := lim_eq (laws_FnLotsBalanced_l0c a3 a4) (a0, (a1, (a5, (a6, (a7, a8)))))
theorem laws_FnLotsBalanced_l0p {R : Type} (a3 : List DLot) (a4 : Int) {rc : Int → Int → Int → Bool → Int → List DLot → Option (Bool ⊕ (Int × Int × Bool × Int × (List DLot)))} {rc' : Int → Int → Int → Bool → Int → List DLot → Option R} {fin : (Bool ⊕ (Int × Int × Bool × Int × (List DLot))) → Option R} (hr : ∀ a0 a1 a5 a6 a7 a8, Par fin (rc a0 a1 a5 a6 a7 a8) (rc' a0 a1 a5 a6 a7 a8)) (a0 : Int) (a1 : Int) (a5 : Int) (a6 : Bool) (a7 : Int) (a8 : List DLot) : Par fin (laws_FnLotsBalanced_l0K a3 a4 rc some a0 a1 a5 a6 a7 a8) (laws_FnLotsBalanced_l0K a3 a4 rc' fin a0 a1 a5 a6 a7 a8) := by
  unfold laws_FnLotsBalanced_l0K
  repeat' (first | exact .fin | exact .none | exact hr _ _ _ _ _ _ | refine .cond ?_ ?_ | refine .bind fun _ => ?_ | refine .sum (fun _ => ?_) fun _ => ?_)
def Llaws_FnLotsBalanced_l0 : Loop := mkL ⟨[2, 5, 6, 7, 48, 49, 50], [.slot 2], [], [.frz (.cell 2 2)]⟩ slaws_FnLotsBalanced_l0 xlaws_FnLotsBalanced_l0 (fun (x : (Unit × Int × Int × Bool × (List DLot) × Int × Int × Unit) × ((Bool × Int × (List DLot) × Unit) × Unit)) => (x.1.2.2.2.1, (x.1.2.2.2.2.1, x.1.2.2.2.2.2.1))) fun (x : (Unit × Int × Int × Bool × (List DLot) × Int × Int × Unit) × ((Bool × Int × (List DLot) × Unit) × Unit)) => laws_FnLotsBalanced_l0 x.1.2.2.2.2.1 x.1.2.2.2.2.2.1 x.1.2.1 x.1.2.2.1 x.1.2.2.2.2.2.2.1 x.2.1.1 x.2.1.2.1 x.2.1.2.2.1
def laws_FnLotsBalancedK {R : Type} (fin : Bool → Option R) (x0 : DPile) (x1 : List DLot) : Option R :=
  cond (decide ((x1.length : Int) > 65536))
  (fin true)
  ((impl_PileSums x0).bind fun y1 =>
    (spec_PileSums x0).bind fun y2 =>
    cond (!(y1.2.2 == y2.2.2))
    (fin false)
    (cond (y1.1 != y2.1)
      (fin false)
      (cond (y1.2.1 != y2.2.1)
        (fin false)
        ((laws_FnLotsBalanced_l0 x1 (x1.length : Int) y1.1 y1.2.1 0 x0.1 x0.2.1 x0.2.2.1).bind fun y9 =>
          sumO y9 (fun y10 =>
          fin y10)
          (fun y11 =>
          (impl_PileSums (y11.2.2.1, (y11.2.2.2.1, (y11.2.2.2.2, ())))).bind fun y12 =>
            cond (y12.2.2 == y1.2.2)
            (cond (!y1.2.2)
              (fin true)
              (cond (y12.1 == y11.1)
                (fin (y12.2.1 == y11.2.1))
                (fin false)))
            (fin false))))))
def laws_FnLotsBalanced (x0 : DPile) (x1 : List DLot) : Option (Bool) := laws_FnLotsBalancedK some x0 x1
theorem p12 {R : Type} (fin : Bool → Option R) (x0 : DPile) (x1 : List DLot) : Par fin (laws_FnLotsBalancedK some x0 x1) (laws_FnLotsBalancedK fin x0 x1) := by
  unfold laws_FnLotsBalancedK
  repeat' (first | exact .fin | exact .none | refine .cond ?_ ?_ | refine .bind fun _ => ?_ | refine .sum (fun _ => ?_) fun _ => ?_)
def or12 : Ora := { lo := addL 8 (Llaws_FnLotsBalanced_l0) lo0, fin := [] }
theorem laws_FnLotsBalanced_l0e (a2 : Bool) (a3 : List DLot) (a4 : Int) (k : Nat) (a0 : Int) (a1 : Int) (a5 : Int) (a6 : Bool) (a7 : Int) (a8 : List DLot) : loopC Try.prog EL12 or12 ((loopsIn (codeOf Try.f12)).getD 0 .skip) (Llaws_FnLotsBalanced_l0).h (Llaws_FnLotsBalanced_l0).ho Try.f12.ntmps (k + 1) (slaws_FnLotsBalanced_l0.out (((), (a0, (a1, (a2, (a3, (a4, (a5, ()))))))), ((a6, (a7, (a8, ()))), ()))) =
    laws_FnLotsBalanced_l0K a3 a4 (fun a0 a1 a5 a6 a7 a8 => loopC Try.prog EL12 or12 ((loopsIn (codeOf Try.f12)).getD 0 .skip) (Llaws_FnLotsBalanced_l0).h (Llaws_FnLotsBalanced_l0).ho Try.f12.ntmps k (slaws_FnLotsBalanced_l0.out (((), (a0, (a1, (a2, (a3, (a4, (a5, ()))))))), ((a6, (a7, (a8, ()))), ())))) (fun y => some (XS.out xlaws_FnLotsBalanced_l0 (a2, (a3, a4)) y)) a0 a1 a5 a6 a7 a8 := by kernel_rfl
theorem laws_FnLotsBalanced_l0o : LoopOk Try.prog EL12 or12 Try.f12.ntmps ((loopsIn (codeOf Try.f12)).getD 0 .skip) (Llaws_FnLotsBalanced_l0) :=
  loop_lim (hs := slaws_FnLotsBalanced_l0) (xs := xlaws_FnLotsBalanced_l0) (ι := fun (x : (Unit × Int × Int × Bool × (List DLot) × Int × Int × Unit) × ((Bool × Int × (List DLot) × Unit) × Unit)) => (x.1.2.2.2.1, (x.1.2.2.2.2.1, x.1.2.2.2.2.2.1))) (φ := fun (x : (Unit × Int × Int × Bool × (List DLot) × Int × Int × Unit) × ((Bool × Int × (List DLot) × Unit) × Unit)) => (x.1.2.1, (x.1.2.2.1, (x.1.2.2.2.2.2.2.1, (x.2.1.1, (x.2.1.2.1, x.2.1.2.2.1)))))) (ψ := fun (i : Bool × (List DLot) × Int) (v : Int × Int × Int × Bool × Int × (List DLot)) => (((), (v.1, (v.2.1, (i.1, (i.2.1, (i.2.2, (v.2.2.1, ()))))))), ((v.2.2.2.1, (v.2.2.2.2.1, (v.2.2.2.2.2, ()))), ()))) (F := fun (i : Bool × (List DLot) × Int) => laws_FnLotsBalanced_l0F i.2.1 i.2.2) (fun _ => rfl) fun i k hk v => Par.of_eq (laws_FnLotsBalanced_l0e i.1 i.2.1 i.2.2 k v.1 v.2.1 v.2.2.1 v.2.2.2.1 v.2.2.2.2.1 v.2.2.2.2.2) (laws_FnLotsBalanced_l0p i.2.1 i.2.2 (fun a0 a1 a5 a6 a7 a8 => hk (a0, (a1, (a5, (a6, (a7, a8)))))) v.1 v.2.1 v.2.2.1 v.2.2.2.1 v.2.2.2.2.1 v.2.2.2.2.2)
def c12 : Callee := mkC [.agg [.ro TPile], .one (.ro (.slice TLot))] 1 [.one (.ro .bool)] fun x => laws_FnLotsBalanced x.1 x.2
theorem e12 (x : PK.dens [.agg [.ro TPile], .one (.ro (.slice TLot))]) : evalFn Try.prog EL12 or12 Try.f12 (PK.outs [.agg [.ro TPile], .one (.ro (.slice TLot))] x) =
    laws_FnLotsBalancedK (fun y => some (tupOf ((PK.outs [.one (.ro .bool)] y).take 1), (PK.outs [.one (.ro .bool)] y).drop 1)) x.1 x.2 := by kernel_rfl
theorem o12 : LoOk Try.prog EL12 or12 Try.f12.ntmps (loopsIn (codeOf Try.f12)) :=
  LoOk.mk (m := 1) (by kernel_rfl) fun i hi => match i, hi with
    | 0, _ => ⟨Llaws_FnLotsBalanced_l0, by kernel_rfl, laws_FnLotsBalanced_l0o⟩
    | i + 1, hi => absurd hi (by omega)
theorem k12 : CalleeOk Try.prog 12 c12 := callee_mk Try.func12 (code := codeOf Try.f12) (by kernel_rfl) vL12 mixed o12 fun x y h => (e12 x).trans (p12 _ x.1 x.2 y h)
end
end Go.OAI

