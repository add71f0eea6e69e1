/- Contracts. -/
import Derived.Test.YthjlfdaajdlboaaK1
import Derived.Test.YthjlfdaajdlboaaProg
namespace Go.OAI
open Go.Proofs

@[reducible] def T22 : Ty := .pair (.int .i64) (.pair (.int .i64) .unit)
def or0 : Ora := { lo := fun _ => none }
def E0 : Nat → Option Callee := env0
theorem v0 : EnvOk Try.prog E0 := .nil
theorem mixed : Try.prog.follows .mixedOrders = true := by kernel_rfl

/-- laws.toLot -/
def g14K {R : Type} (fin : T22.den → Option R) (x0 : T22.den) : Option R :=
  fin x0
def g14 (x0 : T22.den) : Option (T22.den) := g14K some x0
theorem p14 {R : Type} (fin : T22.den → Option R) (x0 : T22.den) : Par fin (g14 x0) (g14K fin x0) := by
  unfold g14 g14K
  repeat' (first | exact .fin | exact .none | refine .cond ?_ ?_ | refine .bind fun _ => ?_)
def c14 : Callee := mkC [.agg [.ro T22]] 1 [.agg [.ro T22]] fun x => g14 x
theorem e14 (x : PK.dens [.agg [.ro T22]]) : evalFn Try.prog E0 or0 Try.f14 (PK.outs [.agg [.ro T22]] x) =
    g14K (fun y => some (tupOf ((PK.outs [.agg [.ro T22]] y).take 1), (PK.outs [.agg [.ro T22]] y).drop 1)) x := by kernel_rfl
theorem k14 : CalleeOk Try.prog 14 c14 := callee_mk Try.func14 rfl v0 mixed (LoOk.nil rfl) fun x y h => (e14 x).trans (p14 _ x y h)
def E14 : Nat → Option Callee := addE 14 c14 E0
theorem v14 : EnvOk Try.prog E14 := v0.add Try.func14 rfl (by kernel_rfl) k14

/-- spec.l1In -/
def g46K {R : Type} (fin : Bool → Option R) (x0 : Int) (x1 : Int) (x2 : Int) : Option R :=
  cond (decide (x0 ≥ x1))
  (fin (decide (x0 ≤ x2)))
  (fin false)
def g46 (x0 : Int) (x1 : Int) (x2 : Int) : Option (Bool) := g46K some x0 x1 x2
theorem p46 {R : Type} (fin : Bool → Option R) (x0 : Int) (x1 : Int) (x2 : Int) : Par fin (g46 x0 x1 x2) (g46K fin x0 x1 x2) := by
  unfold g46 g46K
  repeat' (first | exact .fin | exact .none | refine .cond ?_ ?_ | refine .bind fun _ => ?_)
def c46 : Callee := mkC [.one (.ro (.int .i64)), .one (.ro (.int .i64)), .one (.ro (.int .i64))] 1 [.one (.ro .bool)] fun x => g46 x.1 x.2.1 x.2.2
theorem e46 (x : PK.dens [.one (.ro (.int .i64)), .one (.ro (.int .i64)), .one (.ro (.int .i64))]) : evalFn Try.prog E14 or0 Try.f46 (PK.outs [.one (.ro (.int .i64)), .one (.ro (.int .i64)), .one (.ro (.int .i64))] x) =
    g46K (fun y => some (tupOf ((PK.outs [.one (.ro .bool)] y).take 1), (PK.outs [.one (.ro .bool)] y).drop 1)) x.1 x.2.1 x.2.2 := by kernel_rfl
theorem k46 : CalleeOk Try.prog 46 c46 := callee_mk Try.func46 rfl v14 mixed (LoOk.nil rfl) fun x y h => (e46 x).trans (p46 _ x.1 x.2.1 x.2.2 y h)
def E46 : Nat → Option Callee := addE 46 c46 E14
theorem v46 : EnvOk Try.prog E46 := v14.add Try.func46 rfl (by kernel_rfl) k46

/-- spec.spLot -/
def g45K {R : Type} (fin : Bool → Option R) (x0 : T22.den) : Option R :=
  (g46 x0.1 1 1000000).bind fun y1 =>
  cond (y1)
  ((g46 x0.2.1 0 (IntKind.i64.wrap (1000 * x0.1))).bind fun y2 =>
    fin y2)
  (fin false)
def g45 (x0 : T22.den) : Option (Bool) := g45K some x0
theorem p45 {R : Type} (fin : Bool → Option R) (x0 : T22.den) : Par fin (g45 x0) (g45K fin x0) := by
  unfold g45 g45K
  repeat' (first | exact .fin | exact .none | refine .cond ?_ ?_ | refine .bind fun _ => ?_)
def c45 : Callee := mkC [.agg [.ro T22]] 1 [.one (.ro .bool)] fun x => g45 x
theorem e45 (x : PK.dens [.agg [.ro T22]]) : evalFn Try.prog E46 or0 Try.f45 (PK.outs [.agg [.ro T22]] x) =
    g45K (fun y => some (tupOf ((PK.outs [.one (.ro .bool)] y).take 1), (PK.outs [.one (.ro .bool)] y).drop 1)) x := by kernel_rfl
theorem k45 : CalleeOk Try.prog 45 c45 := callee_mk Try.func45 rfl v46 mixed (LoOk.nil rfl) fun x y h => (e45 x).trans (p45 _ x y h)
def E45 : Nat → Option Callee := addE 45 c45 E46
theorem v45 : EnvOk Try.prog E45 := v46.add Try.func45 rfl (by kernel_rfl) k45

/-- spec.spSplit -/
def g47K {R : Type} (fin : T22.den × T22.den → Option R) (x0 : T22.den) (x1 : Int) : Option R :=
  cond (decide (x0.1 = 0))
  (none)
  (fin ((x1, (IntKind.i64.wrap ((IntKind.i64.wrap (x0.2.1 * x1)).tdiv x0.1), ())), (IntKind.i64.wrap (x0.1 - x1), (IntKind.i64.wrap (x0.2.1 - (IntKind.i64.wrap ((IntKind.i64.wrap (x0.2.1 * x1)).tdiv x0.1))), ()))))
def g47 (x0 : T22.den) (x1 : Int) : Option (T22.den × T22.den) := g47K some x0 x1
theorem p47 {R : Type} (fin : T22.den × T22.den → Option R) (x0 : T22.den) (x1 : Int) : Par fin (g47 x0 x1) (g47K fin x0 x1) := by
  unfold g47 g47K
  repeat' (first | exact .fin | exact .none | refine .cond ?_ ?_ | refine .bind fun _ => ?_)
def c47 : Callee := mkC [.agg [.ro T22], .one (.ro (.int .i64))] 2 [.agg [.ro T22], .agg [.ro T22]] fun x => g47 x.1 x.2
theorem e47 (x : PK.dens [.agg [.ro T22], .one (.ro (.int .i64))]) : evalFn Try.prog E45 or0 Try.f47 (PK.outs [.agg [.ro T22], .one (.ro (.int .i64))] x) =
    g47K (fun y => some (tupOf ((PK.outs [.agg [.ro T22], .agg [.ro T22]] y).take 2), (PK.outs [.agg [.ro T22], .agg [.ro T22]] y).drop 2)) x.1 x.2 := by kernel_rfl
theorem k47 : CalleeOk Try.prog 47 c47 := callee_mk Try.func47 rfl v45 mixed (LoOk.nil rfl) fun x y h => (e47 x).trans (p47 _ x.1 x.2 y h)
def E47 : Nat → Option Callee := addE 47 c47 E45
theorem v47 : EnvOk Try.prog E47 := v45.add Try.func47 rfl (by kernel_rfl) k47

/-- spec.SplitLot -/
def g13K {R : Type} (fin : T22.den × T22.den × Bool → Option R) (x0 : T22.den) (x1 : Int) : Option R :=
  (g45 x0).bind fun y1 =>
  cond (!y1)
  (fin ((0, (0, ())), ((0, (0, ())), false)))
  ((g46 x1 1 (IntKind.i64.wrap (x0.1 - 1))).bind fun y2 =>
    cond (!y2)
    (fin ((0, (0, ())), ((0, (0, ())), false)))
    ((g47 x0 x1).bind fun y3 =>
      fin (y3.1, (y3.2, true))))
def g13 (x0 : T22.den) (x1 : Int) : Option (T22.den × T22.den × Bool) := g13K some x0 x1
theorem p13 {R : Type} (fin : T22.den × T22.den × Bool → Option R) (x0 : T22.den) (x1 : Int) : Par fin (g13 x0 x1) (g13K fin x0 x1) := by
  unfold g13 g13K
  repeat' (first | exact .fin | exact .none | refine .cond ?_ ?_ | refine .bind fun _ => ?_)
def c13 : Callee := mkC [.agg [.ro T22], .one (.ro (.int .i64))] 3 [.agg [.ro T22], .agg [.ro T22], .one (.ro .bool)] fun x => g13 x.1 x.2
theorem e13 (x : PK.dens [.agg [.ro T22], .one (.ro (.int .i64))]) : evalFn Try.prog E47 or0 Try.f13 (PK.outs [.agg [.ro T22], .one (.ro (.int .i64))] x) =
    g13K (fun y => some (tupOf ((PK.outs [.agg [.ro T22], .agg [.ro T22], .one (.ro .bool)] y).take 3), (PK.outs [.agg [.ro T22], .agg [.ro T22], .one (.ro .bool)] y).drop 3)) x.1 x.2 := by kernel_rfl
theorem k13 : CalleeOk Try.prog 13 c13 := callee_mk Try.func13 rfl v47 mixed (LoOk.nil rfl) fun x y h => (e13 x).trans (p13 _ x.1 x.2 y h)
def E13 : Nat → Option Callee := addE 13 c13 E47
theorem v13 : EnvOk Try.prog E13 := v47.add Try.func13 rfl (by kernel_rfl) k13

/-- impl.isLot -/
def g48K {R : Type} (fin : Bool → Option R) (x0 : T22.den) : Option R :=
  cond (decide (x0.1 ≥ 1))
  (cond (decide (x0.1 ≤ 1000000))
    (cond (decide (x0.2.1 ≥ 0))
      (fin (decide (x0.2.1 ≤ (IntKind.i64.wrap (1000 * x0.1)))))
      (fin false))
    (fin false))
  (fin false)
def g48 (x0 : T22.den) : Option (Bool) := g48K some x0
theorem p48 {R : Type} (fin : Bool → Option R) (x0 : T22.den) : Par fin (g48 x0) (g48K fin x0) := by
  unfold g48 g48K
  repeat' (first | exact .fin | exact .none | refine .cond ?_ ?_ | refine .bind fun _ => ?_)
def c48 : Callee := mkC [.agg [.ro T22]] 1 [.one (.ro .bool)] fun x => g48 x
theorem e48 (x : PK.dens [.agg [.ro T22]]) : evalFn Try.prog E13 or0 Try.f48 (PK.outs [.agg [.ro T22]] x) =
    g48K (fun y => some (tupOf ((PK.outs [.one (.ro .bool)] y).take 1), (PK.outs [.one (.ro .bool)] y).drop 1)) x := by kernel_rfl
theorem k48 : CalleeOk Try.prog 48 c48 := callee_mk Try.func48 rfl v13 mixed (LoOk.nil rfl) fun x y h => (e48 x).trans (p48 _ x y h)
def E48 : Nat → Option Callee := addE 48 c48 E13
theorem v48 : EnvOk Try.prog E48 := v13.add Try.func48 rfl (by kernel_rfl) k48

/-- impl.splitOff -/
def g49K {R : Type} (fin : T22.den → Option R) (x0 : T22.den) (x1 : Int) : Option R :=
  cond (decide (x0.1 = 0))
  (none)
  (fin (x1, (IntKind.i64.wrap ((IntKind.i64.wrap (x0.2.1 * x1)).tdiv x0.1), ())))
def g49 (x0 : T22.den) (x1 : Int) : Option (T22.den) := g49K some x0 x1
theorem p49 {R : Type} (fin : T22.den → Option R) (x0 : T22.den) (x1 : Int) : Par fin (g49 x0 x1) (g49K fin x0 x1) := by
  unfold g49 g49K
  repeat' (first | exact .fin | exact .none | refine .cond ?_ ?_ | refine .bind fun _ => ?_)
def c49 : Callee := mkC [.agg [.ro T22], .one (.ro (.int .i64))] 1 [.agg [.ro T22]] fun x => g49 x.1 x.2
theorem e49 (x : PK.dens [.agg [.ro T22], .one (.ro (.int .i64))]) : evalFn Try.prog E48 or0 Try.f49 (PK.outs [.agg [.ro T22], .one (.ro (.int .i64))] x) =
    g49K (fun y => some (tupOf ((PK.outs [.agg [.ro T22]] y).take 1), (PK.outs [.agg [.ro T22]] y).drop 1)) x.1 x.2 := by kernel_rfl
theorem k49 : CalleeOk Try.prog 49 c49 := callee_mk Try.func49 rfl v48 mixed (LoOk.nil rfl) fun x y h => (e49 x).trans (p49 _ x.1 x.2 y h)
def E49 : Nat → Option Callee := addE 49 c49 E48
theorem v49 : EnvOk Try.prog E49 := v48.add Try.func49 rfl (by kernel_rfl) k49

/-- impl.SplitLot -/
def g15K {R : Type} (fin : T22.den × T22.den × Bool → Option R) (x0 : T22.den) (x1 : Int) : Option R :=
  (g48 x0).bind fun y1 =>
  cond (!y1)
  (fin ((0, (0, ())), ((0, (0, ())), false)))
  (cond (decide (x1 < 1))
    (fin ((0, (0, ())), ((0, (0, ())), false)))
    (cond (decide (x1 ≥ x0.1))
      (fin ((0, (0, ())), ((0, (0, ())), false)))
      ((g49 x0 x1).bind fun y2 =>
        fin (y2, ((IntKind.i64.wrap (x0.1 - y2.1), (IntKind.i64.wrap (x0.2.1 - y2.2.1), ())), true)))))
def g15 (x0 : T22.den) (x1 : Int) : Option (T22.den × T22.den × Bool) := g15K some x0 x1
theorem p15 {R : Type} (fin : T22.den × T22.den × Bool → Option R) (x0 : T22.den) (x1 : Int) : Par fin (g15 x0 x1) (g15K fin x0 x1) := by
  unfold g15 g15K
  repeat' (first | exact .fin | exact .none | refine .cond ?_ ?_ | refine .bind fun _ => ?_)
def c15 : Callee := mkC [.agg [.ro T22], .one (.ro (.int .i64))] 3 [.agg [.ro T22], .agg [.ro T22], .one (.ro .bool)] fun x => g15 x.1 x.2
theorem e15 (x : PK.dens [.agg [.ro T22], .one (.ro (.int .i64))]) : evalFn Try.prog E49 or0 Try.f15 (PK.outs [.agg [.ro T22], .one (.ro (.int .i64))] x) =
    g15K (fun y => some (tupOf ((PK.outs [.agg [.ro T22], .agg [.ro T22], .one (.ro .bool)] y).take 3), (PK.outs [.agg [.ro T22], .agg [.ro T22], .one (.ro .bool)] y).drop 3)) x.1 x.2 := by kernel_rfl
theorem k15 : CalleeOk Try.prog 15 c15 := callee_mk Try.func15 rfl v49 mixed (LoOk.nil rfl) fun x y h => (e15 x).trans (p15 _ x.1 x.2 y h)
def E15 : Nat → Option Callee := addE 15 c15 E49
theorem v15 : EnvOk Try.prog E15 := v49.add Try.func15 rfl (by kernel_rfl) k15

/-- laws.eqLot -/
def g16K {R : Type} (fin : Bool → Option R) (x0 : T22.den) (x1 : T22.den) : Option R :=
  cond (x0.1 != x1.1)
  (fin false)
  (cond (x0.2.1 != x1.2.1)
    (fin false)
    (fin true))
def g16 (x0 : T22.den) (x1 : T22.den) : Option (Bool) := g16K some x0 x1
theorem p16 {R : Type} (fin : Bool → Option R) (x0 : T22.den) (x1 : T22.den) : Par fin (g16 x0 x1) (g16K fin x0 x1) := by
  unfold g16 g16K
  repeat' (first | exact .fin | exact .none | refine .cond ?_ ?_ | refine .bind fun _ => ?_)
def c16 : Callee := mkC [.agg [.ro T22], .agg [.ro T22]] 1 [.one (.ro .bool)] fun x => g16 x.1 x.2
theorem e16 (x : PK.dens [.agg [.ro T22], .agg [.ro T22]]) : evalFn Try.prog E15 or0 Try.f16 (PK.outs [.agg [.ro T22], .agg [.ro T22]] x) =
    g16K (fun y => some (tupOf ((PK.outs [.one (.ro .bool)] y).take 1), (PK.outs [.one (.ro .bool)] y).drop 1)) x.1 x.2 := by kernel_rfl
theorem k16 : CalleeOk Try.prog 16 c16 := callee_mk Try.func16 rfl v15 mixed (LoOk.nil rfl) fun x y h => (e16 x).trans (p16 _ x.1 x.2 y h)
def E16 : Nat → Option Callee := addE 16 c16 E15
theorem v16 : EnvOk Try.prog E16 := v15.add Try.func16 rfl (by kernel_rfl) k16

/-- laws.FnExactSplitLot -/
def g3K {R : Type} (fin : Bool → Option R) (x0 : T22.den) (x1 : Int) : Option R :=
  (g14 x0).bind fun y1 =>
  (g13 y1 x1).bind fun y2 =>
  (g14 x0).bind fun y3 =>
  (g15 y3 x1).bind fun y4 =>
  (g16 y4.1 y2.1).bind fun y5 =>
  cond (!y5)
  (fin false)
  ((g16 y4.2.1 y2.2.1).bind fun y6 =>
    cond (!y6)
    (fin false)
    (cond (!(y4.2.2 == y2.2.2))
      (fin false)
      (fin true)))
def g3 (x0 : T22.den) (x1 : Int) : Option (Bool) := g3K some x0 x1
theorem p3 {R : Type} (fin : Bool → Option R) (x0 : T22.den) (x1 : Int) : Par fin (g3 x0 x1) (g3K fin x0 x1) := by
  unfold g3 g3K
  repeat' (first | exact .fin | exact .none | refine .cond ?_ ?_ | refine .bind fun _ => ?_)
def c3 : Callee := mkC [.agg [.ro T22], .one (.ro (.int .i64))] 1 [.one (.ro .bool)] fun x => g3 x.1 x.2
theorem e3 (x : PK.dens [.agg [.ro T22], .one (.ro (.int .i64))]) : evalFn Try.prog E16 or0 Try.f3 (PK.outs [.agg [.ro T22], .one (.ro (.int .i64))] x) =
    g3K (fun y => some (tupOf ((PK.outs [.one (.ro .bool)] y).take 1), (PK.outs [.one (.ro .bool)] y).drop 1)) x.1 x.2 := by kernel_rfl
theorem k3 : CalleeOk Try.prog 3 c3 := callee_mk Try.func3 rfl v16 mixed (LoOk.nil rfl) fun x y h => (e3 x).trans (p3 _ x.1 x.2 y h)
def E3 : Nat → Option Callee := addE 3 c3 E16
theorem v3 : EnvOk Try.prog E3 := v16.add Try.func3 rfl (by kernel_rfl) k3
end Go.OAI

