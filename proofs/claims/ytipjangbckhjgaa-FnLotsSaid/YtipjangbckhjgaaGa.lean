/- Contracts: Ga. -/
import Derived.Test.YtipjangbckhjgaaK3
import Derived.Test.YtipjangbckhjgaaProg
namespace Go.OAI
open Go.Proofs
set_option linter.unusedVariables false
noncomputable section

@[reducible] def TLot : Ty := .pair (.int .i64) (.pair (.int .i64) .unit)
abbrev DLot : Type := Int × Int × Unit
@[reducible] def TPile : Ty := .pair .bool (.pair (.int .i64) (.pair (.slice TLot) .unit))
abbrev DPile : Type := Bool × Int × (List DLot) × Unit
def or0 : Ora := { lo := fun _ => none }
theorem mixed : Try.prog.follows .mixedOrders = true := by kernel_rfl

/-- laws.big -/
def EL4 : Nat → Option Callee := env0
theorem vL4 : EnvOk Try.prog EL4 := EnvOk.nil
def laws_bigK {R : Type} (fin : Bool → Option R) (x0 : List Int) (x1 : List Int) : Option R :=
  cond (decide ((x0.length : Int) > 1048576))
  (fin true)
  (fin (decide ((x1.length : Int) > (IntKind.i64.wrap (1048576 - (x0.length : Int))))))
def laws_big (x0 : List Int) (x1 : List Int) : Option (Bool) := laws_bigK some x0 x1
theorem p4 {R : Type} (fin : Bool → Option R) (x0 : List Int) (x1 : List Int) : Par fin (laws_bigK some x0 x1) (laws_bigK fin x0 x1) := by
  unfold laws_bigK
  repeat' (first | exact .fin | exact .none | refine .cond ?_ ?_ | refine .bind fun _ => ?_ | refine .sum (fun _ => ?_) fun _ => ?_)
def c4 : Callee := mkC [.one (.ro (.slice (.int .u8))), .one (.ro (.slice (.int .u8)))] 1 [.one (.ro .bool)] fun x => laws_big x.1 x.2
theorem e4 (x : PK.dens [.one (.ro (.slice (.int .u8))), .one (.ro (.slice (.int .u8)))]) : evalFn Try.prog EL4 or0 Try.f4 (PK.outs [.one (.ro (.slice (.int .u8))), .one (.ro (.slice (.int .u8)))] x) =
    laws_bigK (fun y => some (tupOf ((PK.outs [.one (.ro .bool)] y).take 1), (PK.outs [.one (.ro .bool)] y).drop 1)) x.1 x.2 := by kernel_rfl
theorem k4 : CalleeOk Try.prog 4 c4 := callee_mk Try.func4 (code := codeOf Try.f4) (by kernel_rfl) vL4 mixed (LoOk.nil (by kernel_rfl)) fun x y h => (e4 x).trans (p4 _ x.1 x.2 y h)

/-- spec.l1Cur).next -/
def EL50 : Nat → Option Callee := env0
theorem vL50 : EnvOk Try.prog EL50 := EnvOk.nil
def spec_l1Cur_nextK {R : Type} (fin : Int × ((List Int) × Int × Int) → Option R) (x0 : (List Int) × Int × Int) : Option R :=
  cond (decide (x0.2.1 < (x0.1.length : Int)))
  ((lat x0.1 x0.2.1).bind fun e1 =>
    (some (IntKind.u64.wrap ((IntKind.u64.wrap (x0.2.2 * 6364136223846793005)) + (IntKind.u64.wrap (IntKind.i64.wrap e1))))).bind fun v2 =>
    cond (decide ((IntKind.i64.wrap (x0.2.1 + 1)) ≤ (x0.1.length : Int)))
    (fin (IntKind.i64.wrap e1, (x0.1, (IntKind.i64.wrap (x0.2.1 + 1), IntKind.u64.wrap (v2 + 1442695040888963407)))))
    ((some (andI .u64 (shrI .u64 (IntKind.u64.wrap (v2 + 1442695040888963407)) 40) 255)).bind fun v3 =>
      fin (IntKind.i64.wrap v3, (x0.1, (IntKind.i64.wrap (x0.2.1 + 1), IntKind.u64.wrap (v2 + 1442695040888963407))))))
  ((some (IntKind.u64.wrap ((IntKind.u64.wrap (x0.2.2 * 6364136223846793005)) + (IntKind.u64.wrap 0)))).bind fun v4 =>
    cond (decide ((IntKind.i64.wrap (x0.2.1 + 1)) ≤ (x0.1.length : Int)))
    (fin (0, (x0.1, (IntKind.i64.wrap (x0.2.1 + 1), IntKind.u64.wrap (v4 + 1442695040888963407)))))
    ((some (andI .u64 (shrI .u64 (IntKind.u64.wrap (v4 + 1442695040888963407)) 40) 255)).bind fun v5 =>
      fin (IntKind.i64.wrap v5, (x0.1, (IntKind.i64.wrap (x0.2.1 + 1), IntKind.u64.wrap (v4 + 1442695040888963407))))))
def spec_l1Cur_next (x0 : (List Int) × Int × Int) : Option (Int × ((List Int) × Int × Int)) := spec_l1Cur_nextK some x0
theorem p50 {R : Type} (fin : Int × ((List Int) × Int × Int) → Option R) (x0 : (List Int) × Int × Int) : Par fin (spec_l1Cur_nextK some x0) (spec_l1Cur_nextK fin x0) := by
  unfold spec_l1Cur_nextK
  repeat' (first | exact .fin | exact .none | refine .cond ?_ ?_ | refine .bind fun _ => ?_ | refine .sum (fun _ => ?_) fun _ => ?_)
def c50 : Callee := mkC [.box [.ro (.slice (.int .u8)), .ro (.int .i64), .ro (.int .u64)]] 1 [.one (.ro (.int .i64)), .box [.ro (.slice (.int .u8)), .ro (.int .i64), .ro (.int .u64)]] fun x => spec_l1Cur_next x
theorem e50 (x : PK.dens [.box [.ro (.slice (.int .u8)), .ro (.int .i64), .ro (.int .u64)]]) : evalFn Try.prog EL50 or0 Try.f50 (PK.outs [.box [.ro (.slice (.int .u8)), .ro (.int .i64), .ro (.int .u64)]] x) =
    spec_l1Cur_nextK (fun y => some (tupOf ((PK.outs [.one (.ro (.int .i64)), .box [.ro (.slice (.int .u8)), .ro (.int .i64), .ro (.int .u64)]] y).take 1), (PK.outs [.one (.ro (.int .i64)), .box [.ro (.slice (.int .u8)), .ro (.int .i64), .ro (.int .u64)]] y).drop 1)) x := by kernel_rfl
theorem k50 : CalleeOk Try.prog 50 c50 := callee_mk Try.func50 (code := codeOf Try.f50) (by kernel_rfl) vL50 mixed (LoOk.nil (by kernel_rfl)) fun x y h => (e50 x).trans (p50 _ x y h)

/-- spec.l1Cur).pick -/
def EL48 : Nat → Option Callee := addE 50 c50 env0
theorem vL48 : EnvOk Try.prog EL48 := EnvOk.nil.add Try.func50 rfl (by kernel_rfl) k50
def spec_l1Cur_pickK {R : Type} (fin : Int × ((List Int) × Int × Int) → Option R) (x0 : (List Int) × Int × Int) (x1 : Int) : Option R :=
  cond (decide (x1 ≤ 1))
  (fin (0, x0))
  ((spec_l1Cur_next x0).bind fun y1 =>
    cond (decide (x1 > 200))
    ((spec_l1Cur_next y1.2).bind fun y2 =>
      cond (decide (x1 = 0))
      (none)
      (fin ((IntKind.i64.wrap ((IntKind.i64.wrap (y1.1 * 256)) + y2.1)).tmod x1, y2.2)))
    (cond (decide (x1 = 0))
      (none)
      (fin (y1.1.tmod x1, y1.2))))
def spec_l1Cur_pick (x0 : (List Int) × Int × Int) (x1 : Int) : Option (Int × ((List Int) × Int × Int)) := spec_l1Cur_pickK some x0 x1
theorem p48 {R : Type} (fin : Int × ((List Int) × Int × Int) → Option R) (x0 : (List Int) × Int × Int) (x1 : Int) : Par fin (spec_l1Cur_pickK some x0 x1) (spec_l1Cur_pickK fin x0 x1) := by
  unfold spec_l1Cur_pickK
  repeat' (first | exact .fin | exact .none | refine .cond ?_ ?_ | refine .bind fun _ => ?_ | refine .sum (fun _ => ?_) fun _ => ?_)
def c48 : Callee := mkC [.box [.ro (.slice (.int .u8)), .ro (.int .i64), .ro (.int .u64)], .one (.ro (.int .i64))] 1 [.one (.ro (.int .i64)), .box [.ro (.slice (.int .u8)), .ro (.int .i64), .ro (.int .u64)]] fun x => spec_l1Cur_pick x.1 x.2
theorem e48 (x : PK.dens [.box [.ro (.slice (.int .u8)), .ro (.int .i64), .ro (.int .u64)], .one (.ro (.int .i64))]) : evalFn Try.prog EL48 or0 Try.f48 (PK.outs [.box [.ro (.slice (.int .u8)), .ro (.int .i64), .ro (.int .u64)], .one (.ro (.int .i64))] x) =
    spec_l1Cur_pickK (fun y => some (tupOf ((PK.outs [.one (.ro (.int .i64)), .box [.ro (.slice (.int .u8)), .ro (.int .i64), .ro (.int .u64)]] y).take 1), (PK.outs [.one (.ro (.int .i64)), .box [.ro (.slice (.int .u8)), .ro (.int .i64), .ro (.int .u64)]] y).drop 1)) x.1 x.2 := by kernel_rfl
theorem k48 : CalleeOk Try.prog 48 c48 := callee_mk Try.func48 (code := codeOf Try.f48) (by kernel_rfl) vL48 mixed (LoOk.nil (by kernel_rfl)) fun x y h => (e48 x).trans (p48 _ x.1 x.2 y h)

/-- spec.l1Cur).one -/
def EL47 : Nat → Option Callee := addE 48 c48 env0
theorem vL47 : EnvOk Try.prog EL47 := EnvOk.nil.add Try.func48 rfl (by kernel_rfl) k48
def spec_l1Cur_oneK {R : Type} (fin : Bool × ((List Int) × Int × Int) → Option R) (x0 : (List Int) × Int × Int) (x1 : Int) : Option R :=
  (spec_l1Cur_pick x0 x1).bind fun y1 =>
  fin (y1.1 == 0, y1.2)
def spec_l1Cur_one (x0 : (List Int) × Int × Int) (x1 : Int) : Option (Bool × ((List Int) × Int × Int)) := spec_l1Cur_oneK some x0 x1
theorem p47 {R : Type} (fin : Bool × ((List Int) × Int × Int) → Option R) (x0 : (List Int) × Int × Int) (x1 : Int) : Par fin (spec_l1Cur_oneK some x0 x1) (spec_l1Cur_oneK fin x0 x1) := by
  unfold spec_l1Cur_oneK
  repeat' (first | exact .fin | exact .none | refine .cond ?_ ?_ | refine .bind fun _ => ?_ | refine .sum (fun _ => ?_) fun _ => ?_)
def c47 : Callee := mkC [.box [.ro (.slice (.int .u8)), .ro (.int .i64), .ro (.int .u64)], .one (.ro (.int .i64))] 1 [.one (.ro .bool), .box [.ro (.slice (.int .u8)), .ro (.int .i64), .ro (.int .u64)]] fun x => spec_l1Cur_one x.1 x.2
theorem e47 (x : PK.dens [.box [.ro (.slice (.int .u8)), .ro (.int .i64), .ro (.int .u64)], .one (.ro (.int .i64))]) : evalFn Try.prog EL47 or0 Try.f47 (PK.outs [.box [.ro (.slice (.int .u8)), .ro (.int .i64), .ro (.int .u64)], .one (.ro (.int .i64))] x) =
    spec_l1Cur_oneK (fun y => some (tupOf ((PK.outs [.one (.ro .bool), .box [.ro (.slice (.int .u8)), .ro (.int .i64), .ro (.int .u64)]] y).take 1), (PK.outs [.one (.ro .bool), .box [.ro (.slice (.int .u8)), .ro (.int .i64), .ro (.int .u64)]] y).drop 1)) x.1 x.2 := by kernel_rfl
theorem k47 : CalleeOk Try.prog 47 c47 := callee_mk Try.func47 (code := codeOf Try.f47) (by kernel_rfl) vL47 mixed (LoOk.nil (by kernel_rfl)) fun x y h => (e47 x).trans (p47 _ x.1 x.2 y h)

/-- spec.l1Cur).among -/
def EL26 : Nat → Option Callee := addE 48 c48 env0
theorem vL26 : EnvOk Try.prog EL26 := EnvOk.nil.add Try.func48 rfl (by kernel_rfl) k48
def spec_l1Cur_amongK {R : Type} (fin : Int × ((List Int) × Int × Int) → Option R) (x0 : (List Int) × Int × Int) (x1 : List Int) : Option R :=
  (spec_l1Cur_pick x0 (x1.length : Int)).bind fun y1 =>
  (lat x1 y1.1).bind fun e2 =>
  fin (e2, y1.2)
def spec_l1Cur_among (x0 : (List Int) × Int × Int) (x1 : List Int) : Option (Int × ((List Int) × Int × Int)) := spec_l1Cur_amongK some x0 x1
theorem p26 {R : Type} (fin : Int × ((List Int) × Int × Int) → Option R) (x0 : (List Int) × Int × Int) (x1 : List Int) : Par fin (spec_l1Cur_amongK some x0 x1) (spec_l1Cur_amongK fin x0 x1) := by
  unfold spec_l1Cur_amongK
  repeat' (first | exact .fin | exact .none | refine .cond ?_ ?_ | refine .bind fun _ => ?_ | refine .sum (fun _ => ?_) fun _ => ?_)
def c26 : Callee := mkC [.box [.ro (.slice (.int .u8)), .ro (.int .i64), .ro (.int .u64)], .one (.ro (.slice (.int .i64)))] 1 [.one (.ro (.int .i64)), .box [.ro (.slice (.int .u8)), .ro (.int .i64), .ro (.int .u64)]] fun x => spec_l1Cur_among x.1 x.2
theorem e26 (x : PK.dens [.box [.ro (.slice (.int .u8)), .ro (.int .i64), .ro (.int .u64)], .one (.ro (.slice (.int .i64)))]) : evalFn Try.prog EL26 or0 Try.f26 (PK.outs [.box [.ro (.slice (.int .u8)), .ro (.int .i64), .ro (.int .u64)], .one (.ro (.slice (.int .i64)))] x) =
    spec_l1Cur_amongK (fun y => some (tupOf ((PK.outs [.one (.ro (.int .i64)), .box [.ro (.slice (.int .u8)), .ro (.int .i64), .ro (.int .u64)]] y).take 1), (PK.outs [.one (.ro (.int .i64)), .box [.ro (.slice (.int .u8)), .ro (.int .i64), .ro (.int .u64)]] y).drop 1)) x.1 x.2 := by kernel_rfl
theorem k26 : CalleeOk Try.prog 26 c26 := callee_mk Try.func26 (code := codeOf Try.f26) (by kernel_rfl) vL26 mixed (LoOk.nil (by kernel_rfl)) fun x y h => (e26 x).trans (p26 _ x.1 x.2 y h)

/-- spec.l1Most -/
def EL27 : Nat → Option Callee := env0
theorem vL27 : EnvOk Try.prog EL27 := EnvOk.nil
def spec_l1MostK {R : Type} (fin : Int → Option R) (x0 : Int) (x1 : Int) : Option R :=
  cond (decide (x0 > x1))
  (fin x0)
  (fin x1)
def spec_l1Most (x0 : Int) (x1 : Int) : Option (Int) := spec_l1MostK some x0 x1
theorem p27 {R : Type} (fin : Int → Option R) (x0 : Int) (x1 : Int) : Par fin (spec_l1MostK some x0 x1) (spec_l1MostK fin x0 x1) := by
  unfold spec_l1MostK
  repeat' (first | exact .fin | exact .none | refine .cond ?_ ?_ | refine .bind fun _ => ?_ | refine .sum (fun _ => ?_) fun _ => ?_)
def c27 : Callee := mkC [.one (.ro (.int .i64)), .one (.ro (.int .i64))] 1 [.one (.ro (.int .i64))] fun x => spec_l1Most x.1 x.2
theorem e27 (x : PK.dens [.one (.ro (.int .i64)), .one (.ro (.int .i64))]) : evalFn Try.prog EL27 or0 Try.f27 (PK.outs [.one (.ro (.int .i64)), .one (.ro (.int .i64))] x) =
    spec_l1MostK (fun y => some (tupOf ((PK.outs [.one (.ro (.int .i64))] y).take 1), (PK.outs [.one (.ro (.int .i64))] y).drop 1)) x.1 x.2 := by kernel_rfl
theorem k27 : CalleeOk Try.prog 27 c27 := callee_mk Try.func27 (code := codeOf Try.f27) (by kernel_rfl) vL27 mixed (LoOk.nil (by kernel_rfl)) fun x y h => (e27 x).trans (p27 _ x.1 x.2 y h)

/-- spec.l1Cur).lot -/
def EL34 : Nat → Option Callee := addE 27 c27 (addE 47 c47 (addE 26 c26 (addE 48 c48 env0)))
theorem vL34 : EnvOk Try.prog EL34 := (((EnvOk.nil.add Try.func48 rfl (by kernel_rfl) k48).add Try.func26 rfl (by kernel_rfl) k26).add Try.func47 rfl (by kernel_rfl) k47).add Try.func27 rfl (by kernel_rfl) k27
def spec_l1Cur_lotK {R : Type} (fin : DLot × ((List Int) × Int × Int) → Option R) (x0 : (List Int) × Int × Int) : Option R :=
  (spec_l1Cur_pick x0 900).bind fun y1 =>
  (spec_l1Cur_among y1.2 [1, 50, 100, 100, 300, IntKind.i64.wrap (1 + y1.1)]).bind fun y2 =>
  (spec_l1Cur_among y2.2 [0, 1, 5, 10, 40, 1000]).bind fun y3 =>
  (spec_l1Cur_one y3.2 4).bind fun y4 =>
  cond (y4.1)
  ((spec_l1Cur_pick y4.2 9).bind fun y5 =>
    (spec_l1Most 0 (IntKind.i64.wrap ((IntKind.i64.wrap (y2.1 * y3.1)) - y5.1))).bind fun y6 =>
    (spec_l1Cur_pick y5.2 40).bind fun y7 =>
    cond (y7.1 == 0)
    ((spec_l1Cur_among y7.2 [0, (-1), 1000000, 1000001]).bind fun y8 =>
      fin ((y8.1, (y6, ())), y8.2))
    (cond (y7.1 == 1)
      ((spec_l1Cur_among y7.2 [(-1), IntKind.i64.wrap (1000 * y2.1), IntKind.i64.wrap ((IntKind.i64.wrap (1000 * y2.1)) + 1)]).bind fun y9 =>
        fin ((y2.1, (y9.1, ())), y9.2))
      (fin ((y2.1, (y6, ())), y7.2))))
  ((spec_l1Cur_pick y4.2 40).bind fun y10 =>
    cond (y10.1 == 0)
    ((spec_l1Cur_among y10.2 [0, (-1), 1000000, 1000001]).bind fun y11 =>
      fin ((y11.1, (IntKind.i64.wrap (y2.1 * y3.1), ())), y11.2))
    (cond (y10.1 == 1)
      ((spec_l1Cur_among y10.2 [(-1), IntKind.i64.wrap (1000 * y2.1), IntKind.i64.wrap ((IntKind.i64.wrap (1000 * y2.1)) + 1)]).bind fun y12 =>
        fin ((y2.1, (y12.1, ())), y12.2))
      (fin ((y2.1, (IntKind.i64.wrap (y2.1 * y3.1), ())), y10.2))))
def spec_l1Cur_lot (x0 : (List Int) × Int × Int) : Option (DLot × ((List Int) × Int × Int)) := spec_l1Cur_lotK some x0
theorem p34 {R : Type} (fin : DLot × ((List Int) × Int × Int) → Option R) (x0 : (List Int) × Int × Int) : Par fin (spec_l1Cur_lotK some x0) (spec_l1Cur_lotK fin x0) := by
  unfold spec_l1Cur_lotK
  repeat' (first | exact .fin | exact .none | refine .cond ?_ ?_ | refine .bind fun _ => ?_ | refine .sum (fun _ => ?_) fun _ => ?_)
def c34 : Callee := mkC [.box [.ro (.slice (.int .u8)), .ro (.int .i64), .ro (.int .u64)]] 1 [.agg [.ro TLot], .box [.ro (.slice (.int .u8)), .ro (.int .i64), .ro (.int .u64)]] fun x => spec_l1Cur_lot x
theorem e34 (x : PK.dens [.box [.ro (.slice (.int .u8)), .ro (.int .i64), .ro (.int .u64)]]) : evalFn Try.prog EL34 or0 Try.f34 (PK.outs [.box [.ro (.slice (.int .u8)), .ro (.int .i64), .ro (.int .u64)]] x) =
    spec_l1Cur_lotK (fun y => some (tupOf ((PK.outs [.agg [.ro TLot], .box [.ro (.slice (.int .u8)), .ro (.int .i64), .ro (.int .u64)]] y).take 1), (PK.outs [.agg [.ro TLot], .box [.ro (.slice (.int .u8)), .ro (.int .i64), .ro (.int .u64)]] y).drop 1)) x := by kernel_rfl
theorem k34 : CalleeOk Try.prog 34 c34 := callee_mk Try.func34 (code := codeOf Try.f34) (by kernel_rfl) vL34 mixed (LoOk.nil (by kernel_rfl)) fun x y h => (e34 x).trans (p34 _ x y h)

/-- spec.spWith -/
def EL42 : Nat → Option Callee := env0
theorem vL42 : EnvOk Try.prog EL42 := EnvOk.nil
def spec_spWithK {R : Type} (fin : Bool × Int × (List DLot) → Option R) (x0 : DPile) (x1 : List DLot) : Option R :=
  cond (decide (([] : List DLot).length + x1.length ≤ 1099511627776))
  (fin (x0.1, (x0.2.1, ([] : List DLot) ++ x1)))
  (none)
def spec_spWith (x0 : DPile) (x1 : List DLot) : Option (Bool × Int × (List DLot)) := spec_spWithK some x0 x1
theorem p42 {R : Type} (fin : Bool × Int × (List DLot) → Option R) (x0 : DPile) (x1 : List DLot) : Par fin (spec_spWithK some x0 x1) (spec_spWithK fin x0 x1) := by
  unfold spec_spWithK
  repeat' (first | exact .fin | exact .none | refine .cond ?_ ?_ | refine .bind fun _ => ?_ | refine .sum (fun _ => ?_) fun _ => ?_)
def c42 : Callee := mkC [.agg [.ro TPile], .one (.ro (.slice TLot))] 1 [.agg [.ro .bool, .ro (.int .i64), .sl TLot]] fun x => spec_spWith x.1 x.2
theorem e42 (x : PK.dens [.agg [.ro TPile], .one (.ro (.slice TLot))]) : evalFn Try.prog EL42 or0 Try.f42 (PK.outs [.agg [.ro TPile], .one (.ro (.slice TLot))] x) =
    spec_spWithK (fun y => some (tupOf ((PK.outs [.agg [.ro .bool, .ro (.int .i64), .sl TLot]] y).take 1), (PK.outs [.agg [.ro .bool, .ro (.int .i64), .sl TLot]] y).drop 1)) x.1 x.2 := by kernel_rfl
theorem k42 : CalleeOk Try.prog 42 c42 := callee_mk Try.func42 (code := codeOf Try.f42) (by kernel_rfl) vL42 mixed (LoOk.nil (by kernel_rfl)) fun x y h => (e42 x).trans (p42 _ x.1 x.2 y h)

/-- spec.l1In -/
def EL38 : Nat → Option Callee := env0
theorem vL38 : EnvOk Try.prog EL38 := EnvOk.nil
def spec_l1InK {R : Type} (fin : Bool → Option R) (x0 : Int) (x1 : Int) (x2 : Int) : Option R :=
  cond (decide (x0 ≥ x1))
  (fin (decide (x0 ≤ x2)))
  (fin false)
def spec_l1In (x0 : Int) (x1 : Int) (x2 : Int) : Option (Bool) := spec_l1InK some x0 x1 x2
theorem p38 {R : Type} (fin : Bool → Option R) (x0 : Int) (x1 : Int) (x2 : Int) : Par fin (spec_l1InK some x0 x1 x2) (spec_l1InK fin x0 x1 x2) := by
  unfold spec_l1InK
  repeat' (first | exact .fin | exact .none | refine .cond ?_ ?_ | refine .bind fun _ => ?_ | refine .sum (fun _ => ?_) fun _ => ?_)
def c38 : Callee := mkC [.one (.ro (.int .i64)), .one (.ro (.int .i64)), .one (.ro (.int .i64))] 1 [.one (.ro .bool)] fun x => spec_l1In x.1 x.2.1 x.2.2
theorem e38 (x : PK.dens [.one (.ro (.int .i64)), .one (.ro (.int .i64)), .one (.ro (.int .i64))]) : evalFn Try.prog EL38 or0 Try.f38 (PK.outs [.one (.ro (.int .i64)), .one (.ro (.int .i64)), .one (.ro (.int .i64))] x) =
    spec_l1InK (fun y => some (tupOf ((PK.outs [.one (.ro .bool)] y).take 1), (PK.outs [.one (.ro .bool)] y).drop 1)) x.1 x.2.1 x.2.2 := by kernel_rfl
theorem k38 : CalleeOk Try.prog 38 c38 := callee_mk Try.func38 (code := codeOf Try.f38) (by kernel_rfl) vL38 mixed (LoOk.nil (by kernel_rfl)) fun x y h => (e38 x).trans (p38 _ x.1 x.2.1 x.2.2 y h)

/-- spec.spLot -/
def EL37 : Nat → Option Callee := addE 38 c38 env0
theorem vL37 : EnvOk Try.prog EL37 := EnvOk.nil.add Try.func38 rfl (by kernel_rfl) k38
def spec_spLotK {R : Type} (fin : Bool → Option R) (x0 : DLot) : Option R :=
  (spec_l1In x0.1 1 1000000).bind fun y1 =>
  cond (y1)
  ((spec_l1In x0.2.1 0 (IntKind.i64.wrap (1000 * x0.1))).bind fun y2 =>
    fin y2)
  (fin false)
def spec_spLot (x0 : DLot) : Option (Bool) := spec_spLotK some x0
theorem p37 {R : Type} (fin : Bool → Option R) (x0 : DLot) : Par fin (spec_spLotK some x0) (spec_spLotK fin x0) := by
  unfold spec_spLotK
  repeat' (first | exact .fin | exact .none | refine .cond ?_ ?_ | refine .bind fun _ => ?_ | refine .sum (fun _ => ?_) fun _ => ?_)
def c37 : Callee := mkC [.agg [.ro TLot]] 1 [.one (.ro .bool)] fun x => spec_spLot x
theorem e37 (x : PK.dens [.agg [.ro TLot]]) : evalFn Try.prog EL37 or0 Try.f37 (PK.outs [.agg [.ro TLot]] x) =
    spec_spLotK (fun y => some (tupOf ((PK.outs [.one (.ro .bool)] y).take 1), (PK.outs [.one (.ro .bool)] y).drop 1)) x := by kernel_rfl
theorem k37 : CalleeOk Try.prog 37 c37 := callee_mk Try.func37 (code := codeOf Try.f37) (by kernel_rfl) vL37 mixed (LoOk.nil (by kernel_rfl)) fun x y h => (e37 x).trans (p37 _ x y h)

/-- spec.spSums -/
def EL25 : Nat → Option Callee := env0
theorem vL25 : EnvOk Try.prog EL25 := EnvOk.nil
def sspec_spSums_l0 : LS := ⟨[(4, .one (.dat (.int .i64))), (5, .one (.dat (.int .i64))), (8, .one (.dat (.slice TLot))), (9, .one (.dat (.int .i64))), (10, .one (.dat (.int .i64)))], [], []⟩
def sspec_spSums_l0x0 : LS := ⟨[(4, .one (.dat (.int .i64))), (5, .one (.dat (.int .i64)))], [], []⟩
def xspec_spSums_l0 : List (XS ((List DLot) × Int)) := [⟨.exit 0, ⟨[4, 5], [], [], []⟩, sspec_spSums_l0x0, Int × Int, fun i y => ((y.1, (y.2, ())), ())⟩]
def spec_spSums_l0K {R : Type} (a2 : List DLot) (a3 : Int) (rc : Int → Int → Int → Option R) (fin : Int × Int → Option R) (a0 : Int) (a1 : Int) (a4 : Int) : Option R :=
  cond (decide (a4 < a3))
  ((lat a2 a4).bind fun e1 =>
    rc (IntKind.i64.wrap (a0 + e1.1)) (IntKind.i64.wrap (a1 + e1.2.1)) (IntKind.i64.wrap (a4 + 1)))
  (fin (a0, a1))
def spec_spSums_l0F (a2 : List DLot) (a3 : Int) (r : (Int × Int × Int) → Option (Int × Int)) (x : Int × Int × Int) : Option (Int × Int) := spec_spSums_l0K a2 a3 (fun a0 a1 a4 => r (a0, (a1, a4))) some x.1 x.2.1 x.2.2
theorem spec_spSums_l0c (a2 : List DLot) (a3 : Int) (x : Int × Int × Int) : Ct fun r => spec_spSums_l0F a2 a3 r x := by
  unfold spec_spSums_l0F spec_spSums_l0K
  repeat' (first | exact Ct.const | exact Ct.call | refine Ct.cond ?_ ?_ | refine Ct.bind ?_ fun _ => ?_ | refine Ct.sum (fun _ => ?_) fun _ => ?_)
def spec_spSums_l0 (a2 : List DLot) (a3 : Int) (a0 : Int) (a1 : Int) (a4 : Int) : Option (Int × Int) := lim (spec_spSums_l0F a2 a3) (a0, (a1, a4))
theorem spec_spSums_l0_eq (a2 : List DLot) (a3 : Int) (a0 : Int) (a1 : Int) (a4 : Int) : spec_spSums_l0 a2 a3 a0 a1 a4 = spec_spSums_l0K a2 a3 (spec_spSums_l0 a2 a3) some a0 a1 a4 := lim_eq (spec_spSums_l0c a2 a3) (a0, (a1, a4))
theorem spec_spSums_l0p {R : Type} (a2 : List DLot) (a3 : Int) {rc : Int → Int → Int → Option (Int × Int)} {rc' : Int → Int → Int → Option R} {fin : Int × Int → Option R} (hr : ∀ a0 a1 a4, Par fin (rc a0 a1 a4) (rc' a0 a1 a4)) (a0 : Int) (a1 : Int) (a4 : Int) : Par fin (spec_spSums_l0K a2 a3 rc some a0 a1 a4) (spec_spSums_l0K a2 a3 rc' fin a0 a1 a4) := by
  unfold spec_spSums_l0K
  repeat' (first | exact .fin | exact .none | exact hr _ _ _ | refine .cond ?_ ?_ | refine .bind fun _ => ?_ | refine .sum (fun _ => ?_) fun _ => ?_)
def Lspec_spSums_l0 : Loop := mkL ⟨[4, 5, 8, 9, 10], [], [], []⟩ sspec_spSums_l0 xspec_spSums_l0 (fun (x : (Int × Int × (List DLot) × Int × Int × Unit) × (Unit)) => (x.1.2.2.1, x.1.2.2.2.1)) fun (x : (Int × Int × (List DLot) × Int × Int × Unit) × (Unit)) => spec_spSums_l0 x.1.2.2.1 x.1.2.2.2.1 x.1.1 x.1.2.1 x.1.2.2.2.2.1
def spec_spSumsK {R : Type} (fin : Int × Int → Option R) (x0 : List DLot) : Option R :=
  (spec_spSums_l0 x0 (x0.length : Int) 0 0 0).bind fun y2 =>
  fin y2
def spec_spSums (x0 : List DLot) : Option (Int × Int) := spec_spSumsK some x0
theorem p25 {R : Type} (fin : Int × Int → Option R) (x0 : List DLot) : Par fin (spec_spSumsK some x0) (spec_spSumsK fin x0) := by
  unfold spec_spSumsK
  repeat' (first | exact .fin | exact .none | refine .cond ?_ ?_ | refine .bind fun _ => ?_ | refine .sum (fun _ => ?_) fun _ => ?_)
def or25 : Ora := { lo := addL 3 (Lspec_spSums_l0) lo0, fin := [] }
theorem spec_spSums_l0e (a2 : List DLot) (a3 : Int) (k : Nat) (a0 : Int) (a1 : Int) (a4 : Int) : loopC Try.prog EL25 or25 ((loopsIn (codeOf Try.f25)).getD 0 .skip) (Lspec_spSums_l0).h (Lspec_spSums_l0).ho Try.f25.ntmps (k + 1) (sspec_spSums_l0.out ((a0, (a1, (a2, (a3, (a4, ()))))), ())) =
    spec_spSums_l0K a2 a3 (fun a0 a1 a4 => loopC Try.prog EL25 or25 ((loopsIn (codeOf Try.f25)).getD 0 .skip) (Lspec_spSums_l0).h (Lspec_spSums_l0).ho Try.f25.ntmps k (sspec_spSums_l0.out ((a0, (a1, (a2, (a3, (a4, ()))))), ()))) (fun y => some (XS.out xspec_spSums_l0 (a2, a3) y)) a0 a1 a4 := by kernel_rfl
theorem spec_spSums_l0o : LoopOk Try.prog EL25 or25 Try.f25.ntmps ((loopsIn (codeOf Try.f25)).getD 0 .skip) (Lspec_spSums_l0) :=
  loop_lim (hs := sspec_spSums_l0) (xs := xspec_spSums_l0) (ι := fun (x : (Int × Int × (List DLot) × Int × Int × Unit) × (Unit)) => (x.1.2.2.1, x.1.2.2.2.1)) (φ := fun (x : (Int × Int × (List DLot) × Int × Int × Unit) × (Unit)) => (x.1.1, (x.1.2.1, x.1.2.2.2.2.1))) (ψ := fun (i : (List DLot) × Int) (v : Int × Int × Int) => ((v.1, (v.2.1, (i.1, (i.2, (v.2.2, ()))))), ())) (F := fun (i : (List DLot) × Int) => spec_spSums_l0F i.1 i.2) (fun _ => rfl) fun i k hk v => Par.of_eq (spec_spSums_l0e i.1 i.2 k v.1 v.2.1 v.2.2) (spec_spSums_l0p i.1 i.2 (fun a0 a1 a4 => hk (a0, (a1, a4))) v.1 v.2.1 v.2.2)
def c25 : Callee := mkC [.one (.ro (.slice TLot))] 2 [.one (.ro (.int .i64)), .one (.ro (.int .i64))] fun x => spec_spSums x
theorem e25 (x : PK.dens [.one (.ro (.slice TLot))]) : evalFn Try.prog EL25 or25 Try.f25 (PK.outs [.one (.ro (.slice TLot))] x) =
    spec_spSumsK (fun y => some (tupOf ((PK.outs [.one (.ro (.int .i64)), .one (.ro (.int .i64))] y).take 2), (PK.outs [.one (.ro (.int .i64)), .one (.ro (.int .i64))] y).drop 2)) x := by kernel_rfl
theorem o25 : LoOk Try.prog EL25 or25 Try.f25.ntmps (loopsIn (codeOf Try.f25)) :=
  LoOk.mk (m := 1) (by kernel_rfl) fun i hi => match i, hi with
    | 0, _ => ⟨Lspec_spSums_l0, by kernel_rfl, spec_spSums_l0o⟩
    | i + 1, hi => absurd hi (by omega)
theorem k25 : CalleeOk Try.prog 25 c25 := callee_mk Try.func25 (code := codeOf Try.f25) (by kernel_rfl) vL25 mixed o25 fun x y h => (e25 x).trans (p25 _ x y h)

/-- spec.spGood -/
def EL30 : Nat → Option Callee := addE 38 c38 (addE 25 c25 (addE 37 c37 env0))
theorem vL30 : EnvOk Try.prog EL30 := ((EnvOk.nil.add Try.func37 rfl (by kernel_rfl) k37).add Try.func25 rfl (by kernel_rfl) k25).add Try.func38 rfl (by kernel_rfl) k38
def sspec_spGood_l0 : LS := ⟨[(1, .one (.fix (.ptr 0 0))), (8, .one (.dat (.slice TLot))), (9, .one (.dat (.int .i64))), (10, .one (.dat (.int .i64)))], [.box [.dat .bool, .dat (.int .i64), .dat (.slice TLot)]], []⟩
def sspec_spGood_l0x0 : LS := ⟨[(2, .one (.dat .bool))], [], []⟩
def sspec_spGood_l0x1 : LS := ⟨[(1, .one (.fix (.ptr 0 0)))], [.box [.dat .bool, .dat (.int .i64), .dat (.slice TLot)]], []⟩
def xspec_spGood_l0 : List (XS ((List DLot) × Int × Bool × Int × (List DLot))) := [⟨.ret, ⟨[2], [], [], []⟩, sspec_spGood_l0x0, Bool, fun i y => ((y, ()), ())⟩,
  ⟨.exit 0, ⟨[1], [.slot 1], [], []⟩, sspec_spGood_l0x1, Unit, fun i y => (((), ()), ((i.2.2.1, (i.2.2.2.1, (i.2.2.2.2, ()))), ()))⟩]
def spec_spGood_l0K {R : Type} (a0 : List DLot) (a1 : Int) (rc : Int → Option R) (fin : (Bool ⊕ Unit) → Option R) (a2 : Int) : Option R :=
  cond (decide (a2 < a1))
  ((lat a0 a2).bind fun e1 =>
    (spec_spLot e1).bind fun y2 =>
    cond (!y2)
    (fin (.inl false))
    (rc (IntKind.i64.wrap (a2 + 1))))
  (fin (.inr ()))
def spec_spGood_l0F (a0 : List DLot) (a1 : Int) (r : Int → Option (Bool ⊕ Unit)) (x : Int) : Option (Bool ⊕ Unit) := spec_spGood_l0K a0 a1 (fun a2 => r a2) some x
theorem spec_spGood_l0c (a0 : List DLot) (a1 : Int) (x : Int) : Ct fun r => spec_spGood_l0F a0 a1 r x := by
  unfold spec_spGood_l0F spec_spGood_l0K
  repeat' (first | exact Ct.const | exact Ct.call | refine Ct.cond ?_ ?_ | refine Ct.bind ?_ fun _ => ?_ | refine Ct.sum (fun _ => ?_) fun _ => ?_)
def spec_spGood_l0 (a0 : List DLot) (a1 : Int) (a2 : Int) : Option (Bool ⊕ Unit) := lim (spec_spGood_l0F a0 a1) a2
theorem spec_spGood_l0_eq (a0 : List DLot) (a1 : Int) (a2 : Int) : spec_spGood_l0 a0 a1 a2 = spec_spGood_l0K a0 a1 (spec_spGood_l0 a0 a1) some a2 := lim_eq (spec_spGood_l0c a0 a1) a2
theorem spec_spGood_l0p {R : Type} (a0 : List DLot) (a1 : Int) {rc : Int → Option (Bool ⊕ Unit)} {rc' : Int → Option R} {fin : (Bool ⊕ Unit) → Option R} (hr : ∀ a2, Par fin (rc a2) (rc' a2)) (a2 : Int) : Par fin (spec_spGood_l0K a0 a1 rc some a2) (spec_spGood_l0K a0 a1 rc' fin a2) := by
  unfold spec_spGood_l0K
  repeat' (first | exact .fin | exact .none | exact hr _ | refine .cond ?_ ?_ | refine .bind fun _ => ?_ | refine .sum (fun _ => ?_) fun _ => ?_)
def Lspec_spGood_l0 : Loop := mkL ⟨[1, 8, 9, 10], [.slot 1], [], []⟩ sspec_spGood_l0 xspec_spGood_l0 (fun (x : (Unit × (List DLot) × Int × Int × Unit) × ((Bool × Int × (List DLot) × Unit) × Unit)) => (x.1.2.1, (x.1.2.2.1, (x.2.1.1, (x.2.1.2.1, x.2.1.2.2.1))))) fun (x : (Unit × (List DLot) × Int × Int × Unit) × ((Bool × Int × (List DLot) × Unit) × Unit)) => spec_spGood_l0 x.1.2.1 x.1.2.2.1 x.1.2.2.2.1
def spec_spGoodK {R : Type} (fin : Bool → Option R) (x0 : DPile) : Option R :=
  (spec_spGood_l0 x0.2.2.1 (x0.2.2.1.length : Int) 0).bind fun y3 =>
  sumO y3 (fun y4 =>
  fin y4)
  (fun y5 =>
  (spec_spSums x0.2.2.1).bind fun y6 =>
    cond (decide ((x0.2.2.1.length : Int) ≤ 40))
    (cond (!x0.1)
      ((spec_l1In x0.2.1 0 10000000).bind fun y7 =>
        cond (y7)
        (fin (decide (y6.1 ≤ x0.2.1)))
        (fin false))
      (cond (decide ((x0.2.2.1.length : Int) ≤ 1))
        ((spec_l1In x0.2.1 0 10000000).bind fun y8 =>
          cond (y8)
          (fin (decide (y6.1 ≤ x0.2.1)))
          (fin false))
        (fin false)))
    (fin false))
def spec_spGood (x0 : DPile) : Option (Bool) := spec_spGoodK some x0
theorem p30 {R : Type} (fin : Bool → Option R) (x0 : DPile) : Par fin (spec_spGoodK some x0) (spec_spGoodK fin x0) := by
  unfold spec_spGoodK
  repeat' (first | exact .fin | exact .none | refine .cond ?_ ?_ | refine .bind fun _ => ?_ | refine .sum (fun _ => ?_) fun _ => ?_)
def or30 : Ora := { lo := addL 2 (Lspec_spGood_l0) lo0, fin := [] }
theorem spec_spGood_l0e (a0 : List DLot) (a1 : Int) (a3 : Bool) (a4 : Int) (a5 : List DLot) (k : Nat) (a2 : Int) : loopC Try.prog EL30 or30 ((loopsIn (codeOf Try.f30)).getD 0 .skip) (Lspec_spGood_l0).h (Lspec_spGood_l0).ho Try.f30.ntmps (k + 1) (sspec_spGood_l0.out (((), (a0, (a1, (a2, ())))), ((a3, (a4, (a5, ()))), ()))) =
    spec_spGood_l0K a0 a1 (fun a2 => loopC Try.prog EL30 or30 ((loopsIn (codeOf Try.f30)).getD 0 .skip) (Lspec_spGood_l0).h (Lspec_spGood_l0).ho Try.f30.ntmps k (sspec_spGood_l0.out (((), (a0, (a1, (a2, ())))), ((a3, (a4, (a5, ()))), ())))) (fun y => some (XS.out xspec_spGood_l0 (a0, (a1, (a3, (a4, a5)))) y)) a2 := by kernel_rfl
theorem spec_spGood_l0o : LoopOk Try.prog EL30 or30 Try.f30.ntmps ((loopsIn (codeOf Try.f30)).getD 0 .skip) (Lspec_spGood_l0) :=
  loop_lim (hs := sspec_spGood_l0) (xs := xspec_spGood_l0) (ι := fun (x : (Unit × (List DLot) × Int × Int × Unit) × ((Bool × Int × (List DLot) × Unit) × Unit)) => (x.1.2.1, (x.1.2.2.1, (x.2.1.1, (x.2.1.2.1, x.2.1.2.2.1))))) (φ := fun (x : (Unit × (List DLot) × Int × Int × Unit) × ((Bool × Int × (List DLot) × Unit) × Unit)) => x.1.2.2.2.1) (ψ := fun (i : (List DLot) × Int × Bool × Int × (List DLot)) (v : Int) => (((), (i.1, (i.2.1, (v, ())))), ((i.2.2.1, (i.2.2.2.1, (i.2.2.2.2, ()))), ()))) (F := fun (i : (List DLot) × Int × Bool × Int × (List DLot)) => spec_spGood_l0F i.1 i.2.1) (fun _ => rfl) fun i k hk v => Par.of_eq (spec_spGood_l0e i.1 i.2.1 i.2.2.1 i.2.2.2.1 i.2.2.2.2 k v) (spec_spGood_l0p i.1 i.2.1 (fun a2 => hk a2) v)
def c30 : Callee := mkC [.agg [.ro TPile]] 1 [.one (.ro .bool)] fun x => spec_spGood x
theorem e30 (x : PK.dens [.agg [.ro TPile]]) : evalFn Try.prog EL30 or30 Try.f30 (PK.outs [.agg [.ro TPile]] x) =
    spec_spGoodK (fun y => some (tupOf ((PK.outs [.one (.ro .bool)] y).take 1), (PK.outs [.one (.ro .bool)] y).drop 1)) x := by kernel_rfl
theorem o30 : LoOk Try.prog EL30 or30 Try.f30.ntmps (loopsIn (codeOf Try.f30)) :=
  LoOk.mk (m := 1) (by kernel_rfl) fun i hi => match i, hi with
    | 0, _ => ⟨Lspec_spGood_l0, by kernel_rfl, spec_spGood_l0o⟩
    | i + 1, hi => absurd hi (by omega)
theorem k30 : CalleeOk Try.prog 30 c30 := callee_mk Try.func30 (code := codeOf Try.f30) (by kernel_rfl) vL30 mixed o30 fun x y h => (e30 x).trans (p30 _ x y h)

/-- spec.spPut -/
def EL43 : Nat → Option Callee := addE 30 c30 (addE 42 c42 env0)
theorem vL43 : EnvOk Try.prog EL43 := (EnvOk.nil.add Try.func42 rfl (by kernel_rfl) k42).add Try.func30 rfl (by kernel_rfl) k30
def spec_spPutK {R : Type} (fin : (Bool × Int × (List DLot)) × Bool → Option R) (x0 : DPile) (x1 : DLot) : Option R :=
  (spec_spWith x0 x0.2.2.1).bind fun y1 =>
  cond (x0.1)
  (cond ((x0.2.2.1.length : Int) == 1)
    (cond (decide ((0 : Int) < (y1.2.2.length : Int)))
      (cond (decide ((0 : Int) < (y1.2.2.length : Int)))
        ((some (y1.2.2.set (0 + 0) (IntKind.i64.wrap (((y1.2.2.getD (0 + 0) TLot.dflt).1) + x1.1), (((y1.2.2.getD (0 + 0) TLot.dflt).2).1, ())))).bind fun v2 =>
          cond (decide ((0 : Int) < (v2.length : Int)))
          (cond (decide ((0 : Int) < (v2.length : Int)))
            ((some (v2.set (0 + 0) ((v2.getD (0 + 0) TLot.dflt).1, (IntKind.i64.wrap ((((v2.getD (0 + 0) TLot.dflt).2).1) + x1.2.1), ())))).bind fun v3 =>
              (spec_spGood (y1.1, (y1.2.1, (v3, ())))).bind fun y4 =>
              cond (!y4)
              (fin ((false, (0, [])), false))
              (fin ((y1.1, (y1.2.1, v3)), true)))
            (none))
          (none))
        (none))
      (none))
    (cond (decide (y1.2.2.length + [x1].length ≤ 1099511627776))
      ((some (y1.2.2 ++ [x1])).bind fun v5 =>
        (spec_spGood (y1.1, (y1.2.1, (v5, ())))).bind fun y6 =>
        cond (!y6)
        (fin ((false, (0, [])), false))
        (fin ((y1.1, (y1.2.1, v5)), true)))
      (none)))
  (cond (decide (y1.2.2.length + [x1].length ≤ 1099511627776))
    ((some (y1.2.2 ++ [x1])).bind fun v7 =>
      (spec_spGood (y1.1, (y1.2.1, (v7, ())))).bind fun y8 =>
      cond (!y8)
      (fin ((false, (0, [])), false))
      (fin ((y1.1, (y1.2.1, v7)), true)))
    (none))
def spec_spPut (x0 : DPile) (x1 : DLot) : Option ((Bool × Int × (List DLot)) × Bool) := spec_spPutK some x0 x1
theorem p43 {R : Type} (fin : (Bool × Int × (List DLot)) × Bool → Option R) (x0 : DPile) (x1 : DLot) : Par fin (spec_spPutK some x0 x1) (spec_spPutK fin x0 x1) := by
  unfold spec_spPutK
  repeat' (first | exact .fin | exact .none | refine .cond ?_ ?_ | refine .bind fun _ => ?_ | refine .sum (fun _ => ?_) fun _ => ?_)
def or43 : Ora := { lo := lo0, fin := [.own (.cell 4 2) TLot] }
def c43 : Callee := mkC [.agg [.ro TPile], .agg [.ro TLot]] 2 [.agg [.ro .bool, .ro (.int .i64), .sl TLot], .one (.ro .bool)] fun x => spec_spPut x.1 x.2
theorem e43 (x : PK.dens [.agg [.ro TPile], .agg [.ro TLot]]) : evalFn Try.prog EL43 or43 Try.f43 (PK.outs [.agg [.ro TPile], .agg [.ro TLot]] x) =
    spec_spPutK (fun y => some (tupOf ((PK.outs [.agg [.ro .bool, .ro (.int .i64), .sl TLot], .one (.ro .bool)] y).take 2), (PK.outs [.agg [.ro .bool, .ro (.int .i64), .sl TLot], .one (.ro .bool)] y).drop 2)) x.1 x.2 := by kernel_rfl
theorem k43 : CalleeOk Try.prog 43 c43 := callee_mk Try.func43 (code := codeOf Try.f43) (by kernel_rfl) vL43 mixed (LoOk.nil (by kernel_rfl)) fun x y h => (e43 x).trans (p43 _ x.1 x.2 y h)

/-- spec.l1Cur).pile -/
def EL24 : Nat → Option Callee := addE 27 c27 (addE 25 c25 (addE 37 c37 (addE 43 c43 (addE 34 c34 (addE 48 c48 (addE 26 c26 (addE 47 c47 env0)))))))
theorem vL24 : EnvOk Try.prog EL24 := (((((((EnvOk.nil.add Try.func47 rfl (by kernel_rfl) k47).add Try.func26 rfl (by kernel_rfl) k26).add Try.func48 rfl (by kernel_rfl) k48).add Try.func34 rfl (by kernel_rfl) k34).add Try.func43 rfl (by kernel_rfl) k43).add Try.func37 rfl (by kernel_rfl) k37).add Try.func25 rfl (by kernel_rfl) k25).add Try.func27 rfl (by kernel_rfl) k27
def sspec_l1Cur_pile_l0 : LS := ⟨[(0, .one (.fix (.ptr 0 0))), (2, .one (.fix (.ptr 1 0))), (3, .one (.fix (.ptr 2 0))), (4, .one (.dat (.int .i64)))], [.box [.dat (.slice (.int .u8)), .dat (.int .i64), .dat (.int .u64)], .box [.dat .bool, .dat (.int .i64), .fix .nils], .box [.dat .bool, .dat (.int .i64), .fix (.sref 3)], .sl TLot], [0]⟩
def sspec_l1Cur_pile_l0x0 : LS := ⟨[(0, .one (.fix (.ptr 0 0))), (2, .one (.fix (.ptr 1 0))), (3, .one (.fix (.ptr 2 0)))], [.box [.dat (.slice (.int .u8)), .dat (.int .i64), .dat (.int .u64)], .box [.dat .bool, .dat (.int .i64), .fix .nils], .box [.dat .bool, .dat (.int .i64), .fix (.sref 3)], .sl TLot], [0]⟩
def xspec_l1Cur_pile_l0 : List (XS (Bool × Int)) := [⟨.exit 0, ⟨[0, 2, 3], [.slot 0, .slot 2, .slot 3, .cell 3 2], [0], []⟩, sspec_l1Cur_pile_l0x0, (List Int) × Int × Int × Bool × Int × (List DLot), fun i y => (((), ((), ((), ()))), ((y.1, (y.2.1, (y.2.2.1, ()))), ((i.1, (i.2, ((), ()))), ((y.2.2.2.1, (y.2.2.2.2.1, ((), ()))), (y.2.2.2.2.2, ())))))⟩]
def spec_l1Cur_pile_l0K {R : Type} (rc : Int → List Int → Int → Int → Bool → Int → List DLot → Option R) (fin : (List Int) × Int × Int × Bool × Int × (List DLot) → Option R) (a0 : Int) (a1 : List Int) (a2 : Int) (a3 : Int) (a6 : Bool) (a7 : Int) (a8 : List DLot) : Option R :=
  cond (decide (a0 > 0))
  ((spec_l1Cur_lot (a1, (a2, a3))).bind fun y1 =>
    (spec_spPut (a6, (a7, (a8, ()))) y1.1).bind fun y2 =>
    (spec_spLot y1.1).bind fun y3 =>
    cond (y3)
    (cond (y2.2)
      (rc (IntKind.i64.wrap (a0 - 1)) y1.2.1 y1.2.2.1 y1.2.2.2 y2.1.1 y2.1.2.1 y2.1.2.2)
      (rc (IntKind.i64.wrap (a0 - 1)) y1.2.1 y1.2.2.1 y1.2.2.2 a6 a7 a8))
    (rc (IntKind.i64.wrap (a0 - 1)) y1.2.1 y1.2.2.1 y1.2.2.2 a6 a7 a8))
  (fin (a1, (a2, (a3, (a6, (a7, a8))))))
def spec_l1Cur_pile_l0F (r : (Int × (List Int) × Int × Int × Bool × Int × (List DLot)) → Option ((List Int) × Int × Int × Bool × Int × (List DLot))) (x : Int × (List Int) × Int × Int × Bool × Int × (List DLot)) : Option ((List Int) × Int × Int × Bool × Int × (List DLot)) := spec_l1Cur_pile_l0K (fun a0 a1 a2 a3 a6 a7 a8 => r (a0, (a1, (a2, (a3, (a6, (a7, a8))))))) some x.1 x.2.1 x.2.2.1 x.2.2.2.1 x.2.2.2.2.1 x.2.2.2.2.2.1 x.2.2.2.2.2.2
theorem spec_l1Cur_pile_l0c (x : Int × (List Int) × Int × Int × Bool × Int × (List DLot)) : Ct fun r => spec_l1Cur_pile_l0F r x := by
  unfold spec_l1Cur_pile_l0F spec_l1Cur_pile_l0K
  repeat' (first | exact Ct.const | exact Ct.call | refine Ct.cond ?_ ?_ | refine Ct.bind ?_ fun _ => ?_ | refine Ct.sum (fun _ => ?_) fun _ => ?_)
def spec_l1Cur_pile_l0 (a0 : Int) (a1 : List Int) (a2 : Int) (a3 : Int) (a6 : Bool) (a7 : Int) (a8 : List DLot) : Option ((List Int) × Int × Int × Bool × Int × (List DLot)) := lim (spec_l1Cur_pile_l0F) (a0, (a1, (a2, (a3, (a6, (a7, a8))))))
theorem spec_l1Cur_pile_l0_eq (a0 : Int) (a1 : List Int) (a2 : Int) (a3 : Int) (a6 : Bool) (a7 : Int) (a8 : List DLot) : spec_l1Cur_pile_l0 a0 a1 a2 a3 a6 a7 a8 = spec_l1Cur_pile_l0K (spec_l1Cur_pile_l0) some a0 a1 a2 a3 a6 a7 a8 := lim_eq (spec_l1Cur_pile_l0c) (a0, (a1, (a2, (a3, (a6, (a7, a8))))))
theorem spec_l1Cur_pile_l0p {R : Type} {rc : Int → List Int → Int → Int → Bool → Int → List DLot → Option ((List Int) × Int × Int × Bool × Int × (List DLot))} {rc' : Int → List Int → Int → Int → Bool → Int → List DLot → Option R} {fin : (List Int) × Int × Int × Bool × Int × (List DLot) → Option R} (hr : ∀ a0 a1 a2 a3 a6 a7 a8, Par fin (rc a0 a1 a2 a3 a6 a7 a8) (rc' a0 a1 a2 a3 a6 a7 a8)) (a0 : Int) (a1 : List Int) (a2 : Int) (a3 : Int) (a6 : Bool) (a7 : Int) (a8 : List DLot) : Par fin (spec_l1Cur_pile_l0K rc some a0 a1 a2 a3 a6 a7 a8) (spec_l1Cur_pile_l0K rc' fin a0 a1 a2 a3 a6 a7 a8) := by
  unfold spec_l1Cur_pile_l0K
  repeat' (first | exact .fin | exact .none | exact hr _ _ _ _ _ _ _ | refine .cond ?_ ?_ | refine .bind fun _ => ?_ | refine .sum (fun _ => ?_) fun _ => ?_)
def Lspec_l1Cur_pile_l0 : Loop := mkL ⟨[0, 2, 3, 4], [.slot 0, .slot 2, .slot 3, .cell 3 2], [0], [.own (.cell 3 2) TLot]⟩ sspec_l1Cur_pile_l0 xspec_l1Cur_pile_l0 (fun (x : (Unit × Unit × Unit × Int × Unit) × (((List Int) × Int × Int × Unit) × (Bool × Int × Unit × Unit) × (Bool × Int × Unit × Unit) × (List DLot) × Unit)) => (x.2.2.1.1, x.2.2.1.2.1)) fun (x : (Unit × Unit × Unit × Int × Unit) × (((List Int) × Int × Int × Unit) × (Bool × Int × Unit × Unit) × (Bool × Int × Unit × Unit) × (List DLot) × Unit)) => spec_l1Cur_pile_l0 x.1.2.2.2.1 x.2.1.1 x.2.1.2.1 x.2.1.2.2.1 x.2.2.2.1.1 x.2.2.2.1.2.1 x.2.2.2.2.1
def sspec_l1Cur_pile_l1 : LS := ⟨[(0, .one (.fix (.ptr 0 0))), (2, .one (.fix (.ptr 1 0))), (3, .one (.fix (.ptr 2 0))), (8, .one (.dat (.int .i64)))], [.box [.dat (.slice (.int .u8)), .dat (.int .i64), .dat (.int .u64)], .box [.dat .bool, .dat (.int .i64), .fix .nils], .box [.dat .bool, .dat (.int .i64), .fix (.sref 3)], .sl TLot], [0]⟩
def sspec_l1Cur_pile_l1x0 : LS := ⟨[(0, .one (.fix (.ptr 0 0))), (2, .one (.fix (.ptr 1 0))), (3, .one (.fix (.ptr 2 0)))], [.box [.dat (.slice (.int .u8)), .dat (.int .i64), .dat (.int .u64)], .box [.dat .bool, .dat (.int .i64), .fix .nils], .box [.dat .bool, .dat (.int .i64), .fix (.sref 3)], .sl TLot], [0]⟩
def xspec_l1Cur_pile_l1 : List (XS (Int × (List Int) × Int × Int × Bool × Int × Bool × Int)) := [⟨.exit 3, ⟨[0, 2, 3], [.slot 0, .slot 2, .slot 3, .cell 3 2], [0], []⟩, sspec_l1Cur_pile_l1x0, List DLot, fun i y => (((), ((), ((), ()))), ((i.2.1, (i.2.2.1, (i.2.2.2.1, ()))), ((i.2.2.2.2.1, (i.2.2.2.2.2.1, ((), ()))), ((i.2.2.2.2.2.2.1, (i.2.2.2.2.2.2.2, ((), ()))), (y, ())))))⟩]
def spec_l1Cur_pile_l1K {R : Type} (a0 : Int) (rc : List DLot → Option R) (fin : List DLot → Option R) (a8 : List DLot) : Option R :=
  cond (decide ((a8.length : Int) < a0))
  (cond (decide (a8.length + [(10, ((a8.length : Int), ()))].length ≤ 1099511627776))
    ((some (a8 ++ [(10, ((a8.length : Int), ()))])).bind fun v1 =>
      rc v1)
    (none))
  (fin a8)
def spec_l1Cur_pile_l1F (a0 : Int) (r : List DLot → Option (List DLot)) (x : List DLot) : Option (List DLot) := spec_l1Cur_pile_l1K a0 (fun a8 => r a8) some x
theorem spec_l1Cur_pile_l1c (a0 : Int) (x : List DLot) : Ct fun r => spec_l1Cur_pile_l1F a0 r x := by
  unfold spec_l1Cur_pile_l1F spec_l1Cur_pile_l1K
  repeat' (first | exact Ct.const | exact Ct.call | refine Ct.cond ?_ ?_ | refine Ct.bind ?_ fun _ => ?_ | refine Ct.sum (fun _ => ?_) fun _ => ?_)
def spec_l1Cur_pile_l1 (a0 : Int) (a8 : List DLot) : Option (List DLot) := lim (spec_l1Cur_pile_l1F a0) a8
theorem spec_l1Cur_pile_l1_eq (a0 : Int) (a8 : List DLot) : spec_l1Cur_pile_l1 a0 a8 = spec_l1Cur_pile_l1K a0 (spec_l1Cur_pile_l1 a0) some a8 := lim_eq (spec_l1Cur_pile_l1c a0) a8
theorem spec_l1Cur_pile_l1p {R : Type} (a0 : Int) {rc : List DLot → Option (List DLot)} {rc' : List DLot → Option R} {fin : List DLot → Option R} (hr : ∀ a8, Par fin (rc a8) (rc' a8)) (a8 : List DLot) : Par fin (spec_l1Cur_pile_l1K a0 rc some a8) (spec_l1Cur_pile_l1K a0 rc' fin a8) := by
  unfold spec_l1Cur_pile_l1K
  repeat' (first | exact .fin | exact .none | exact hr _ | refine .cond ?_ ?_ | refine .bind fun _ => ?_ | refine .sum (fun _ => ?_) fun _ => ?_)
def Lspec_l1Cur_pile_l1 : Loop := mkL ⟨[0, 2, 3, 8], [.slot 0, .slot 2, .slot 3, .cell 3 2], [0], [.own (.cell 3 2) TLot]⟩ sspec_l1Cur_pile_l1 xspec_l1Cur_pile_l1 (fun (x : (Unit × Unit × Unit × Int × Unit) × (((List Int) × Int × Int × Unit) × (Bool × Int × Unit × Unit) × (Bool × Int × Unit × Unit) × (List DLot) × Unit)) => (x.1.2.2.2.1, (x.2.1.1, (x.2.1.2.1, (x.2.1.2.2.1, (x.2.2.1.1, (x.2.2.1.2.1, (x.2.2.2.1.1, x.2.2.2.1.2.1)))))))) fun (x : (Unit × Unit × Unit × Int × Unit) × (((List Int) × Int × Int × Unit) × (Bool × Int × Unit × Unit) × (Bool × Int × Unit × Unit) × (List DLot) × Unit)) => spec_l1Cur_pile_l1 x.1.2.2.2.1 x.2.2.2.2.1
def spec_l1Cur_pileK {R : Type} (fin : (Bool × Int × (List DLot)) × ((List Int) × Int × Int) → Option R) (x0 : (List Int) × Int × Int) : Option R :=
  (spec_l1Cur_one x0 3).bind fun y1 =>
  (spec_l1Cur_among y1.2 [1000, 5000, 10000000]).bind fun y2 =>
  (spec_l1Cur_pick y2.2 6).bind fun y3 =>
  (spec_l1Cur_pile_l0 y3.1 y3.2.1 y3.2.2.1 y3.2.2.2 y1.1 y2.1 []).bind fun y10 =>
  (spec_l1Cur_pick (y10.1, (y10.2.1, y10.2.2.1)) 30).bind fun y11 =>
  cond (y11.1 == 0)
  ((spec_l1Cur_among y11.2 [(-1), 0, 10000000, 10000001]).bind fun y12 =>
    fin ((y10.2.2.2.1, (y12.1, y10.2.2.2.2.2)), y12.2))
  (cond (y11.1 == 1)
    ((spec_l1Cur_lot y11.2).bind fun y13 =>
      cond (decide (y10.2.2.2.2.2.length + [y13.1].length ≤ 1099511627776))
      ((some (y10.2.2.2.2.2 ++ [y13.1])).bind fun v14 =>
        fin ((y10.2.2.2.1, (y10.2.2.2.2.1, v14)), y13.2))
      (none))
    (cond (y11.1 == 2)
      ((spec_l1Cur_pick y11.2 3).bind fun y15 =>
        (spec_l1Cur_pile_l1 (IntKind.i64.wrap (39 + y15.1)) []).bind fun y18 =>
        fin ((false, (10000000, y18)), y15.2))
      (cond (y11.1 == 3)
        ((spec_spSums y10.2.2.2.2.2).bind fun y19 =>
          (spec_l1Cur_pick y11.2 2).bind fun y20 =>
          (spec_l1Most 0 (IntKind.i64.wrap (y19.1 - y20.1))).bind fun y21 =>
          fin ((y10.2.2.2.1, (y21, y10.2.2.2.2.2)), y20.2))
        (cond (y11.1 == 4)
          (fin ((false, (10000000, [(1000000, (1000000000, ())), (1000000, (0, ())), (1000000, (7, ()))])), y11.2))
          (fin (y10.2.2.2, y11.2))))))
def spec_l1Cur_pile (x0 : (List Int) × Int × Int) : Option ((Bool × Int × (List DLot)) × ((List Int) × Int × Int)) := spec_l1Cur_pileK some x0
theorem p24 {R : Type} (fin : (Bool × Int × (List DLot)) × ((List Int) × Int × Int) → Option R) (x0 : (List Int) × Int × Int) : Par fin (spec_l1Cur_pileK some x0) (spec_l1Cur_pileK fin x0) := by
  unfold spec_l1Cur_pileK
  repeat' (first | exact .fin | exact .none | refine .cond ?_ ?_ | refine .bind fun _ => ?_ | refine .sum (fun _ => ?_) fun _ => ?_)
def or24 : Ora := { lo := addL 17 (Lspec_l1Cur_pile_l1) (addL 3 (Lspec_l1Cur_pile_l0) lo0), fin := [] }
theorem spec_l1Cur_pile_l0e (a4 : Bool) (a5 : Int) (k : Nat) (a0 : Int) (a1 : List Int) (a2 : Int) (a3 : Int) (a6 : Bool) (a7 : Int) (a8 : List DLot) : loopC Try.prog EL24 or24 ((loopsIn (codeOf Try.f24)).getD 0 .skip) (Lspec_l1Cur_pile_l0).h (Lspec_l1Cur_pile_l0).ho Try.f24.ntmps (k + 1) (sspec_l1Cur_pile_l0.out (((), ((), ((), (a0, ())))), ((a1, (a2, (a3, ()))), ((a4, (a5, ((), ()))), ((a6, (a7, ((), ()))), (a8, ())))))) =
    spec_l1Cur_pile_l0K (fun a0 a1 a2 a3 a6 a7 a8 => loopC Try.prog EL24 or24 ((loopsIn (codeOf Try.f24)).getD 0 .skip) (Lspec_l1Cur_pile_l0).h (Lspec_l1Cur_pile_l0).ho Try.f24.ntmps k (sspec_l1Cur_pile_l0.out (((), ((), ((), (a0, ())))), ((a1, (a2, (a3, ()))), ((a4, (a5, ((), ()))), ((a6, (a7, ((), ()))), (a8, ()))))))) (fun y => some (XS.out xspec_l1Cur_pile_l0 (a4, a5) y)) a0 a1 a2 a3 a6 a7 a8 := by kernel_rfl
theorem spec_l1Cur_pile_l0o : LoopOk Try.prog EL24 or24 Try.f24.ntmps ((loopsIn (codeOf Try.f24)).getD 0 .skip) (Lspec_l1Cur_pile_l0) :=
  loop_lim (hs := sspec_l1Cur_pile_l0) (xs := xspec_l1Cur_pile_l0) (ι := fun (x : (Unit × Unit × Unit × Int × Unit) × (((List Int) × Int × Int × Unit) × (Bool × Int × Unit × Unit) × (Bool × Int × Unit × Unit) × (List DLot) × Unit)) => (x.2.2.1.1, x.2.2.1.2.1)) (φ := fun (x : (Unit × Unit × Unit × Int × Unit) × (((List Int) × Int × Int × Unit) × (Bool × Int × Unit × Unit) × (Bool × Int × Unit × Unit) × (List DLot) × Unit)) => (x.1.2.2.2.1, (x.2.1.1, (x.2.1.2.1, (x.2.1.2.2.1, (x.2.2.2.1.1, (x.2.2.2.1.2.1, x.2.2.2.2.1))))))) (ψ := fun (i : Bool × Int) (v : Int × (List Int) × Int × Int × Bool × Int × (List DLot)) => (((), ((), ((), (v.1, ())))), ((v.2.1, (v.2.2.1, (v.2.2.2.1, ()))), ((i.1, (i.2, ((), ()))), ((v.2.2.2.2.1, (v.2.2.2.2.2.1, ((), ()))), (v.2.2.2.2.2.2, ())))))) (F := fun (i : Bool × Int) => spec_l1Cur_pile_l0F) (fun _ => rfl) fun i k hk v => Par.of_eq (spec_l1Cur_pile_l0e i.1 i.2 k v.1 v.2.1 v.2.2.1 v.2.2.2.1 v.2.2.2.2.1 v.2.2.2.2.2.1 v.2.2.2.2.2.2) (spec_l1Cur_pile_l0p (fun a0 a1 a2 a3 a6 a7 a8 => hk (a0, (a1, (a2, (a3, (a6, (a7, a8))))))) v.1 v.2.1 v.2.2.1 v.2.2.2.1 v.2.2.2.2.1 v.2.2.2.2.2.1 v.2.2.2.2.2.2)
theorem spec_l1Cur_pile_l1e (a0 : Int) (a1 : List Int) (a2 : Int) (a3 : Int) (a4 : Bool) (a5 : Int) (a6 : Bool) (a7 : Int) (k : Nat) (a8 : List DLot) : loopC Try.prog EL24 or24 ((loopsIn (codeOf Try.f24)).getD 1 .skip) (Lspec_l1Cur_pile_l1).h (Lspec_l1Cur_pile_l1).ho Try.f24.ntmps (k + 1) (sspec_l1Cur_pile_l1.out (((), ((), ((), (a0, ())))), ((a1, (a2, (a3, ()))), ((a4, (a5, ((), ()))), ((a6, (a7, ((), ()))), (a8, ())))))) =
    spec_l1Cur_pile_l1K a0 (fun a8 => loopC Try.prog EL24 or24 ((loopsIn (codeOf Try.f24)).getD 1 .skip) (Lspec_l1Cur_pile_l1).h (Lspec_l1Cur_pile_l1).ho Try.f24.ntmps k (sspec_l1Cur_pile_l1.out (((), ((), ((), (a0, ())))), ((a1, (a2, (a3, ()))), ((a4, (a5, ((), ()))), ((a6, (a7, ((), ()))), (a8, ()))))))) (fun y => some (XS.out xspec_l1Cur_pile_l1 (a0, (a1, (a2, (a3, (a4, (a5, (a6, a7))))))) y)) a8 := by kernel_rfl
theorem spec_l1Cur_pile_l1o : LoopOk Try.prog EL24 or24 Try.f24.ntmps ((loopsIn (codeOf Try.f24)).getD 1 .skip) (Lspec_l1Cur_pile_l1) :=
  loop_lim (hs := sspec_l1Cur_pile_l1) (xs := xspec_l1Cur_pile_l1) (ι := fun (x : (Unit × Unit × Unit × Int × Unit) × (((List Int) × Int × Int × Unit) × (Bool × Int × Unit × Unit) × (Bool × Int × Unit × Unit) × (List DLot) × Unit)) => (x.1.2.2.2.1, (x.2.1.1, (x.2.1.2.1, (x.2.1.2.2.1, (x.2.2.1.1, (x.2.2.1.2.1, (x.2.2.2.1.1, x.2.2.2.1.2.1)))))))) (φ := fun (x : (Unit × Unit × Unit × Int × Unit) × (((List Int) × Int × Int × Unit) × (Bool × Int × Unit × Unit) × (Bool × Int × Unit × Unit) × (List DLot) × Unit)) => x.2.2.2.2.1) (ψ := fun (i : Int × (List Int) × Int × Int × Bool × Int × Bool × Int) (v : List DLot) => (((), ((), ((), (i.1, ())))), ((i.2.1, (i.2.2.1, (i.2.2.2.1, ()))), ((i.2.2.2.2.1, (i.2.2.2.2.2.1, ((), ()))), ((i.2.2.2.2.2.2.1, (i.2.2.2.2.2.2.2, ((), ()))), (v, ())))))) (F := fun (i : Int × (List Int) × Int × Int × Bool × Int × Bool × Int) => spec_l1Cur_pile_l1F i.1) (fun _ => rfl) fun i k hk v => Par.of_eq (spec_l1Cur_pile_l1e i.1 i.2.1 i.2.2.1 i.2.2.2.1 i.2.2.2.2.1 i.2.2.2.2.2.1 i.2.2.2.2.2.2.1 i.2.2.2.2.2.2.2 k v) (spec_l1Cur_pile_l1p i.1 (fun a8 => hk a8) v)
def c24 : Callee := mkC [.box [.ro (.slice (.int .u8)), .ro (.int .i64), .ro (.int .u64)]] 1 [.agg [.ro .bool, .ro (.int .i64), .sl TLot], .box [.ro (.slice (.int .u8)), .ro (.int .i64), .ro (.int .u64)]] fun x => spec_l1Cur_pile x
theorem e24 (x : PK.dens [.box [.ro (.slice (.int .u8)), .ro (.int .i64), .ro (.int .u64)]]) : evalFn Try.prog EL24 or24 Try.f24 (PK.outs [.box [.ro (.slice (.int .u8)), .ro (.int .i64), .ro (.int .u64)]] x) =
    spec_l1Cur_pileK (fun y => some (tupOf ((PK.outs [.agg [.ro .bool, .ro (.int .i64), .sl TLot], .box [.ro (.slice (.int .u8)), .ro (.int .i64), .ro (.int .u64)]] y).take 1), (PK.outs [.agg [.ro .bool, .ro (.int .i64), .sl TLot], .box [.ro (.slice (.int .u8)), .ro (.int .i64), .ro (.int .u64)]] y).drop 1)) x := by kernel_rfl
theorem o24 : LoOk Try.prog EL24 or24 Try.f24.ntmps (loopsIn (codeOf Try.f24)) :=
  LoOk.mk (m := 2) (by kernel_rfl) fun i hi => match i, hi with
    | 0, _ => ⟨Lspec_l1Cur_pile_l0, by kernel_rfl, spec_l1Cur_pile_l0o⟩
    | 1, _ => ⟨Lspec_l1Cur_pile_l1, by kernel_rfl, spec_l1Cur_pile_l1o⟩
    | i + 2, hi => absurd hi (by omega)
theorem k24 : CalleeOk Try.prog 24 c24 := callee_mk Try.func24 (code := codeOf Try.f24) (by kernel_rfl) vL24 mixed o24 fun x y h => (e24 x).trans (p24 _ x y h)

/-- spec.DrawTakeTonnes -/
def EL5 : Nat → Option Callee := addE 26 c26 (addE 27 c27 (addE 25 c25 (addE 24 c24 env0)))
theorem vL5 : EnvOk Try.prog EL5 := (((EnvOk.nil.add Try.func24 rfl (by kernel_rfl) k24).add Try.func25 rfl (by kernel_rfl) k25).add Try.func27 rfl (by kernel_rfl) k27).add Try.func26 rfl (by kernel_rfl) k26
def spec_DrawTakeTonnesK {R : Type} (fin : (Bool × Int × (List DLot)) × Int → Option R) (x0 : List Int) : Option R :=
  (spec_l1Cur_pile (x0, (0, 0))).bind fun y1 =>
  (spec_spSums y1.1.2.2).bind fun y2 =>
  (spec_l1Most y2.1 0).bind fun y3 =>
  (spec_l1Most y2.1 0).bind fun y4 =>
  (spec_l1Most (IntKind.i64.wrap (y2.1.tdiv 2)) 0).bind fun y5 =>
  (spec_l1Cur_among y1.2 [1, 50, 120, y3, IntKind.i64.wrap (y4 + 1), y5, 0, (-1)]).bind fun y6 =>
  fin (y1.1, y6.1)
def spec_DrawTakeTonnes (x0 : List Int) : Option ((Bool × Int × (List DLot)) × Int) := spec_DrawTakeTonnesK some x0
theorem p5 {R : Type} (fin : (Bool × Int × (List DLot)) × Int → Option R) (x0 : List Int) : Par fin (spec_DrawTakeTonnesK some x0) (spec_DrawTakeTonnesK fin x0) := by
  unfold spec_DrawTakeTonnesK
  repeat' (first | exact .fin | exact .none | refine .cond ?_ ?_ | refine .bind fun _ => ?_ | refine .sum (fun _ => ?_) fun _ => ?_)
def c5 : Callee := mkC [.one (.ro (.slice (.int .u8)))] 2 [.agg [.ro .bool, .ro (.int .i64), .sl TLot], .one (.ro (.int .i64))] fun x => spec_DrawTakeTonnes x
theorem e5 (x : PK.dens [.one (.ro (.slice (.int .u8)))]) : evalFn Try.prog EL5 or0 Try.f5 (PK.outs [.one (.ro (.slice (.int .u8)))] x) =
    spec_DrawTakeTonnesK (fun y => some (tupOf ((PK.outs [.agg [.ro .bool, .ro (.int .i64), .sl TLot], .one (.ro (.int .i64))] y).take 2), (PK.outs [.agg [.ro .bool, .ro (.int .i64), .sl TLot], .one (.ro (.int .i64))] y).drop 2)) x := by kernel_rfl
theorem k5 : CalleeOk Try.prog 5 c5 := callee_mk Try.func5 (code := codeOf Try.f5) (by kernel_rfl) vL5 mixed (LoOk.nil (by kernel_rfl)) fun x y h => (e5 x).trans (p5 _ x y h)

/-- impl.isLot -/
def EL35 : Nat → Option Callee := env0
theorem vL35 : EnvOk Try.prog EL35 := EnvOk.nil
def impl_isLotK {R : Type} (fin : Bool → Option R) (x0 : DLot) : Option R :=
  cond (decide (x0.1 ≥ 1))
  (cond (decide (x0.1 ≤ 1000000))
    (cond (decide (x0.2.1 ≥ 0))
      (fin (decide (x0.2.1 ≤ (IntKind.i64.wrap (1000 * x0.1)))))
      (fin false))
    (fin false))
  (fin false)
def impl_isLot (x0 : DLot) : Option (Bool) := impl_isLotK some x0
theorem p35 {R : Type} (fin : Bool → Option R) (x0 : DLot) : Par fin (impl_isLotK some x0) (impl_isLotK fin x0) := by
  unfold impl_isLotK
  repeat' (first | exact .fin | exact .none | refine .cond ?_ ?_ | refine .bind fun _ => ?_ | refine .sum (fun _ => ?_) fun _ => ?_)
def c35 : Callee := mkC [.agg [.ro TLot]] 1 [.one (.ro .bool)] fun x => impl_isLot x
theorem e35 (x : PK.dens [.agg [.ro TLot]]) : evalFn Try.prog EL35 or0 Try.f35 (PK.outs [.agg [.ro TLot]] x) =
    impl_isLotK (fun y => some (tupOf ((PK.outs [.one (.ro .bool)] y).take 1), (PK.outs [.one (.ro .bool)] y).drop 1)) x := by kernel_rfl
theorem k35 : CalleeOk Try.prog 35 c35 := callee_mk Try.func35 (code := codeOf Try.f35) (by kernel_rfl) vL35 mixed (LoOk.nil (by kernel_rfl)) fun x y h => (e35 x).trans (p35 _ x y h)

/-- impl.IsPile -/
def EL28 : Nat → Option Callee := addE 35 c35 env0
theorem vL28 : EnvOk Try.prog EL28 := EnvOk.nil.add Try.func35 rfl (by kernel_rfl) k35
def simpl_IsPile_l0 : LS := ⟨[(1, .one (.fix (.ptr 0 0))), (3, .one (.dat (.int .i64))), (31, .one (.dat (.slice TLot))), (32, .one (.dat (.int .i64))), (33, .one (.dat (.int .i64)))], [.box [.dat .bool, .dat (.int .i64), .dat (.slice TLot)]], []⟩
def simpl_IsPile_l0x0 : LS := ⟨[(2, .one (.dat .bool))], [], []⟩
def simpl_IsPile_l0x1 : LS := ⟨[(1, .one (.fix (.ptr 0 0))), (3, .one (.dat (.int .i64)))], [.box [.dat .bool, .dat (.int .i64), .dat (.slice TLot)]], []⟩
def ximpl_IsPile_l0 : List (XS ((List DLot) × Int × Bool × Int × (List DLot))) := [⟨.ret, ⟨[2], [], [], []⟩, simpl_IsPile_l0x0, Bool, fun i y => ((y, ()), ())⟩,
  ⟨.exit 0, ⟨[1, 3], [.slot 1], [], []⟩, simpl_IsPile_l0x1, Int, fun i y => (((), (y, ())), ((i.2.2.1, (i.2.2.2.1, (i.2.2.2.2, ()))), ()))⟩]
def impl_IsPile_l0K {R : Type} (a1 : List DLot) (a2 : Int) (rc : Int → Int → Option R) (fin : (Bool ⊕ Int) → Option R) (a0 : Int) (a3 : Int) : Option R :=
  cond (decide (a3 < a2))
  ((lat a1 a3).bind fun e1 =>
    (impl_isLot e1).bind fun y2 =>
    cond (!y2)
    (fin (.inl false))
    (rc (IntKind.i64.wrap (a0 + e1.1)) (IntKind.i64.wrap (a3 + 1))))
  (fin (.inr a0))
def impl_IsPile_l0F (a1 : List DLot) (a2 : Int) (r : (Int × Int) → Option (Bool ⊕ Int)) (x : Int × Int) : Option (Bool ⊕ Int) := impl_IsPile_l0K a1 a2 (fun a0 a3 => r (a0, a3)) some x.1 x.2
theorem impl_IsPile_l0c (a1 : List DLot) (a2 : Int) (x : Int × Int) : Ct fun r => impl_IsPile_l0F a1 a2 r x := by
  unfold impl_IsPile_l0F impl_IsPile_l0K
  repeat' (first | exact Ct.const | exact Ct.call | refine Ct.cond ?_ ?_ | refine Ct.bind ?_ fun _ => ?_ | refine Ct.sum (fun _ => ?_) fun _ => ?_)
def impl_IsPile_l0 (a1 : List DLot) (a2 : Int) (a0 : Int) (a3 : Int) : Option (Bool ⊕ Int) := lim (impl_IsPile_l0F a1 a2) (a0, a3)
theorem impl_IsPile_l0_eq (a1 : List DLot) (a2 : Int) (a0 : Int) (a3 : Int) : impl_IsPile_l0 a1 a2 a0 a3 = impl_IsPile_l0K a1 a2 (impl_IsPile_l0 a1 a2) some a0 a3 := lim_eq (impl_IsPile_l0c a1 a2) (a0, a3)
theorem impl_IsPile_l0p {R : Type} (a1 : List DLot) (a2 : Int) {rc : Int → Int → Option (Bool ⊕ Int)} {rc' : Int → Int → Option R} {fin : (Bool ⊕ Int) → Option R} (hr : ∀ a0 a3, Par fin (rc a0 a3) (rc' a0 a3)) (a0 : Int) (a3 : Int) : Par fin (impl_IsPile_l0K a1 a2 rc some a0 a3) (impl_IsPile_l0K a1 a2 rc' fin a0 a3) := by
  unfold impl_IsPile_l0K
  repeat' (first | exact .fin | exact .none | exact hr _ _ | refine .cond ?_ ?_ | refine .bind fun _ => ?_ | refine .sum (fun _ => ?_) fun _ => ?_)
def Limpl_IsPile_l0 : Loop := mkL ⟨[1, 3, 31, 32, 33], [.slot 1], [], []⟩ simpl_IsPile_l0 ximpl_IsPile_l0 (fun (x : (Unit × Int × (List DLot) × Int × Int × Unit) × ((Bool × Int × (List DLot) × Unit) × Unit)) => (x.1.2.2.1, (x.1.2.2.2.1, (x.2.1.1, (x.2.1.2.1, x.2.1.2.2.1))))) fun (x : (Unit × Int × (List DLot) × Int × Int × Unit) × ((Bool × Int × (List DLot) × Unit) × Unit)) => impl_IsPile_l0 x.1.2.2.1 x.1.2.2.2.1 x.1.2.1 x.1.2.2.2.2.1
def impl_IsPileK {R : Type} (fin : Bool → Option R) (x0 : DPile) : Option R :=
  cond (decide (x0.2.1 < 0))
  (fin false)
  (cond (decide (x0.2.1 > 10000000))
    (fin false)
    (cond (decide ((x0.2.2.1.length : Int) > 40))
      (fin false)
      (cond (x0.1)
        (cond (decide ((x0.2.2.1.length : Int) > 1))
          (fin false)
          ((impl_IsPile_l0 x0.2.2.1 (x0.2.2.1.length : Int) 0 0).bind fun y3 =>
            sumO y3 (fun y4 =>
            fin y4)
            (fun y5 =>
            fin (decide (y5 ≤ x0.2.1)))))
        ((impl_IsPile_l0 x0.2.2.1 (x0.2.2.1.length : Int) 0 0).bind fun y6 =>
          sumO y6 (fun y7 =>
          fin y7)
          (fun y8 =>
          fin (decide (y8 ≤ x0.2.1)))))))
def impl_IsPile (x0 : DPile) : Option (Bool) := impl_IsPileK some x0
theorem p28 {R : Type} (fin : Bool → Option R) (x0 : DPile) : Par fin (impl_IsPileK some x0) (impl_IsPileK fin x0) := by
  unfold impl_IsPileK
  repeat' (first | exact .fin | exact .none | refine .cond ?_ ?_ | refine .bind fun _ => ?_ | refine .sum (fun _ => ?_) fun _ => ?_)
def or28 : Ora := { lo := addL 5 (Limpl_IsPile_l0) lo0, fin := [] }
theorem impl_IsPile_l0e (a1 : List DLot) (a2 : Int) (a4 : Bool) (a5 : Int) (a6 : List DLot) (k : Nat) (a0 : Int) (a3 : Int) : loopC Try.prog EL28 or28 ((loopsIn (codeOf Try.f28)).getD 0 .skip) (Limpl_IsPile_l0).h (Limpl_IsPile_l0).ho Try.f28.ntmps (k + 1) (simpl_IsPile_l0.out (((), (a0, (a1, (a2, (a3, ()))))), ((a4, (a5, (a6, ()))), ()))) =
    impl_IsPile_l0K a1 a2 (fun a0 a3 => loopC Try.prog EL28 or28 ((loopsIn (codeOf Try.f28)).getD 0 .skip) (Limpl_IsPile_l0).h (Limpl_IsPile_l0).ho Try.f28.ntmps k (simpl_IsPile_l0.out (((), (a0, (a1, (a2, (a3, ()))))), ((a4, (a5, (a6, ()))), ())))) (fun y => some (XS.out ximpl_IsPile_l0 (a1, (a2, (a4, (a5, a6)))) y)) a0 a3 := by kernel_rfl
theorem impl_IsPile_l0o : LoopOk Try.prog EL28 or28 Try.f28.ntmps ((loopsIn (codeOf Try.f28)).getD 0 .skip) (Limpl_IsPile_l0) :=
  loop_lim (hs := simpl_IsPile_l0) (xs := ximpl_IsPile_l0) (ι := fun (x : (Unit × Int × (List DLot) × Int × Int × Unit) × ((Bool × Int × (List DLot) × Unit) × Unit)) => (x.1.2.2.1, (x.1.2.2.2.1, (x.2.1.1, (x.2.1.2.1, x.2.1.2.2.1))))) (φ := fun (x : (Unit × Int × (List DLot) × Int × Int × Unit) × ((Bool × Int × (List DLot) × Unit) × Unit)) => (x.1.2.1, x.1.2.2.2.2.1)) (ψ := fun (i : (List DLot) × Int × Bool × Int × (List DLot)) (v : Int × Int) => (((), (v.1, (i.1, (i.2.1, (v.2, ()))))), ((i.2.2.1, (i.2.2.2.1, (i.2.2.2.2, ()))), ()))) (F := fun (i : (List DLot) × Int × Bool × Int × (List DLot)) => impl_IsPile_l0F i.1 i.2.1) (fun _ => rfl) fun i k hk v => Par.of_eq (impl_IsPile_l0e i.1 i.2.1 i.2.2.1 i.2.2.2.1 i.2.2.2.2 k v.1 v.2) (impl_IsPile_l0p i.1 i.2.1 (fun a0 a3 => hk (a0, a3)) v.1 v.2)
def c28 : Callee := mkC [.agg [.ro TPile]] 1 [.one (.ro .bool)] fun x => impl_IsPile x
theorem e28 (x : PK.dens [.agg [.ro TPile]]) : evalFn Try.prog EL28 or28 Try.f28 (PK.outs [.agg [.ro TPile]] x) =
    impl_IsPileK (fun y => some (tupOf ((PK.outs [.one (.ro .bool)] y).take 1), (PK.outs [.one (.ro .bool)] y).drop 1)) x := by kernel_rfl
theorem o28 : LoOk Try.prog EL28 or28 Try.f28.ntmps (loopsIn (codeOf Try.f28)) :=
  LoOk.mk (m := 1) (by kernel_rfl) fun i hi => match i, hi with
    | 0, _ => ⟨Limpl_IsPile_l0, by kernel_rfl, impl_IsPile_l0o⟩
    | i + 1, hi => absurd hi (by omega)
theorem k28 : CalleeOk Try.prog 28 c28 := callee_mk Try.func28 (code := codeOf Try.f28) (by kernel_rfl) vL28 mixed o28 fun x y h => (e28 x).trans (p28 _ x y h)

/-- impl.lotSum -/
def EL33 : Nat → Option Callee := env0
theorem vL33 : EnvOk Try.prog EL33 := EnvOk.nil
def simpl_lotSum_l0 : LS := ⟨[(2, .one (.fix (.ptr 0 0))), (3, .one (.fix (.ptr 1 0))), (7, .one (.dat (.slice TLot))), (8, .one (.dat (.int .i64))), (9, .one (.dat (.int .i64)))], [.box [.dat (.int .i64), .dat (.int .i64)], .box [.dat (.int .i64), .dat (.int .i64)]], []⟩
def simpl_lotSum_l0x0 : LS := ⟨[(2, .one (.fix (.ptr 0 0))), (3, .one (.fix (.ptr 1 0)))], [.box [.dat (.int .i64), .dat (.int .i64)], .box [.dat (.int .i64), .dat (.int .i64)]], []⟩
def ximpl_lotSum_l0 : List (XS ((List DLot) × Int × Int × Int)) := [⟨.exit 0, ⟨[2, 3], [.slot 2, .slot 3], [], []⟩, simpl_lotSum_l0x0, Int × Int, fun i y => (((), ((), ())), ((i.2.2.1, (i.2.2.2, ())), ((y.1, (y.2, ())), ())))⟩]
def impl_lotSum_l0K {R : Type} (a0 : List DLot) (a1 : Int) (rc : Int → Int → Int → Option R) (fin : Int × Int → Option R) (a2 : Int) (a5 : Int) (a6 : Int) : Option R :=
  cond (decide (a2 < a1))
  ((lat a0 a2).bind fun e1 =>
    rc (IntKind.i64.wrap (a2 + 1)) (IntKind.i64.wrap (a5 + e1.1)) (IntKind.i64.wrap (a6 + e1.2.1)))
  (fin (a5, a6))
def impl_lotSum_l0F (a0 : List DLot) (a1 : Int) (r : (Int × Int × Int) → Option (Int × Int)) (x : Int × Int × Int) : Option (Int × Int) := impl_lotSum_l0K a0 a1 (fun a2 a5 a6 => r (a2, (a5, a6))) some x.1 x.2.1 x.2.2
theorem impl_lotSum_l0c (a0 : List DLot) (a1 : Int) (x : Int × Int × Int) : Ct fun r => impl_lotSum_l0F a0 a1 r x := by
  unfold impl_lotSum_l0F impl_lotSum_l0K
  repeat' (first | exact Ct.const | exact Ct.call | refine Ct.cond ?_ ?_ | refine Ct.bind ?_ fun _ => ?_ | refine Ct.sum (fun _ => ?_) fun _ => ?_)
def impl_lotSum_l0 (a0 : List DLot) (a1 : Int) (a2 : Int) (a5 : Int) (a6 : Int) : Option (Int × Int) := lim (impl_lotSum_l0F a0 a1) (a2, (a5, a6))
theorem impl_lotSum_l0_eq (a0 : List DLot) (a1 : Int) (a2 : Int) (a5 : Int) (a6 : Int) : impl_lotSum_l0 a0 a1 a2 a5 a6 = impl_lotSum_l0K a0 a1 (impl_lotSum_l0 a0 a1) some a2 a5 a6 := lim_eq (impl_lotSum_l0c a0 a1) (a2, (a5, a6))
theorem impl_lotSum_l0p {R : Type} (a0 : List DLot) (a1 : Int) {rc : Int → Int → Int → Option (Int × Int)} {rc' : Int → Int → Int → Option R} {fin : Int × Int → Option R} (hr : ∀ a2 a5 a6, Par fin (rc a2 a5 a6) (rc' a2 a5 a6)) (a2 : Int) (a5 : Int) (a6 : Int) : Par fin (impl_lotSum_l0K a0 a1 rc some a2 a5 a6) (impl_lotSum_l0K a0 a1 rc' fin a2 a5 a6) := by
  unfold impl_lotSum_l0K
  repeat' (first | exact .fin | exact .none | exact hr _ _ _ | refine .cond ?_ ?_ | refine .bind fun _ => ?_ | refine .sum (fun _ => ?_) fun _ => ?_)
def Limpl_lotSum_l0 : Loop := mkL ⟨[2, 3, 7, 8, 9], [.slot 2, .slot 3], [], []⟩ simpl_lotSum_l0 ximpl_lotSum_l0 (fun (x : (Unit × Unit × (List DLot) × Int × Int × Unit) × ((Int × Int × Unit) × (Int × Int × Unit) × Unit)) => (x.1.2.2.1, (x.1.2.2.2.1, (x.2.1.1, x.2.1.2.1)))) fun (x : (Unit × Unit × (List DLot) × Int × Int × Unit) × ((Int × Int × Unit) × (Int × Int × Unit) × Unit)) => impl_lotSum_l0 x.1.2.2.1 x.1.2.2.2.1 x.1.2.2.2.2.1 x.2.2.1.1 x.2.2.1.2.1
def impl_lotSumK {R : Type} (fin : DLot → Option R) (x0 : List DLot) : Option R :=
  (impl_lotSum_l0 x0 (x0.length : Int) 0 0 0).bind fun y2 =>
  fin (y2.1, (y2.2, ()))
def impl_lotSum (x0 : List DLot) : Option (DLot) := impl_lotSumK some x0
theorem p33 {R : Type} (fin : DLot → Option R) (x0 : List DLot) : Par fin (impl_lotSumK some x0) (impl_lotSumK fin x0) := by
  unfold impl_lotSumK
  repeat' (first | exact .fin | exact .none | refine .cond ?_ ?_ | refine .bind fun _ => ?_ | refine .sum (fun _ => ?_) fun _ => ?_)
def or33 : Ora := { lo := addL 3 (Limpl_lotSum_l0) lo0, fin := [] }
theorem impl_lotSum_l0e (a0 : List DLot) (a1 : Int) (a3 : Int) (a4 : Int) (k : Nat) (a2 : Int) (a5 : Int) (a6 : Int) : loopC Try.prog EL33 or33 ((loopsIn (codeOf Try.f33)).getD 0 .skip) (Limpl_lotSum_l0).h (Limpl_lotSum_l0).ho Try.f33.ntmps (k + 1) (simpl_lotSum_l0.out (((), ((), (a0, (a1, (a2, ()))))), ((a3, (a4, ())), ((a5, (a6, ())), ())))) =
    impl_lotSum_l0K a0 a1 (fun a2 a5 a6 => loopC Try.prog EL33 or33 ((loopsIn (codeOf Try.f33)).getD 0 .skip) (Limpl_lotSum_l0).h (Limpl_lotSum_l0).ho Try.f33.ntmps k (simpl_lotSum_l0.out (((), ((), (a0, (a1, (a2, ()))))), ((a3, (a4, ())), ((a5, (a6, ())), ()))))) (fun y => some (XS.out ximpl_lotSum_l0 (a0, (a1, (a3, a4))) y)) a2 a5 a6 := by kernel_rfl
theorem impl_lotSum_l0o : LoopOk Try.prog EL33 or33 Try.f33.ntmps ((loopsIn (codeOf Try.f33)).getD 0 .skip) (Limpl_lotSum_l0) :=
  loop_lim (hs := simpl_lotSum_l0) (xs := ximpl_lotSum_l0) (ι := fun (x : (Unit × Unit × (List DLot) × Int × Int × Unit) × ((Int × Int × Unit) × (Int × Int × Unit) × Unit)) => (x.1.2.2.1, (x.1.2.2.2.1, (x.2.1.1, x.2.1.2.1)))) (φ := fun (x : (Unit × Unit × (List DLot) × Int × Int × Unit) × ((Int × Int × Unit) × (Int × Int × Unit) × Unit)) => (x.1.2.2.2.2.1, (x.2.2.1.1, x.2.2.1.2.1))) (ψ := fun (i : (List DLot) × Int × Int × Int) (v : Int × Int × Int) => (((), ((), (i.1, (i.2.1, (v.1, ()))))), ((i.2.2.1, (i.2.2.2, ())), ((v.2.1, (v.2.2, ())), ())))) (F := fun (i : (List DLot) × Int × Int × Int) => impl_lotSum_l0F i.1 i.2.1) (fun _ => rfl) fun i k hk v => Par.of_eq (impl_lotSum_l0e i.1 i.2.1 i.2.2.1 i.2.2.2 k v.1 v.2.1 v.2.2) (impl_lotSum_l0p i.1 i.2.1 (fun a2 a5 a6 => hk (a2, (a5, a6))) v.1 v.2.1 v.2.2)
def c33 : Callee := mkC [.one (.ro (.slice TLot))] 1 [.agg [.ro TLot]] fun x => impl_lotSum x
theorem e33 (x : PK.dens [.one (.ro (.slice TLot))]) : evalFn Try.prog EL33 or33 Try.f33 (PK.outs [.one (.ro (.slice TLot))] x) =
    impl_lotSumK (fun y => some (tupOf ((PK.outs [.agg [.ro TLot]] y).take 1), (PK.outs [.agg [.ro TLot]] y).drop 1)) x := by kernel_rfl
theorem o33 : LoOk Try.prog EL33 or33 Try.f33.ntmps (loopsIn (codeOf Try.f33)) :=
  LoOk.mk (m := 1) (by kernel_rfl) fun i hi => match i, hi with
    | 0, _ => ⟨Limpl_lotSum_l0, by kernel_rfl, impl_lotSum_l0o⟩
    | i + 1, hi => absurd hi (by omega)
theorem k33 : CalleeOk Try.prog 33 c33 := callee_mk Try.func33 (code := codeOf Try.f33) (by kernel_rfl) vL33 mixed o33 fun x y h => (e33 x).trans (p33 _ x y h)

/-- impl.splitOff -/
def EL36 : Nat → Option Callee := env0
theorem vL36 : EnvOk Try.prog EL36 := EnvOk.nil
def impl_splitOffK {R : Type} (fin : DLot → Option R) (x0 : DLot) (x1 : Int) : Option R :=
  cond (decide (x0.1 = 0))
  (none)
  (fin (x1, (IntKind.i64.wrap ((IntKind.i64.wrap (x0.2.1 * x1)).tdiv x0.1), ())))
def impl_splitOff (x0 : DLot) (x1 : Int) : Option (DLot) := impl_splitOffK some x0 x1
theorem p36 {R : Type} (fin : DLot → Option R) (x0 : DLot) (x1 : Int) : Par fin (impl_splitOffK some x0 x1) (impl_splitOffK fin x0 x1) := by
  unfold impl_splitOffK
  repeat' (first | exact .fin | exact .none | refine .cond ?_ ?_ | refine .bind fun _ => ?_ | refine .sum (fun _ => ?_) fun _ => ?_)
def c36 : Callee := mkC [.agg [.ro TLot], .one (.ro (.int .i64))] 1 [.agg [.ro TLot]] fun x => impl_splitOff x.1 x.2
theorem e36 (x : PK.dens [.agg [.ro TLot], .one (.ro (.int .i64))]) : evalFn Try.prog EL36 or0 Try.f36 (PK.outs [.agg [.ro TLot], .one (.ro (.int .i64))] x) =
    impl_splitOffK (fun y => some (tupOf ((PK.outs [.agg [.ro TLot]] y).take 1), (PK.outs [.agg [.ro TLot]] y).drop 1)) x.1 x.2 := by kernel_rfl
theorem k36 : CalleeOk Try.prog 36 c36 := callee_mk Try.func36 (code := codeOf Try.f36) (by kernel_rfl) vL36 mixed (LoOk.nil (by kernel_rfl)) fun x y h => (e36 x).trans (p36 _ x.1 x.2 y h)

/-- impl.takeTonnes -/
def EL29 : Nat → Option Callee := addE 35 c35 (addE 36 c36 (addE 33 c33 env0))
theorem vL29 : EnvOk Try.prog EL29 := ((EnvOk.nil.add Try.func33 rfl (by kernel_rfl) k33).add Try.func36 rfl (by kernel_rfl) k36).add Try.func35 rfl (by kernel_rfl) k35
def simpl_takeTonnes_l0 : LS := ⟨[(1, .one (.dat (.int .i64))), (4, .one (.fix (.ptr 0 0))), (5, .one (.fix (.ptr 1 0))), (7, .one (.fix (.ptr 2 0))), (8, .one (.fix (.ptr 4 0))), (27, .one (.dat (.slice TLot))), (28, .one (.dat (.int .i64))), (29, .one (.dat (.int .i64)))], [.box [.dat .bool, .dat (.int .i64), .fix .nils], .box [.dat (.int .i64), .dat (.int .i64)], .box [.dat .bool, .dat (.int .i64), .fix (.sref 3)], .sl TLot, .box [.dat (.int .i64), .dat (.int .i64)]], []⟩
def simpl_takeTonnes_l0x0 : LS := ⟨[(4, .one (.fix (.ptr 0 0))), (5, .one (.fix (.ptr 1 0))), (7, .one (.fix (.ptr 2 0))), (8, .one (.fix (.ptr 4 0)))], [.box [.dat .bool, .dat (.int .i64), .fix .nils], .box [.dat (.int .i64), .dat (.int .i64)], .box [.dat .bool, .dat (.int .i64), .fix (.sref 3)], .sl TLot, .box [.dat (.int .i64), .dat (.int .i64)]], []⟩
def ximpl_takeTonnes_l0 : List (XS ((List DLot) × Int × Bool × Int × Int × Int × Bool × Int)) := [⟨.exit 0, ⟨[4, 5, 7, 8], [.slot 4, .slot 5, .slot 7, .cell 7 2, .slot 8], [], []⟩, simpl_takeTonnes_l0x0, (List DLot) × Int × Int, fun i y => (((), ((), ((), ((), ())))), ((i.2.2.1, (i.2.2.2.1, ((), ()))), ((i.2.2.2.2.1, (i.2.2.2.2.2.1, ())), ((i.2.2.2.2.2.2.1, (i.2.2.2.2.2.2.2, ((), ()))), (y.1, ((y.2.1, (y.2.2, ())), ()))))))⟩]
def impl_takeTonnes_l0K {R : Type} (a1 : List DLot) (a2 : Int) (rc : Int → Int → List DLot → Int → Int → Option R) (fin : (List DLot) × Int × Int → Option R) (a0 : Int) (a3 : Int) (a10 : List DLot) (a11 : Int) (a12 : Int) : Option R :=
  cond (decide (a3 < a2))
  ((lat a1 a3).bind fun e1 =>
    (impl_splitOff e1 (if a0 < e1.1 then a0 else e1.1)).bind fun y2 =>
    (impl_lotSum [(a11, (a12, ())), y2]).bind fun y3 =>
    cond (decide (y2.1 < e1.1))
    (cond (decide (a10.length + [(IntKind.i64.wrap (e1.1 - y2.1), (IntKind.i64.wrap (e1.2.1 - y2.2.1), ()))].length ≤ 1099511627776))
      ((some (a10 ++ [(IntKind.i64.wrap (e1.1 - y2.1), (IntKind.i64.wrap (e1.2.1 - y2.2.1), ()))])).bind fun v4 =>
        rc (IntKind.i64.wrap (a0 - y2.1)) (IntKind.i64.wrap (a3 + 1)) v4 y3.1 y3.2.1)
      (none))
    (rc (IntKind.i64.wrap (a0 - y2.1)) (IntKind.i64.wrap (a3 + 1)) a10 y3.1 y3.2.1))
  (fin (a10, (a11, a12)))
def impl_takeTonnes_l0F (a1 : List DLot) (a2 : Int) (r : (Int × Int × (List DLot) × Int × Int) → Option ((List DLot) × Int × Int)) (x : Int × Int × (List DLot) × Int × Int) : Option ((List DLot) × Int × Int) := impl_takeTonnes_l0K a1 a2 (fun a0 a3 a10 a11 a12 => r (a0, (a3, (a10, (a11, a12))))) some x.1 x.2.1 x.2.2.1 x.2.2.2.1 x.2.2.2.2
theorem impl_takeTonnes_l0c (a1 : List DLot) (a2 : Int) (x : Int × Int × (List DLot) × Int × Int) : Ct fun r => impl_takeTonnes_l0F a1 a2 r x := by
  unfold impl_takeTonnes_l0F impl_takeTonnes_l0K
  repeat' (first | exact Ct.const | exact Ct.call | refine Ct.cond ?_ ?_ | refine Ct.bind ?_ fun _ => ?_ | refine Ct.sum (fun _ => ?_) fun _ => ?_)
def impl_takeTonnes_l0 (a1 : List DLot) (a2 : Int) (a0 : Int) (a3 : Int) (a10 : List DLot) (a11 : Int) (a12 : Int) : Option ((List DLot) × Int × Int) := lim (impl_takeTonnes_l0F a1 a2) (a0, (a3, (a10, (a11, a12))))
theorem impl_takeTonnes_l0_eq (a1 : List DLot) (a2 : Int) (a0 : Int) (a3 : Int) (a10 : List DLot) (a11 : Int) (a12 : Int) : impl_takeTonnes_l0 a1 a2 a0 a3 a10 a11 a12 = impl_takeTonnes_l0K a1 a2 (impl_takeTonnes_l0 a1 a2) some a0 a3 a10 a11 a12 := lim_eq (impl_takeTonnes_l0c a1 a2) (a0, (a3, (a10, (a11, a12))))
theorem impl_takeTonnes_l0p {R : Type} (a1 : List DLot) (a2 : Int) {rc : Int → Int → List DLot → Int → Int → Option ((List DLot) × Int × Int)} {rc' : Int → Int → List DLot → Int → Int → Option R} {fin : (List DLot) × Int × Int → Option R} (hr : ∀ a0 a3 a10 a11 a12, Par fin (rc a0 a3 a10 a11 a12) (rc' a0 a3 a10 a11 a12)) (a0 : Int) (a3 : Int) (a10 : List DLot) (a11 : Int) (a12 : Int) : Par fin (impl_takeTonnes_l0K a1 a2 rc some a0 a3 a10 a11 a12) (impl_takeTonnes_l0K a1 a2 rc' fin a0 a3 a10 a11 a12) := by
  unfold impl_takeTonnes_l0K
  repeat' (first | exact .fin | exact .none | exact hr _ _ _ _ _ | refine .cond ?_ ?_ | refine .bind fun _ => ?_ | refine .sum (fun _ => ?_) fun _ => ?_)
def Limpl_takeTonnes_l0 : Loop := mkL ⟨[1, 4, 5, 7, 8, 27, 28, 29], [.slot 4, .slot 5, .slot 7, .cell 7 2, .slot 8], [], [.own (.cell 7 2) TLot]⟩ simpl_takeTonnes_l0 ximpl_takeTonnes_l0 (fun (x : (Int × Unit × Unit × Unit × Unit × (List DLot) × Int × Int × Unit) × ((Bool × Int × Unit × Unit) × (Int × Int × Unit) × (Bool × Int × Unit × Unit) × (List DLot) × (Int × Int × Unit) × Unit)) => (x.1.2.2.2.2.2.1, (x.1.2.2.2.2.2.2.1, (x.2.1.1, (x.2.1.2.1, (x.2.2.1.1, (x.2.2.1.2.1, (x.2.2.2.1.1, x.2.2.2.1.2.1)))))))) fun (x : (Int × Unit × Unit × Unit × Unit × (List DLot) × Int × Int × Unit) × ((Bool × Int × Unit × Unit) × (Int × Int × Unit) × (Bool × Int × Unit × Unit) × (List DLot) × (Int × Int × Unit) × Unit)) => impl_takeTonnes_l0 x.1.2.2.2.2.2.1 x.1.2.2.2.2.2.2.1 x.1.1 x.1.2.2.2.2.2.2.2.1 x.2.2.2.2.1 x.2.2.2.2.2.1.1 x.2.2.2.2.2.1.2.1
def impl_takeTonnesK {R : Type} (fin : (Bool × Int × (List DLot)) × DLot × Bool → Option R) (x0 : DPile) (x1 : Int) : Option R :=
  (impl_lotSum x0.2.2.1).bind fun y1 =>
  cond (decide (y1.1 < x1))
  (fin ((false, (0, [])), ((0, (0, ())), false)))
  ((impl_takeTonnes_l0 x0.2.2.1 (x0.2.2.1.length : Int) x1 0 [] 0 0).bind fun y10 =>
    (impl_isLot (y10.2.1, (y10.2.2, ()))).bind fun y11 =>
    cond (!y11)
    (fin ((false, (0, [])), ((0, (0, ())), false)))
    (fin ((x0.1, (x0.2.1, y10.1)), ((y10.2.1, (y10.2.2, ())), true))))
def impl_takeTonnes (x0 : DPile) (x1 : Int) : Option ((Bool × Int × (List DLot)) × DLot × Bool) := impl_takeTonnesK some x0 x1
theorem p29 {R : Type} (fin : (Bool × Int × (List DLot)) × DLot × Bool → Option R) (x0 : DPile) (x1 : Int) : Par fin (impl_takeTonnesK some x0 x1) (impl_takeTonnesK fin x0 x1) := by
  unfold impl_takeTonnesK
  repeat' (first | exact .fin | exact .none | refine .cond ?_ ?_ | refine .bind fun _ => ?_ | refine .sum (fun _ => ?_) fun _ => ?_)
def or29 : Ora := { lo := addL 6 (Limpl_takeTonnes_l0) lo0, fin := [.own (.cell 4 2) TLot] }
theorem impl_takeTonnes_l0e (a1 : List DLot) (a2 : Int) (a4 : Bool) (a5 : Int) (a6 : Int) (a7 : Int) (a8 : Bool) (a9 : Int) (k : Nat) (a0 : Int) (a3 : Int) (a10 : List DLot) (a11 : Int) (a12 : Int) : loopC Try.prog EL29 or29 ((loopsIn (codeOf Try.f29)).getD 0 .skip) (Limpl_takeTonnes_l0).h (Limpl_takeTonnes_l0).ho Try.f29.ntmps (k + 1) (simpl_takeTonnes_l0.out ((a0, ((), ((), ((), ((), (a1, (a2, (a3, ())))))))), ((a4, (a5, ((), ()))), ((a6, (a7, ())), ((a8, (a9, ((), ()))), (a10, ((a11, (a12, ())), ()))))))) =
    impl_takeTonnes_l0K a1 a2 (fun a0 a3 a10 a11 a12 => loopC Try.prog EL29 or29 ((loopsIn (codeOf Try.f29)).getD 0 .skip) (Limpl_takeTonnes_l0).h (Limpl_takeTonnes_l0).ho Try.f29.ntmps k (simpl_takeTonnes_l0.out ((a0, ((), ((), ((), ((), (a1, (a2, (a3, ())))))))), ((a4, (a5, ((), ()))), ((a6, (a7, ())), ((a8, (a9, ((), ()))), (a10, ((a11, (a12, ())), ())))))))) (fun y => some (XS.out ximpl_takeTonnes_l0 (a1, (a2, (a4, (a5, (a6, (a7, (a8, a9))))))) y)) a0 a3 a10 a11 a12 := by kernel_rfl
theorem impl_takeTonnes_l0o : LoopOk Try.prog EL29 or29 Try.f29.ntmps ((loopsIn (codeOf Try.f29)).getD 0 .skip) (Limpl_takeTonnes_l0) :=
  loop_lim (hs := simpl_takeTonnes_l0) (xs := ximpl_takeTonnes_l0) (ι := fun (x : (Int × Unit × Unit × Unit × Unit × (List DLot) × Int × Int × Unit) × ((Bool × Int × Unit × Unit) × (Int × Int × Unit) × (Bool × Int × Unit × Unit) × (List DLot) × (Int × Int × Unit) × Unit)) => (x.1.2.2.2.2.2.1, (x.1.2.2.2.2.2.2.1, (x.2.1.1, (x.2.1.2.1, (x.2.2.1.1, (x.2.2.1.2.1, (x.2.2.2.1.1, x.2.2.2.1.2.1)))))))) (φ := fun (x : (Int × Unit × Unit × Unit × Unit × (List DLot) × Int × Int × Unit) × ((Bool × Int × Unit × Unit) × (Int × Int × Unit) × (Bool × Int × Unit × Unit) × (List DLot) × (Int × Int × Unit) × Unit)) => (x.1.1, (x.1.2.2.2.2.2.2.2.1, (x.2.2.2.2.1, (x.2.2.2.2.2.1.1, x.2.2.2.2.2.1.2.1))))) (ψ := fun (i : (List DLot) × Int × Bool × Int × Int × Int × Bool × Int) (v : Int × Int × (List DLot) × Int × Int) => ((v.1, ((), ((), ((), ((), (i.1, (i.2.1, (v.2.1, ())))))))), ((i.2.2.1, (i.2.2.2.1, ((), ()))), ((i.2.2.2.2.1, (i.2.2.2.2.2.1, ())), ((i.2.2.2.2.2.2.1, (i.2.2.2.2.2.2.2, ((), ()))), (v.2.2.1, ((v.2.2.2.1, (v.2.2.2.2, ())), ()))))))) (F := fun (i : (List DLot) × Int × Bool × Int × Int × Int × Bool × Int) => impl_takeTonnes_l0F i.1 i.2.1) (fun _ => rfl) fun i k hk v => Par.of_eq (impl_takeTonnes_l0e i.1 i.2.1 i.2.2.1 i.2.2.2.1 i.2.2.2.2.1 i.2.2.2.2.2.1 i.2.2.2.2.2.2.1 i.2.2.2.2.2.2.2 k v.1 v.2.1 v.2.2.1 v.2.2.2.1 v.2.2.2.2) (impl_takeTonnes_l0p i.1 i.2.1 (fun a0 a3 a10 a11 a12 => hk (a0, (a3, (a10, (a11, a12))))) v.1 v.2.1 v.2.2.1 v.2.2.2.1 v.2.2.2.2)
def c29 : Callee := mkC [.agg [.ro TPile], .one (.ro (.int .i64))] 3 [.agg [.ro .bool, .ro (.int .i64), .sl TLot], .agg [.ro TLot], .one (.ro .bool)] fun x => impl_takeTonnes x.1 x.2
theorem e29 (x : PK.dens [.agg [.ro TPile], .one (.ro (.int .i64))]) : evalFn Try.prog EL29 or29 Try.f29 (PK.outs [.agg [.ro TPile], .one (.ro (.int .i64))] x) =
    impl_takeTonnesK (fun y => some (tupOf ((PK.outs [.agg [.ro .bool, .ro (.int .i64), .sl TLot], .agg [.ro TLot], .one (.ro .bool)] y).take 3), (PK.outs [.agg [.ro .bool, .ro (.int .i64), .sl TLot], .agg [.ro TLot], .one (.ro .bool)] y).drop 3)) x.1 x.2 := by kernel_rfl
theorem o29 : LoOk Try.prog EL29 or29 Try.f29.ntmps (loopsIn (codeOf Try.f29)) :=
  LoOk.mk (m := 1) (by kernel_rfl) fun i hi => match i, hi with
    | 0, _ => ⟨Limpl_takeTonnes_l0, by kernel_rfl, impl_takeTonnes_l0o⟩
    | i + 1, hi => absurd hi (by omega)
theorem k29 : CalleeOk Try.prog 29 c29 := callee_mk Try.func29 (code := codeOf Try.f29) (by kernel_rfl) vL29 mixed o29 fun x y h => (e29 x).trans (p29 _ x.1 x.2 y h)

/-- impl.TakeTonnes -/
def EL6 : Nat → Option Callee := addE 29 c29 (addE 28 c28 env0)
theorem vL6 : EnvOk Try.prog EL6 := (EnvOk.nil.add Try.func28 rfl (by kernel_rfl) k28).add Try.func29 rfl (by kernel_rfl) k29
def impl_TakeTonnesK {R : Type} (fin : (Bool × Int × (List DLot)) × DLot × Bool → Option R) (x0 : DPile) (x1 : Int) : Option R :=
  (impl_IsPile x0).bind fun y1 =>
  cond (!y1)
  (fin ((false, (0, [])), ((0, (0, ())), false)))
  (cond (decide (x1 < 1))
    (fin ((false, (0, [])), ((0, (0, ())), false)))
    ((impl_takeTonnes x0 x1).bind fun y2 =>
      fin y2))
def impl_TakeTonnes (x0 : DPile) (x1 : Int) : Option ((Bool × Int × (List DLot)) × DLot × Bool) := impl_TakeTonnesK some x0 x1
theorem p6 {R : Type} (fin : (Bool × Int × (List DLot)) × DLot × Bool → Option R) (x0 : DPile) (x1 : Int) : Par fin (impl_TakeTonnesK some x0 x1) (impl_TakeTonnesK fin x0 x1) := by
  unfold impl_TakeTonnesK
  repeat' (first | exact .fin | exact .none | refine .cond ?_ ?_ | refine .bind fun _ => ?_ | refine .sum (fun _ => ?_) fun _ => ?_)
def or6 : Ora := { lo := lo0, fin := [.own (.cell 4 2) TLot] }
def c6 : Callee := mkC [.agg [.ro TPile], .one (.ro (.int .i64))] 3 [.agg [.ro .bool, .ro (.int .i64), .sl TLot], .agg [.ro TLot], .one (.ro .bool)] fun x => impl_TakeTonnes x.1 x.2
theorem e6 (x : PK.dens [.agg [.ro TPile], .one (.ro (.int .i64))]) : evalFn Try.prog EL6 or6 Try.f6 (PK.outs [.agg [.ro TPile], .one (.ro (.int .i64))] x) =
    impl_TakeTonnesK (fun y => some (tupOf ((PK.outs [.agg [.ro .bool, .ro (.int .i64), .sl TLot], .agg [.ro TLot], .one (.ro .bool)] y).take 3), (PK.outs [.agg [.ro .bool, .ro (.int .i64), .sl TLot], .agg [.ro TLot], .one (.ro .bool)] y).drop 3)) x.1 x.2 := by kernel_rfl
theorem k6 : CalleeOk Try.prog 6 c6 := callee_mk Try.func6 (code := codeOf Try.f6) (by kernel_rfl) vL6 mixed (LoOk.nil (by kernel_rfl)) fun x y h => (e6 x).trans (p6 _ x.1 x.2 y h)

/-- spec.spSplit -/
def EL39 : Nat → Option Callee := env0
theorem vL39 : EnvOk Try.prog EL39 := EnvOk.nil
def spec_spSplitK {R : Type} (fin : DLot × DLot → Option R) (x0 : DLot) (x1 : Int) : Option R :=
  cond (decide (x0.1 = 0))
  (none)
  ((some (IntKind.i64.wrap (x0.2.1 - (IntKind.i64.wrap ((IntKind.i64.wrap (x0.2.1 * x1)).tdiv x0.1))))).bind fun v1 =>
    fin ((x1, (IntKind.i64.wrap ((IntKind.i64.wrap (x0.2.1 * x1)).tdiv x0.1), ())), (IntKind.i64.wrap (x0.1 - x1), (v1, ()))))
def spec_spSplit (x0 : DLot) (x1 : Int) : Option (DLot × DLot) := spec_spSplitK some x0 x1
theorem p39 {R : Type} (fin : DLot × DLot → Option R) (x0 : DLot) (x1 : Int) : Par fin (spec_spSplitK some x0 x1) (spec_spSplitK fin x0 x1) := by
  unfold spec_spSplitK
  repeat' (first | exact .fin | exact .none | refine .cond ?_ ?_ | refine .bind fun _ => ?_ | refine .sum (fun _ => ?_) fun _ => ?_)
def c39 : Callee := mkC [.agg [.ro TLot], .one (.ro (.int .i64))] 2 [.agg [.ro TLot], .agg [.ro TLot]] fun x => spec_spSplit x.1 x.2
theorem e39 (x : PK.dens [.agg [.ro TLot], .one (.ro (.int .i64))]) : evalFn Try.prog EL39 or0 Try.f39 (PK.outs [.agg [.ro TLot], .one (.ro (.int .i64))] x) =
    spec_spSplitK (fun y => some (tupOf ((PK.outs [.agg [.ro TLot], .agg [.ro TLot]] y).take 2), (PK.outs [.agg [.ro TLot], .agg [.ro TLot]] y).drop 2)) x.1 x.2 := by kernel_rfl
theorem k39 : CalleeOk Try.prog 39 c39 := callee_mk Try.func39 (code := codeOf Try.f39) (by kernel_rfl) vL39 mixed (LoOk.nil (by kernel_rfl)) fun x y h => (e39 x).trans (p39 _ x.1 x.2 y h)

/-- spec.spTake -/
def EL31 : Nat → Option Callee := addE 30 c30 (addE 37 c37 (addE 42 c42 (addE 39 c39 (addE 25 c25 env0))))
theorem vL31 : EnvOk Try.prog EL31 := ((((EnvOk.nil.add Try.func25 rfl (by kernel_rfl) k25).add Try.func39 rfl (by kernel_rfl) k39).add Try.func42 rfl (by kernel_rfl) k42).add Try.func37 rfl (by kernel_rfl) k37).add Try.func30 rfl (by kernel_rfl) k30
def sspec_spTake_l0 : LS := ⟨[(1, .one (.dat (.int .i64))), (2, .one (.fix (.ptr 0 0))), (4, .one (.fix (.ptr 1 0))), (5, .one (.fix (.ptr 2 0))), (9, .one (.fix (.ptr 3 0))), (10, .one (.win 4))], [.box [.dat .bool, .dat (.int .i64), .dat (.slice TLot)], .box [.dat .bool, .dat (.int .i64), .fix .nils], .box [.dat (.int .i64), .dat (.int .i64)], .box [.dat (.int .i64), .dat (.int .i64)], .sl TLot], []⟩
def sspec_spTake_l0x0 : LS := ⟨[(2, .one (.fix (.ptr 0 0))), (4, .one (.fix (.ptr 1 0))), (5, .one (.fix (.ptr 2 0))), (9, .one (.fix (.ptr 3 0))), (10, .one (.win 4))], [.box [.dat .bool, .dat (.int .i64), .dat (.slice TLot)], .box [.dat .bool, .dat (.int .i64), .fix .nils], .box [.dat (.int .i64), .dat (.int .i64)], .box [.dat (.int .i64), .dat (.int .i64)], .sl TLot], []⟩
def xspec_spTake_l0 : List (XS (Int × Bool × Int × (List DLot) × Bool × Int × Int × Int)) := [⟨.exit 0, ⟨[2, 4, 5, 9, 10], [.slot 2, .slot 4, .slot 5, .slot 9, .slot 10], [], []⟩, sspec_spTake_l0x0, Nat × Nat × Int × Int × (List DLot), fun i y => (((), ((), ((), ((), ((y.1, y.2.1), ()))))), ((i.2.1, (i.2.2.1, (i.2.2.2.1, ()))), ((i.2.2.2.2.1, (i.2.2.2.2.2.1, ((), ()))), ((i.2.2.2.2.2.2.1, (i.2.2.2.2.2.2.2, ())), ((y.2.2.1, (y.2.2.2.1, ())), (y.2.2.2.2, ()))))))⟩]
def spec_spTake_l0K {R : Type} (a0 : Int) (rc : Nat → Nat → Int → Int → List DLot → Option R) (fin : Nat × Nat × Int × Int × (List DLot) → Option R) (a1 : Nat) (a2 : Nat) (a10 : Int) (a11 : Int) (a12 : List DLot) : Option R :=
  cond (decide (a10 < a0))
  (cond (decide ((0 : Int) < (((a12.drop a1).take a2).length : Int)))
    (cond (decide ((1 : Int) ≤ (((a12.drop a1).take a2).length : Int)) && decide ((((a12.drop a1).take a2).length : Int) ≤ (((a12.drop a1).take a2).length : Int)))
      (cond (decide ((IntKind.i64.wrap (a0 - a10)) < ((a12.getD (a1 + 0) TLot.dflt).1)))
        ((spec_spSplit ((a12.getD (a1 + 0) TLot.dflt).1, (((a12.getD (a1 + 0) TLot.dflt).2).1, ())) (IntKind.i64.wrap (a0 - a10))).bind fun y1 =>
          cond (decide ([y1.2].length + ((a12.drop (a1 + 1)).take ((((a12.drop a1).take a2).length : Int).toNat - 1)).length ≤ 1099511627776))
          ((some ([y1.2] ++ ((a12.drop (a1 + 1)).take ((((a12.drop a1).take a2).length : Int).toNat - 1)))).bind fun v2 =>
            rc 0 v2.length (IntKind.i64.wrap (a10 + y1.1.1)) (IntKind.i64.wrap (a11 + y1.1.2.1)) v2)
          (none))
        (rc (a1 + 1) ((((a12.drop a1).take a2).length : Int).toNat - 1) (IntKind.i64.wrap (a10 + ((a12.getD (a1 + 0) TLot.dflt).1))) (IntKind.i64.wrap (a11 + (((a12.getD (a1 + 0) TLot.dflt).2).1))) a12))
      (none))
    (none))
  (fin (a1, (a2, (a10, (a11, a12)))))
def spec_spTake_l0F (a0 : Int) (r : (Nat × Nat × Int × Int × (List DLot)) → Option (Nat × Nat × Int × Int × (List DLot))) (x : Nat × Nat × Int × Int × (List DLot)) : Option (Nat × Nat × Int × Int × (List DLot)) := spec_spTake_l0K a0 (fun a1 a2 a10 a11 a12 => r (a1, (a2, (a10, (a11, a12))))) some x.1 x.2.1 x.2.2.1 x.2.2.2.1 x.2.2.2.2
theorem spec_spTake_l0c (a0 : Int) (x : Nat × Nat × Int × Int × (List DLot)) : Ct fun r => spec_spTake_l0F a0 r x := by
  unfold spec_spTake_l0F spec_spTake_l0K
  repeat' (first | exact Ct.const | exact Ct.call | refine Ct.cond ?_ ?_ | refine Ct.bind ?_ fun _ => ?_ | refine Ct.sum (fun _ => ?_) fun _ => ?_)
def spec_spTake_l0 (a0 : Int) (a1 : Nat) (a2 : Nat) (a10 : Int) (a11 : Int) (a12 : List DLot) : Option (Nat × Nat × Int × Int × (List DLot)) := lim (spec_spTake_l0F a0) (a1, (a2, (a10, (a11, a12))))
theorem spec_spTake_l0_eq (a0 : Int) (a1 : Nat) (a2 : Nat) (a10 : Int) (a11 : Int) (a12 : List DLot) : spec_spTake_l0 a0 a1 a2 a10 a11 a12 = spec_spTake_l0K a0 (spec_spTake_l0 a0) some a1 a2 a10 a11 a12 := lim_eq (spec_spTake_l0c a0) (a1, (a2, (a10, (a11, a12))))
theorem spec_spTake_l0p {R : Type} (a0 : Int) {rc : Nat → Nat → Int → Int → List DLot → Option (Nat × Nat × Int × Int × (List DLot))} {rc' : Nat → Nat → Int → Int → List DLot → Option R} {fin : Nat × Nat × Int × Int × (List DLot) → Option R} (hr : ∀ a1 a2 a10 a11 a12, Par fin (rc a1 a2 a10 a11 a12) (rc' a1 a2 a10 a11 a12)) (a1 : Nat) (a2 : Nat) (a10 : Int) (a11 : Int) (a12 : List DLot) : Par fin (spec_spTake_l0K a0 rc some a1 a2 a10 a11 a12) (spec_spTake_l0K a0 rc' fin a1 a2 a10 a11 a12) := by
  unfold spec_spTake_l0K
  repeat' (first | exact .fin | exact .none | exact hr _ _ _ _ _ | refine .cond ?_ ?_ | refine .bind fun _ => ?_ | refine .sum (fun _ => ?_) fun _ => ?_)
def Lspec_spTake_l0 : Loop := mkL ⟨[1, 2, 4, 5, 9, 10], [.slot 2, .slot 4, .slot 5, .slot 9, .slot 10], [], [.win (.slot 10)]⟩ sspec_spTake_l0 xspec_spTake_l0 (fun (x : (Int × Unit × Unit × Unit × Unit × (Nat × Nat) × Unit) × ((Bool × Int × (List DLot) × Unit) × (Bool × Int × Unit × Unit) × (Int × Int × Unit) × (Int × Int × Unit) × (List DLot) × Unit)) => (x.1.1, (x.2.1.1, (x.2.1.2.1, (x.2.1.2.2.1, (x.2.2.1.1, (x.2.2.1.2.1, (x.2.2.2.1.1, x.2.2.2.1.2.1)))))))) fun (x : (Int × Unit × Unit × Unit × Unit × (Nat × Nat) × Unit) × ((Bool × Int × (List DLot) × Unit) × (Bool × Int × Unit × Unit) × (Int × Int × Unit) × (Int × Int × Unit) × (List DLot) × Unit)) => spec_spTake_l0 x.1.1 x.1.2.2.2.2.2.1.1 x.1.2.2.2.2.2.1.2 x.2.2.2.2.1.1 x.2.2.2.2.1.2.1 x.2.2.2.2.2.1
def spec_spTakeK {R : Type} (fin : (Bool × Int × (List DLot)) × DLot × Bool → Option R) (x0 : DPile) (x1 : Int) : Option R :=
  (spec_spSums x0.2.2.1).bind fun y1 =>
  cond (decide (x1 < 1))
  (fin ((false, (0, [])), ((0, (0, ())), false)))
  (cond (decide (x1 > y1.1))
    (fin ((false, (0, [])), ((0, (0, ())), false)))
    (cond (decide (([] : List DLot).length + x0.2.2.1.length ≤ 1099511627776))
      ((spec_spTake_l0 x1 0 ((([] : List DLot) ++ x0.2.2.1).length) 0 0 (([] : List DLot) ++ x0.2.2.1)).bind fun y6 =>
        (spec_spWith x0 ((y6.2.2.2.2.drop y6.1).take y6.2.1)).bind fun y7 =>
        (spec_spLot (y6.2.2.1, (y6.2.2.2.1, ()))).bind fun y8 =>
        cond (!y8)
        (fin ((false, (0, [])), ((0, (0, ())), false)))
        ((spec_spGood (y7.1, (y7.2.1, (y7.2.2, ())))).bind fun y9 =>
          cond (!y9)
          (fin ((false, (0, [])), ((0, (0, ())), false)))
          (fin (y7, ((y6.2.2.1, (y6.2.2.2.1, ())), true)))))
      (none)))
def spec_spTake (x0 : DPile) (x1 : Int) : Option ((Bool × Int × (List DLot)) × DLot × Bool) := spec_spTakeK some x0 x1
theorem p31 {R : Type} (fin : (Bool × Int × (List DLot)) × DLot × Bool → Option R) (x0 : DPile) (x1 : Int) : Par fin (spec_spTakeK some x0 x1) (spec_spTakeK fin x0 x1) := by
  unfold spec_spTakeK
  repeat' (first | exact .fin | exact .none | refine .cond ?_ ?_ | refine .bind fun _ => ?_ | refine .sum (fun _ => ?_) fun _ => ?_)
def or31 : Ora := { lo := addL 6 (Lspec_spTake_l0) lo0, fin := [.own (.cell 4 2) TLot] }
theorem spec_spTake_l0e (a0 : Int) (a3 : Bool) (a4 : Int) (a5 : List DLot) (a6 : Bool) (a7 : Int) (a8 : Int) (a9 : Int) (k : Nat) (a1 : Nat) (a2 : Nat) (a10 : Int) (a11 : Int) (a12 : List DLot) : loopC Try.prog EL31 or31 ((loopsIn (codeOf Try.f31)).getD 0 .skip) (Lspec_spTake_l0).h (Lspec_spTake_l0).ho Try.f31.ntmps (k + 1) (sspec_spTake_l0.out ((a0, ((), ((), ((), ((), ((a1, a2), ())))))), ((a3, (a4, (a5, ()))), ((a6, (a7, ((), ()))), ((a8, (a9, ())), ((a10, (a11, ())), (a12, ()))))))) =
    spec_spTake_l0K a0 (fun a1 a2 a10 a11 a12 => loopC Try.prog EL31 or31 ((loopsIn (codeOf Try.f31)).getD 0 .skip) (Lspec_spTake_l0).h (Lspec_spTake_l0).ho Try.f31.ntmps k (sspec_spTake_l0.out ((a0, ((), ((), ((), ((), ((a1, a2), ())))))), ((a3, (a4, (a5, ()))), ((a6, (a7, ((), ()))), ((a8, (a9, ())), ((a10, (a11, ())), (a12, ())))))))) (fun y => some (XS.out xspec_spTake_l0 (a0, (a3, (a4, (a5, (a6, (a7, (a8, a9))))))) y)) a1 a2 a10 a11 a12 := by kernel_rfl
theorem spec_spTake_l0o : LoopOk Try.prog EL31 or31 Try.f31.ntmps ((loopsIn (codeOf Try.f31)).getD 0 .skip) (Lspec_spTake_l0) :=
  loop_lim (hs := sspec_spTake_l0) (xs := xspec_spTake_l0) (ι := fun (x : (Int × Unit × Unit × Unit × Unit × (Nat × Nat) × Unit) × ((Bool × Int × (List DLot) × Unit) × (Bool × Int × Unit × Unit) × (Int × Int × Unit) × (Int × Int × Unit) × (List DLot) × Unit)) => (x.1.1, (x.2.1.1, (x.2.1.2.1, (x.2.1.2.2.1, (x.2.2.1.1, (x.2.2.1.2.1, (x.2.2.2.1.1, x.2.2.2.1.2.1)))))))) (φ := fun (x : (Int × Unit × Unit × Unit × Unit × (Nat × Nat) × Unit) × ((Bool × Int × (List DLot) × Unit) × (Bool × Int × Unit × Unit) × (Int × Int × Unit) × (Int × Int × Unit) × (List DLot) × Unit)) => (x.1.2.2.2.2.2.1.1, (x.1.2.2.2.2.2.1.2, (x.2.2.2.2.1.1, (x.2.2.2.2.1.2.1, x.2.2.2.2.2.1))))) (ψ := fun (i : Int × Bool × Int × (List DLot) × Bool × Int × Int × Int) (v : Nat × Nat × Int × Int × (List DLot)) => ((i.1, ((), ((), ((), ((), ((v.1, v.2.1), ())))))), ((i.2.1, (i.2.2.1, (i.2.2.2.1, ()))), ((i.2.2.2.2.1, (i.2.2.2.2.2.1, ((), ()))), ((i.2.2.2.2.2.2.1, (i.2.2.2.2.2.2.2, ())), ((v.2.2.1, (v.2.2.2.1, ())), (v.2.2.2.2, ()))))))) (F := fun (i : Int × Bool × Int × (List DLot) × Bool × Int × Int × Int) => spec_spTake_l0F i.1) (fun _ => rfl) fun i k hk v => Par.of_eq (spec_spTake_l0e i.1 i.2.1 i.2.2.1 i.2.2.2.1 i.2.2.2.2.1 i.2.2.2.2.2.1 i.2.2.2.2.2.2.1 i.2.2.2.2.2.2.2 k v.1 v.2.1 v.2.2.1 v.2.2.2.1 v.2.2.2.2) (spec_spTake_l0p i.1 (fun a1 a2 a10 a11 a12 => hk (a1, (a2, (a10, (a11, a12))))) v.1 v.2.1 v.2.2.1 v.2.2.2.1 v.2.2.2.2)
def c31 : Callee := mkC [.agg [.ro TPile], .one (.ro (.int .i64))] 3 [.agg [.ro .bool, .ro (.int .i64), .sl TLot], .agg [.ro TLot], .one (.ro .bool)] fun x => spec_spTake x.1 x.2
theorem e31 (x : PK.dens [.agg [.ro TPile], .one (.ro (.int .i64))]) : evalFn Try.prog EL31 or31 Try.f31 (PK.outs [.agg [.ro TPile], .one (.ro (.int .i64))] x) =
    spec_spTakeK (fun y => some (tupOf ((PK.outs [.agg [.ro .bool, .ro (.int .i64), .sl TLot], .agg [.ro TLot], .one (.ro .bool)] y).take 3), (PK.outs [.agg [.ro .bool, .ro (.int .i64), .sl TLot], .agg [.ro TLot], .one (.ro .bool)] y).drop 3)) x.1 x.2 := by kernel_rfl
theorem o31 : LoOk Try.prog EL31 or31 Try.f31.ntmps (loopsIn (codeOf Try.f31)) :=
  LoOk.mk (m := 1) (by kernel_rfl) fun i hi => match i, hi with
    | 0, _ => ⟨Lspec_spTake_l0, by kernel_rfl, spec_spTake_l0o⟩
    | i + 1, hi => absurd hi (by omega)
theorem k31 : CalleeOk Try.prog 31 c31 := callee_mk Try.func31 (code := codeOf Try.f31) (by kernel_rfl) vL31 mixed o31 fun x y h => (e31 x).trans (p31 _ x.1 x.2 y h)

/-- spec.TakeTonnes -/
def EL7 : Nat → Option Callee := addE 31 c31 (addE 30 c30 env0)
theorem vL7 : EnvOk Try.prog EL7 := (EnvOk.nil.add Try.func30 rfl (by kernel_rfl) k30).add Try.func31 rfl (by kernel_rfl) k31
def spec_TakeTonnesK {R : Type} (fin : (Bool × Int × (List DLot)) × DLot × Bool → Option R) (x0 : DPile) (x1 : Int) : Option R :=
  (spec_spGood x0).bind fun y1 =>
  cond (!y1)
  (fin ((false, (0, [])), ((0, (0, ())), false)))
  ((spec_spTake x0 x1).bind fun y2 =>
    fin y2)
def spec_TakeTonnes (x0 : DPile) (x1 : Int) : Option ((Bool × Int × (List DLot)) × DLot × Bool) := spec_TakeTonnesK some x0 x1
theorem p7 {R : Type} (fin : (Bool × Int × (List DLot)) × DLot × Bool → Option R) (x0 : DPile) (x1 : Int) : Par fin (spec_TakeTonnesK some x0 x1) (spec_TakeTonnesK fin x0 x1) := by
  unfold spec_TakeTonnesK
  repeat' (first | exact .fin | exact .none | refine .cond ?_ ?_ | refine .bind fun _ => ?_ | refine .sum (fun _ => ?_) fun _ => ?_)
def or7 : Ora := { lo := lo0, fin := [.own (.cell 4 2) TLot] }
def c7 : Callee := mkC [.agg [.ro TPile], .one (.ro (.int .i64))] 3 [.agg [.ro .bool, .ro (.int .i64), .sl TLot], .agg [.ro TLot], .one (.ro .bool)] fun x => spec_TakeTonnes x.1 x.2
theorem e7 (x : PK.dens [.agg [.ro TPile], .one (.ro (.int .i64))]) : evalFn Try.prog EL7 or7 Try.f7 (PK.outs [.agg [.ro TPile], .one (.ro (.int .i64))] x) =
    spec_TakeTonnesK (fun y => some (tupOf ((PK.outs [.agg [.ro .bool, .ro (.int .i64), .sl TLot], .agg [.ro TLot], .one (.ro .bool)] y).take 3), (PK.outs [.agg [.ro .bool, .ro (.int .i64), .sl TLot], .agg [.ro TLot], .one (.ro .bool)] y).drop 3)) x.1 x.2 := by kernel_rfl
theorem k7 : CalleeOk Try.prog 7 c7 := callee_mk Try.func7 (code := codeOf Try.f7) (by kernel_rfl) vL7 mixed (LoOk.nil (by kernel_rfl)) fun x y h => (e7 x).trans (p7 _ x.1 x.2 y h)

/-- laws.pSameLots -/
def EL32 : Nat → Option Callee := env0
theorem vL32 : EnvOk Try.prog EL32 := EnvOk.nil
def slaws_pSameLots_l0 : LS := ⟨[(0, .one (.dat (.slice TLot))), (1, .one (.dat (.slice TLot))), (12, .one (.dat (.int .i64))), (13, .one (.dat (.int .i64)))], [], []⟩
def slaws_pSameLots_l0x0 : LS := ⟨[(4, .one (.dat .bool))], [], []⟩
def slaws_pSameLots_l0x1 : LS := ⟨[], [], []⟩
def xlaws_pSameLots_l0 : List (XS ((List DLot) × (List DLot) × Int)) := [⟨.ret, ⟨[4], [], [], []⟩, slaws_pSameLots_l0x0, Bool, fun i y => ((y, ()), ())⟩,
  ⟨.exit 0, ⟨[], [], [], []⟩, slaws_pSameLots_l0x1, Unit, fun i y => ((), ())⟩]
def laws_pSameLots_l0K {R : Type} (a0 : List DLot) (a1 : List DLot) (a2 : Int) (rc : Int → Option R) (fin : (Bool ⊕ Unit) → Option R) (a3 : Int) : Option R :=
  cond (decide (a3 < a2))
  ((lat a0 a3).bind fun e1 =>
    (lat a1 a3).bind fun e2 =>
    cond (!(e1.1 == e2.1 && (e1.2.1 == e2.2.1 && true)))
    (fin (.inl false))
    (rc (IntKind.i64.wrap (a3 + 1))))
  (fin (.inr ()))
def laws_pSameLots_l0F (a0 : List DLot) (a1 : List DLot) (a2 : Int) (r : Int → Option (Bool ⊕ Unit)) (x : Int) : Option (Bool ⊕ Unit) := laws_pSameLots_l0K a0 a1 a2 (fun a3 => r a3) some x
theorem laws_pSameLots_l0c (a0 : List DLot) (a1 : List DLot) (a2 : Int) (x : Int) : Ct fun r => laws_pSameLots_l0F a0 a1 a2 r x := by
  unfold laws_pSameLots_l0F laws_pSameLots_l0K
  repeat' (first | exact Ct.const | exact Ct.call | refine Ct.cond ?_ ?_ | refine Ct.bind ?_ fun _ => ?_ | refine Ct.sum (fun _ => ?_) fun _ => ?_)
def laws_pSameLots_l0 (a0 : List DLot) (a1 : List DLot) (a2 : Int) (a3 : Int) : Option (Bool ⊕ Unit) := lim (laws_pSameLots_l0F a0 a1 a2) a3
theorem laws_pSameLots_l0_eq (a0 : List DLot) (a1 : List DLot) (a2 : Int) (a3 : Int) : laws_pSameLots_l0 a0 a1 a2 a3 = laws_pSameLots_l0K a0 a1 a2 (laws_pSameLots_l0 a0 a1 a2) some a3 := lim_eq (laws_pSameLots_l0c a0 a1 a2) a3
theorem laws_pSameLots_l0p {R : Type} (a0 : List DLot) (a1 : List DLot) (a2 : Int) {rc : Int → Option (Bool ⊕ Unit)} {rc' : Int → Option R} {fin : (Bool ⊕ Unit) → Option R} (hr : ∀ a3, Par fin (rc a3) (rc' a3)) (a3 : Int) : Par fin (laws_pSameLots_l0K a0 a1 a2 rc some a3) (laws_pSameLots_l0K a0 a1 a2 rc' fin a3) := by
  unfold laws_pSameLots_l0K
  repeat' (first | exact .fin | exact .none | exact hr _ | refine .cond ?_ ?_ | refine .bind fun _ => ?_ | refine .sum (fun _ => ?_) fun _ => ?_)
def Llaws_pSameLots_l0 : Loop := mkL ⟨[0, 1, 12, 13], [], [], []⟩ slaws_pSameLots_l0 xlaws_pSameLots_l0 (fun (x : ((List DLot) × (List DLot) × Int × Int × Unit) × (Unit)) => (x.1.1, (x.1.2.1, x.1.2.2.1))) fun (x : ((List DLot) × (List DLot) × Int × Int × Unit) × (Unit)) => laws_pSameLots_l0 x.1.1 x.1.2.1 x.1.2.2.1 x.1.2.2.2.1
def laws_pSameLotsK {R : Type} (fin : Bool → Option R) (x0 : List DLot) (x1 : List DLot) : Option R :=
  cond ((x0.length : Int) != (x1.length : Int))
  (fin false)
  ((laws_pSameLots_l0 x0 x1 (x0.length : Int) 0).bind fun y3 =>
    sumO y3 (fun y4 =>
    fin y4)
    (fun y5 =>
    fin true))
def laws_pSameLots (x0 : List DLot) (x1 : List DLot) : Option (Bool) := laws_pSameLotsK some x0 x1
theorem p32 {R : Type} (fin : Bool → Option R) (x0 : List DLot) (x1 : List DLot) : Par fin (laws_pSameLotsK some x0 x1) (laws_pSameLotsK fin x0 x1) := by
  unfold laws_pSameLotsK
  repeat' (first | exact .fin | exact .none | refine .cond ?_ ?_ | refine .bind fun _ => ?_ | refine .sum (fun _ => ?_) fun _ => ?_)
def or32 : Ora := { lo := addL 4 (Llaws_pSameLots_l0) lo0, fin := [] }
theorem laws_pSameLots_l0e (a0 : List DLot) (a1 : List DLot) (a2 : Int) (k : Nat) (a3 : Int) : loopC Try.prog EL32 or32 ((loopsIn (codeOf Try.f32)).getD 0 .skip) (Llaws_pSameLots_l0).h (Llaws_pSameLots_l0).ho Try.f32.ntmps (k + 1) (slaws_pSameLots_l0.out ((a0, (a1, (a2, (a3, ())))), ())) =
    laws_pSameLots_l0K a0 a1 a2 (fun a3 => loopC Try.prog EL32 or32 ((loopsIn (codeOf Try.f32)).getD 0 .skip) (Llaws_pSameLots_l0).h (Llaws_pSameLots_l0).ho Try.f32.ntmps k (slaws_pSameLots_l0.out ((a0, (a1, (a2, (a3, ())))), ()))) (fun y => some (XS.out xlaws_pSameLots_l0 (a0, (a1, a2)) y)) a3 := by kernel_rfl
theorem laws_pSameLots_l0o : LoopOk Try.prog EL32 or32 Try.f32.ntmps ((loopsIn (codeOf Try.f32)).getD 0 .skip) (Llaws_pSameLots_l0) :=
  loop_lim (hs := slaws_pSameLots_l0) (xs := xlaws_pSameLots_l0) (ι := fun (x : ((List DLot) × (List DLot) × Int × Int × Unit) × (Unit)) => (x.1.1, (x.1.2.1, x.1.2.2.1))) (φ := fun (x : ((List DLot) × (List DLot) × Int × Int × Unit) × (Unit)) => x.1.2.2.2.1) (ψ := fun (i : (List DLot) × (List DLot) × Int) (v : Int) => ((i.1, (i.2.1, (i.2.2, (v, ())))), ())) (F := fun (i : (List DLot) × (List DLot) × Int) => laws_pSameLots_l0F i.1 i.2.1 i.2.2) (fun _ => rfl) fun i k hk v => Par.of_eq (laws_pSameLots_l0e i.1 i.2.1 i.2.2 k v) (laws_pSameLots_l0p i.1 i.2.1 i.2.2 (fun a3 => hk a3) v)
def c32 : Callee := mkC [.one (.ro (.slice TLot)), .one (.ro (.slice TLot))] 1 [.one (.ro .bool)] fun x => laws_pSameLots x.1 x.2
theorem e32 (x : PK.dens [.one (.ro (.slice TLot)), .one (.ro (.slice TLot))]) : evalFn Try.prog EL32 or32 Try.f32 (PK.outs [.one (.ro (.slice TLot)), .one (.ro (.slice TLot))] x) =
    laws_pSameLotsK (fun y => some (tupOf ((PK.outs [.one (.ro .bool)] y).take 1), (PK.outs [.one (.ro .bool)] y).drop 1)) x.1 x.2 := by kernel_rfl
theorem o32 : LoOk Try.prog EL32 or32 Try.f32.ntmps (loopsIn (codeOf Try.f32)) :=
  LoOk.mk (m := 1) (by kernel_rfl) fun i hi => match i, hi with
    | 0, _ => ⟨Llaws_pSameLots_l0, by kernel_rfl, laws_pSameLots_l0o⟩
    | i + 1, hi => absurd hi (by omega)
theorem k32 : CalleeOk Try.prog 32 c32 := callee_mk Try.func32 (code := codeOf Try.f32) (by kernel_rfl) vL32 mixed o32 fun x y h => (e32 x).trans (p32 _ x.1 x.2 y h)

/-- laws.pSamePile -/
def EL8 : Nat → Option Callee := addE 32 c32 env0
theorem vL8 : EnvOk Try.prog EL8 := EnvOk.nil.add Try.func32 rfl (by kernel_rfl) k32
def laws_pSamePileK {R : Type} (fin : Bool → Option R) (x0 : DPile) (x1 : DPile) : Option R :=
  cond (x0.1 == x1.1)
  (cond (x0.2.1 == x1.2.1)
    ((laws_pSameLots x0.2.2.1 x1.2.2.1).bind fun y1 =>
      fin y1)
    (fin false))
  (fin false)
def laws_pSamePile (x0 : DPile) (x1 : DPile) : Option (Bool) := laws_pSamePileK some x0 x1
theorem p8 {R : Type} (fin : Bool → Option R) (x0 : DPile) (x1 : DPile) : Par fin (laws_pSamePileK some x0 x1) (laws_pSamePileK fin x0 x1) := by
  unfold laws_pSamePileK
  repeat' (first | exact .fin | exact .none | refine .cond ?_ ?_ | refine .bind fun _ => ?_ | refine .sum (fun _ => ?_) fun _ => ?_)
def c8 : Callee := mkC [.agg [.ro TPile], .agg [.ro TPile]] 1 [.one (.ro .bool)] fun x => laws_pSamePile x.1 x.2
theorem e8 (x : PK.dens [.agg [.ro TPile], .agg [.ro TPile]]) : evalFn Try.prog EL8 or0 Try.f8 (PK.outs [.agg [.ro TPile], .agg [.ro TPile]] x) =
    laws_pSamePileK (fun y => some (tupOf ((PK.outs [.one (.ro .bool)] y).take 1), (PK.outs [.one (.ro .bool)] y).drop 1)) x.1 x.2 := by kernel_rfl
theorem k8 : CalleeOk Try.prog 8 c8 := callee_mk Try.func8 (code := codeOf Try.f8) (by kernel_rfl) vL8 mixed (LoOk.nil (by kernel_rfl)) fun x y h => (e8 x).trans (p8 _ x.1 x.2 y h)

/-- impl.PileSums -/
def EL9 : Nat → Option Callee := addE 33 c33 (addE 28 c28 env0)
theorem vL9 : EnvOk Try.prog EL9 := (EnvOk.nil.add Try.func28 rfl (by kernel_rfl) k28).add Try.func33 rfl (by kernel_rfl) k33
def impl_PileSumsK {R : Type} (fin : Int × Int × Bool → Option R) (x0 : DPile) : Option R :=
  (impl_IsPile x0).bind fun y1 =>
  cond (!y1)
  (fin (0, (0, false)))
  ((impl_lotSum x0.2.2.1).bind fun y2 =>
    fin (y2.1, (y2.2.1, true)))
def impl_PileSums (x0 : DPile) : Option (Int × Int × Bool) := impl_PileSumsK some x0
theorem p9 {R : Type} (fin : Int × Int × Bool → Option R) (x0 : DPile) : Par fin (impl_PileSumsK some x0) (impl_PileSumsK fin x0) := by
  unfold impl_PileSumsK
  repeat' (first | exact .fin | exact .none | refine .cond ?_ ?_ | refine .bind fun _ => ?_ | refine .sum (fun _ => ?_) fun _ => ?_)
def c9 : Callee := mkC [.agg [.ro TPile]] 3 [.one (.ro (.int .i64)), .one (.ro (.int .i64)), .one (.ro .bool)] fun x => impl_PileSums x
theorem e9 (x : PK.dens [.agg [.ro TPile]]) : evalFn Try.prog EL9 or0 Try.f9 (PK.outs [.agg [.ro TPile]] x) =
    impl_PileSumsK (fun y => some (tupOf ((PK.outs [.one (.ro (.int .i64)), .one (.ro (.int .i64)), .one (.ro .bool)] y).take 3), (PK.outs [.one (.ro (.int .i64)), .one (.ro (.int .i64)), .one (.ro .bool)] y).drop 3)) x := by kernel_rfl
theorem k9 : CalleeOk Try.prog 9 c9 := callee_mk Try.func9 (code := codeOf Try.f9) (by kernel_rfl) vL9 mixed (LoOk.nil (by kernel_rfl)) fun x y h => (e9 x).trans (p9 _ x y h)

/-- spec.DrawSplitLot -/
def EL10 : Nat → Option Callee := addE 26 c26 (addE 34 c34 env0)
theorem vL10 : EnvOk Try.prog EL10 := (EnvOk.nil.add Try.func34 rfl (by kernel_rfl) k34).add Try.func26 rfl (by kernel_rfl) k26
def spec_DrawSplitLotK {R : Type} (fin : DLot × Int → Option R) (x0 : List Int) : Option R :=
  (spec_l1Cur_lot (x0, (0, 0))).bind fun y1 =>
  (spec_l1Cur_among y1.2 [1, 7, 50, IntKind.i64.wrap (y1.1.1 - 1), y1.1.1, 0]).bind fun y2 =>
  fin (y1.1, y2.1)
def spec_DrawSplitLot (x0 : List Int) : Option (DLot × Int) := spec_DrawSplitLotK some x0
theorem p10 {R : Type} (fin : DLot × Int → Option R) (x0 : List Int) : Par fin (spec_DrawSplitLotK some x0) (spec_DrawSplitLotK fin x0) := by
  unfold spec_DrawSplitLotK
  repeat' (first | exact .fin | exact .none | refine .cond ?_ ?_ | refine .bind fun _ => ?_ | refine .sum (fun _ => ?_) fun _ => ?_)
def c10 : Callee := mkC [.one (.ro (.slice (.int .u8)))] 2 [.agg [.ro TLot], .one (.ro (.int .i64))] fun x => spec_DrawSplitLot x
theorem e10 (x : PK.dens [.one (.ro (.slice (.int .u8)))]) : evalFn Try.prog EL10 or0 Try.f10 (PK.outs [.one (.ro (.slice (.int .u8)))] x) =
    spec_DrawSplitLotK (fun y => some (tupOf ((PK.outs [.agg [.ro TLot], .one (.ro (.int .i64))] y).take 2), (PK.outs [.agg [.ro TLot], .one (.ro (.int .i64))] y).drop 2)) x := by kernel_rfl
theorem k10 : CalleeOk Try.prog 10 c10 := callee_mk Try.func10 (code := codeOf Try.f10) (by kernel_rfl) vL10 mixed (LoOk.nil (by kernel_rfl)) fun x y h => (e10 x).trans (p10 _ x y h)

/-- impl.SplitLot -/
def EL11 : Nat → Option Callee := addE 36 c36 (addE 35 c35 env0)
theorem vL11 : EnvOk Try.prog EL11 := (EnvOk.nil.add Try.func35 rfl (by kernel_rfl) k35).add Try.func36 rfl (by kernel_rfl) k36
def impl_SplitLotK {R : Type} (fin : DLot × DLot × Bool → Option R) (x0 : DLot) (x1 : Int) : Option R :=
  (impl_isLot x0).bind fun y1 =>
  cond (!y1)
  (fin ((0, (0, ())), ((0, (0, ())), false)))
  (cond (decide (x1 < 1))
    (fin ((0, (0, ())), ((0, (0, ())), false)))
    (cond (decide (x1 ≥ x0.1))
      (fin ((0, (0, ())), ((0, (0, ())), false)))
      ((impl_splitOff x0 x1).bind fun y2 =>
        fin (y2, ((IntKind.i64.wrap (x0.1 - y2.1), (IntKind.i64.wrap (x0.2.1 - y2.2.1), ())), true)))))
def impl_SplitLot (x0 : DLot) (x1 : Int) : Option (DLot × DLot × Bool) := impl_SplitLotK some x0 x1
theorem p11 {R : Type} (fin : DLot × DLot × Bool → Option R) (x0 : DLot) (x1 : Int) : Par fin (impl_SplitLotK some x0 x1) (impl_SplitLotK fin x0 x1) := by
  unfold impl_SplitLotK
  repeat' (first | exact .fin | exact .none | refine .cond ?_ ?_ | refine .bind fun _ => ?_ | refine .sum (fun _ => ?_) fun _ => ?_)
def c11 : Callee := mkC [.agg [.ro TLot], .one (.ro (.int .i64))] 3 [.agg [.ro TLot], .agg [.ro TLot], .one (.ro .bool)] fun x => impl_SplitLot x.1 x.2
theorem e11 (x : PK.dens [.agg [.ro TLot], .one (.ro (.int .i64))]) : evalFn Try.prog EL11 or0 Try.f11 (PK.outs [.agg [.ro TLot], .one (.ro (.int .i64))] x) =
    impl_SplitLotK (fun y => some (tupOf ((PK.outs [.agg [.ro TLot], .agg [.ro TLot], .one (.ro .bool)] y).take 3), (PK.outs [.agg [.ro TLot], .agg [.ro TLot], .one (.ro .bool)] y).drop 3)) x.1 x.2 := by kernel_rfl
theorem k11 : CalleeOk Try.prog 11 c11 := callee_mk Try.func11 (code := codeOf Try.f11) (by kernel_rfl) vL11 mixed (LoOk.nil (by kernel_rfl)) fun x y h => (e11 x).trans (p11 _ x.1 x.2 y h)

/-- spec.SplitLot -/
def EL12 : Nat → Option Callee := addE 39 c39 (addE 38 c38 (addE 37 c37 env0))
theorem vL12 : EnvOk Try.prog EL12 := ((EnvOk.nil.add Try.func37 rfl (by kernel_rfl) k37).add Try.func38 rfl (by kernel_rfl) k38).add Try.func39 rfl (by kernel_rfl) k39
def spec_SplitLotK {R : Type} (fin : DLot × DLot × Bool → Option R) (x0 : DLot) (x1 : Int) : Option R :=
  (spec_spLot x0).bind fun y1 =>
  cond (!y1)
  (fin ((0, (0, ())), ((0, (0, ())), false)))
  ((spec_l1In x1 1 (IntKind.i64.wrap (x0.1 - 1))).bind fun y2 =>
    cond (!y2)
    (fin ((0, (0, ())), ((0, (0, ())), false)))
    ((spec_spSplit x0 x1).bind fun y3 =>
      fin (y3.1, (y3.2, true))))
def spec_SplitLot (x0 : DLot) (x1 : Int) : Option (DLot × DLot × Bool) := spec_SplitLotK some x0 x1
theorem p12 {R : Type} (fin : DLot × DLot × Bool → Option R) (x0 : DLot) (x1 : Int) : Par fin (spec_SplitLotK some x0 x1) (spec_SplitLotK fin x0 x1) := by
  unfold spec_SplitLotK
  repeat' (first | exact .fin | exact .none | refine .cond ?_ ?_ | refine .bind fun _ => ?_ | refine .sum (fun _ => ?_) fun _ => ?_)
def c12 : Callee := mkC [.agg [.ro TLot], .one (.ro (.int .i64))] 3 [.agg [.ro TLot], .agg [.ro TLot], .one (.ro .bool)] fun x => spec_SplitLot x.1 x.2
theorem e12 (x : PK.dens [.agg [.ro TLot], .one (.ro (.int .i64))]) : evalFn Try.prog EL12 or0 Try.f12 (PK.outs [.agg [.ro TLot], .one (.ro (.int .i64))] x) =
    spec_SplitLotK (fun y => some (tupOf ((PK.outs [.agg [.ro TLot], .agg [.ro TLot], .one (.ro .bool)] y).take 3), (PK.outs [.agg [.ro TLot], .agg [.ro TLot], .one (.ro .bool)] y).drop 3)) x.1 x.2 := by kernel_rfl
theorem k12 : CalleeOk Try.prog 12 c12 := callee_mk Try.func12 (code := codeOf Try.f12) (by kernel_rfl) vL12 mixed (LoOk.nil (by kernel_rfl)) fun x y h => (e12 x).trans (p12 _ x.1 x.2 y h)

/-- spec.DrawJoinPiles -/
def EL13 : Nat → Option Callee := addE 24 c24 env0
theorem vL13 : EnvOk Try.prog EL13 := EnvOk.nil.add Try.func24 rfl (by kernel_rfl) k24
def spec_DrawJoinPilesK {R : Type} (fin : (Bool × Int × (List DLot)) × (Bool × Int × (List DLot)) → Option R) (x0 : List Int) : Option R :=
  (spec_l1Cur_pile (x0, (0, 0))).bind fun y1 =>
  (spec_l1Cur_pile y1.2).bind fun y2 =>
  fin (y1.1, y2.1)
def spec_DrawJoinPiles (x0 : List Int) : Option ((Bool × Int × (List DLot)) × (Bool × Int × (List DLot))) := spec_DrawJoinPilesK some x0
theorem p13 {R : Type} (fin : (Bool × Int × (List DLot)) × (Bool × Int × (List DLot)) → Option R) (x0 : List Int) : Par fin (spec_DrawJoinPilesK some x0) (spec_DrawJoinPilesK fin x0) := by
  unfold spec_DrawJoinPilesK
  repeat' (first | exact .fin | exact .none | refine .cond ?_ ?_ | refine .bind fun _ => ?_ | refine .sum (fun _ => ?_) fun _ => ?_)
def c13 : Callee := mkC [.one (.ro (.slice (.int .u8)))] 2 [.agg [.ro .bool, .ro (.int .i64), .sl TLot], .agg [.ro .bool, .ro (.int .i64), .sl TLot]] fun x => spec_DrawJoinPiles x
theorem e13 (x : PK.dens [.one (.ro (.slice (.int .u8)))]) : evalFn Try.prog EL13 or0 Try.f13 (PK.outs [.one (.ro (.slice (.int .u8)))] x) =
    spec_DrawJoinPilesK (fun y => some (tupOf ((PK.outs [.agg [.ro .bool, .ro (.int .i64), .sl TLot], .agg [.ro .bool, .ro (.int .i64), .sl TLot]] y).take 2), (PK.outs [.agg [.ro .bool, .ro (.int .i64), .sl TLot], .agg [.ro .bool, .ro (.int .i64), .sl TLot]] y).drop 2)) x := by kernel_rfl
theorem k13 : CalleeOk Try.prog 13 c13 := callee_mk Try.func13 (code := codeOf Try.f13) (by kernel_rfl) vL13 mixed (LoOk.nil (by kernel_rfl)) fun x y h => (e13 x).trans (p13 _ x y h)

/-- impl.copyPile -/
def EL40 : Nat → Option Callee := env0
theorem vL40 : EnvOk Try.prog EL40 := EnvOk.nil
def impl_copyPileK {R : Type} (fin : Bool × Int × (List DLot) → Option R) (x0 : DPile) : Option R :=
  cond (decide (([] : List DLot).length + x0.2.2.1.length ≤ 1099511627776))
  (fin (x0.1, (x0.2.1, ([] : List DLot) ++ x0.2.2.1)))
  (none)
def impl_copyPile (x0 : DPile) : Option (Bool × Int × (List DLot)) := impl_copyPileK some x0
theorem p40 {R : Type} (fin : Bool × Int × (List DLot) → Option R) (x0 : DPile) : Par fin (impl_copyPileK some x0) (impl_copyPileK fin x0) := by
  unfold impl_copyPileK
  repeat' (first | exact .fin | exact .none | refine .cond ?_ ?_ | refine .bind fun _ => ?_ | refine .sum (fun _ => ?_) fun _ => ?_)
def c40 : Callee := mkC [.agg [.ro TPile]] 1 [.agg [.ro .bool, .ro (.int .i64), .sl TLot]] fun x => impl_copyPile x
theorem e40 (x : PK.dens [.agg [.ro TPile]]) : evalFn Try.prog EL40 or0 Try.f40 (PK.outs [.agg [.ro TPile]] x) =
    impl_copyPileK (fun y => some (tupOf ((PK.outs [.agg [.ro .bool, .ro (.int .i64), .sl TLot]] y).take 1), (PK.outs [.agg [.ro .bool, .ro (.int .i64), .sl TLot]] y).drop 1)) x := by kernel_rfl
theorem k40 : CalleeOk Try.prog 40 c40 := callee_mk Try.func40 (code := codeOf Try.f40) (by kernel_rfl) vL40 mixed (LoOk.nil (by kernel_rfl)) fun x y h => (e40 x).trans (p40 _ x y h)

/-- impl.putLot -/
def EL41 : Nat → Option Callee := addE 28 c28 (addE 33 c33 (addE 40 c40 env0))
theorem vL41 : EnvOk Try.prog EL41 := ((EnvOk.nil.add Try.func40 rfl (by kernel_rfl) k40).add Try.func33 rfl (by kernel_rfl) k33).add Try.func28 rfl (by kernel_rfl) k28
def impl_putLotK {R : Type} (fin : (Bool × Int × (List DLot)) × Bool → Option R) (x0 : DPile) (x1 : DLot) : Option R :=
  (impl_copyPile x0).bind fun y1 =>
  cond (y1.1)
  (cond (decide ((y1.2.2.length : Int) > 0))
    (cond (decide ((0 : Int) < (y1.2.2.length : Int)))
      ((impl_lotSum [((y1.2.2.getD (0 + 0) TLot.dflt).1, (((y1.2.2.getD (0 + 0) TLot.dflt).2).1, ())), x1]).bind fun y2 =>
        cond (decide ((0 : Int) < (y1.2.2.length : Int)))
        ((some (y1.2.2.set (0 + 0) y2)).bind fun v3 =>
          (impl_IsPile (y1.1, (y1.2.1, (v3, ())))).bind fun y4 =>
          cond (!y4)
          (fin ((false, (0, [])), false))
          (fin ((y1.1, (y1.2.1, v3)), true)))
        (none))
      (none))
    (cond (decide (y1.2.2.length + [x1].length ≤ 1099511627776))
      ((some (y1.2.2 ++ [x1])).bind fun v5 =>
        (impl_IsPile (y1.1, (y1.2.1, (v5, ())))).bind fun y6 =>
        cond (!y6)
        (fin ((false, (0, [])), false))
        (fin ((y1.1, (y1.2.1, v5)), true)))
      (none)))
  (cond (decide (y1.2.2.length + [x1].length ≤ 1099511627776))
    ((some (y1.2.2 ++ [x1])).bind fun v7 =>
      (impl_IsPile (y1.1, (y1.2.1, (v7, ())))).bind fun y8 =>
      cond (!y8)
      (fin ((false, (0, [])), false))
      (fin ((y1.1, (y1.2.1, v7)), true)))
    (none))
def impl_putLot (x0 : DPile) (x1 : DLot) : Option ((Bool × Int × (List DLot)) × Bool) := impl_putLotK some x0 x1
theorem p41 {R : Type} (fin : (Bool × Int × (List DLot)) × Bool → Option R) (x0 : DPile) (x1 : DLot) : Par fin (impl_putLotK some x0 x1) (impl_putLotK fin x0 x1) := by
  unfold impl_putLotK
  repeat' (first | exact .fin | exact .none | refine .cond ?_ ?_ | refine .bind fun _ => ?_ | refine .sum (fun _ => ?_) fun _ => ?_)
def or41 : Ora := { lo := lo0, fin := [.own (.cell 4 2) TLot] }
def c41 : Callee := mkC [.agg [.ro TPile], .agg [.ro TLot]] 2 [.agg [.ro .bool, .ro (.int .i64), .sl TLot], .one (.ro .bool)] fun x => impl_putLot x.1 x.2
theorem e41 (x : PK.dens [.agg [.ro TPile], .agg [.ro TLot]]) : evalFn Try.prog EL41 or41 Try.f41 (PK.outs [.agg [.ro TPile], .agg [.ro TLot]] x) =
    impl_putLotK (fun y => some (tupOf ((PK.outs [.agg [.ro .bool, .ro (.int .i64), .sl TLot], .one (.ro .bool)] y).take 2), (PK.outs [.agg [.ro .bool, .ro (.int .i64), .sl TLot], .one (.ro .bool)] y).drop 2)) x.1 x.2 := by kernel_rfl
theorem k41 : CalleeOk Try.prog 41 c41 := callee_mk Try.func41 (code := codeOf Try.f41) (by kernel_rfl) vL41 mixed (LoOk.nil (by kernel_rfl)) fun x y h => (e41 x).trans (p41 _ x.1 x.2 y h)

/-- impl.JoinPiles -/
def EL14 : Nat → Option Callee := addE 41 c41 (addE 40 c40 (addE 28 c28 env0))
theorem vL14 : EnvOk Try.prog EL14 := ((EnvOk.nil.add Try.func28 rfl (by kernel_rfl) k28).add Try.func40 rfl (by kernel_rfl) k40).add Try.func41 rfl (by kernel_rfl) k41
def simpl_JoinPiles_l0 : LS := ⟨[(4, .one (.fix (.ptr 0 0))), (6, .one (.fix (.ptr 1 0))), (23, .one (.dat (.slice TLot))), (24, .one (.dat (.int .i64))), (25, .one (.dat (.int .i64)))], [.box [.dat .bool, .dat (.int .i64), .fix .nils], .box [.dat .bool, .dat (.int .i64), .fix (.sref 2)], .sl TLot], []⟩
def simpl_JoinPiles_l0x0 : LS := ⟨[(4, .one (.fix (.ptr 0 0))), (5, .one (.dat .bool))], [.box [.dat .bool, .dat (.int .i64), .fix .nils]], []⟩
def simpl_JoinPiles_l0x1 : LS := ⟨[(4, .one (.fix (.ptr 0 0))), (6, .one (.fix (.ptr 1 0)))], [.box [.dat .bool, .dat (.int .i64), .fix .nils], .box [.dat .bool, .dat (.int .i64), .fix (.sref 2)], .sl TLot], []⟩
def ximpl_JoinPiles_l0 : List (XS ((List DLot) × Int × Bool × Int)) := [⟨.ret, ⟨[4, 5], [.slot 4], [], []⟩, simpl_JoinPiles_l0x0, Bool × Bool × Int, fun i y => (((), (y.1, ())), ((y.2.1, (y.2.2, ((), ()))), ()))⟩,
  ⟨.exit 0, ⟨[4, 6], [.slot 4, .slot 6, .cell 6 2], [], []⟩, simpl_JoinPiles_l0x1, Bool × Int × (List DLot), fun i y => (((), ((), ())), ((i.2.2.1, (i.2.2.2, ((), ()))), ((y.1, (y.2.1, ((), ()))), (y.2.2, ()))))⟩]
def impl_JoinPiles_l0K {R : Type} (a0 : List DLot) (a1 : Int) (rc : Int → Bool → Int → List DLot → Option R) (fin : ((Bool × Bool × Int) ⊕ (Bool × Int × (List DLot))) → Option R) (a2 : Int) (a5 : Bool) (a6 : Int) (a7 : List DLot) : Option R :=
  cond (decide (a2 < a1))
  ((lat a0 a2).bind fun e1 =>
    (impl_putLot (a5, (a6, (a7, ()))) e1).bind fun y2 =>
    cond (!y2.2)
    (fin (.inl (false, (false, 0))))
    (rc (IntKind.i64.wrap (a2 + 1)) y2.1.1 y2.1.2.1 y2.1.2.2))
  (fin (.inr (a5, (a6, a7))))
def impl_JoinPiles_l0F (a0 : List DLot) (a1 : Int) (r : (Int × Bool × Int × (List DLot)) → Option ((Bool × Bool × Int) ⊕ (Bool × Int × (List DLot)))) (x : Int × Bool × Int × (List DLot)) : Option ((Bool × Bool × Int) ⊕ (Bool × Int × (List DLot))) := impl_JoinPiles_l0K a0 a1 (fun a2 a5 a6 a7 => r (a2, (a5, (a6, a7)))) some x.1 x.2.1 x.2.2.1 x.2.2.2
theorem impl_JoinPiles_l0c (a0 : List DLot) (a1 : Int) (x : Int × Bool × Int × (List DLot)) : Ct fun r => impl_JoinPiles_l0F a0 a1 r x := by
  unfold impl_JoinPiles_l0F impl_JoinPiles_l0K
  repeat' (first | exact Ct.const | exact Ct.call | refine Ct.cond ?_ ?_ | refine Ct.bind ?_ fun _ => ?_ | refine Ct.sum (fun _ => ?_) fun _ => ?_)
def impl_JoinPiles_l0 (a0 : List DLot) (a1 : Int) (a2 : Int) (a5 : Bool) (a6 : Int) (a7 : List DLot) : Option ((Bool × Bool × Int) ⊕ (Bool × Int × (List DLot))) := lim (impl_JoinPiles_l0F a0 a1) (a2, (a5, (a6, a7)))
theorem impl_JoinPiles_l0_eq (a0 : List DLot) (a1 : Int) (a2 : Int) (a5 : Bool) (a6 : Int) (a7 : List DLot) : impl_JoinPiles_l0 a0 a1 a2 a5 a6 a7 = impl_JoinPiles_l0K a0 a1 (impl_JoinPiles_l0 a0 a1) some a2 a5 a6 a7 := lim_eq (impl_JoinPiles_l0c a0 a1) (a2, (a5, (a6, a7)))
theorem impl_JoinPiles_l0p {R : Type} (a0 : List DLot) (a1 : Int) {rc : Int → Bool → Int → List DLot → Option ((Bool × Bool × Int) ⊕ (Bool × Int × (List DLot)))} {rc' : Int → Bool → Int → List DLot → Option R} {fin : ((Bool × Bool × Int) ⊕ (Bool × Int × (List DLot))) → Option R} (hr : ∀ a2 a5 a6 a7, Par fin (rc a2 a5 a6 a7) (rc' a2 a5 a6 a7)) (a2 : Int) (a5 : Bool) (a6 : Int) (a7 : List DLot) : Par fin (impl_JoinPiles_l0K a0 a1 rc some a2 a5 a6 a7) (impl_JoinPiles_l0K a0 a1 rc' fin a2 a5 a6 a7) := by
  unfold impl_JoinPiles_l0K
  repeat' (first | exact .fin | exact .none | exact hr _ _ _ _ | refine .cond ?_ ?_ | refine .bind fun _ => ?_ | refine .sum (fun _ => ?_) fun _ => ?_)
def Limpl_JoinPiles_l0 : Loop := mkL ⟨[4, 6, 23, 24, 25], [.slot 4, .slot 6, .cell 6 2], [], []⟩ simpl_JoinPiles_l0 ximpl_JoinPiles_l0 (fun (x : (Unit × Unit × (List DLot) × Int × Int × Unit) × ((Bool × Int × Unit × Unit) × (Bool × Int × Unit × Unit) × (List DLot) × Unit)) => (x.1.2.2.1, (x.1.2.2.2.1, (x.2.1.1, x.2.1.2.1)))) fun (x : (Unit × Unit × (List DLot) × Int × Int × Unit) × ((Bool × Int × Unit × Unit) × (Bool × Int × Unit × Unit) × (List DLot) × Unit)) => impl_JoinPiles_l0 x.1.2.2.1 x.1.2.2.2.1 x.1.2.2.2.2.1 x.2.2.1.1 x.2.2.1.2.1 x.2.2.2.1
def impl_JoinPilesK {R : Type} (fin : (Bool × Int × (List DLot)) × Bool → Option R) (x0 : DPile) (x1 : DPile) : Option R :=
  (impl_IsPile x0).bind fun y1 =>
  cond (!y1)
  (fin ((false, (0, [])), false))
  ((impl_IsPile x1).bind fun y2 =>
    cond (!y2)
    (fin ((false, (0, [])), false))
    ((impl_copyPile x0).bind fun y3 =>
      (impl_JoinPiles_l0 x1.2.2.1 (x1.2.2.1.length : Int) 0 y3.1 y3.2.1 y3.2.2).bind fun y6 =>
      sumO y6 (fun y7 =>
      fin ((y7.2.1, (y7.2.2, [])), y7.1))
      (fun y8 =>
      fin (y8, true))))
def impl_JoinPiles (x0 : DPile) (x1 : DPile) : Option ((Bool × Int × (List DLot)) × Bool) := impl_JoinPilesK some x0 x1
theorem p14 {R : Type} (fin : (Bool × Int × (List DLot)) × Bool → Option R) (x0 : DPile) (x1 : DPile) : Par fin (impl_JoinPilesK some x0 x1) (impl_JoinPilesK fin x0 x1) := by
  unfold impl_JoinPilesK
  repeat' (first | exact .fin | exact .none | refine .cond ?_ ?_ | refine .bind fun _ => ?_ | refine .sum (fun _ => ?_) fun _ => ?_)
def or14 : Ora := { lo := addL 5 (Limpl_JoinPiles_l0) lo0, fin := [.own (.cell 4 2) TLot] }
theorem impl_JoinPiles_l0e (a0 : List DLot) (a1 : Int) (a3 : Bool) (a4 : Int) (k : Nat) (a2 : Int) (a5 : Bool) (a6 : Int) (a7 : List DLot) : loopC Try.prog EL14 or14 ((loopsIn (codeOf Try.f14)).getD 0 .skip) (Limpl_JoinPiles_l0).h (Limpl_JoinPiles_l0).ho Try.f14.ntmps (k + 1) (simpl_JoinPiles_l0.out (((), ((), (a0, (a1, (a2, ()))))), ((a3, (a4, ((), ()))), ((a5, (a6, ((), ()))), (a7, ()))))) =
    impl_JoinPiles_l0K a0 a1 (fun a2 a5 a6 a7 => loopC Try.prog EL14 or14 ((loopsIn (codeOf Try.f14)).getD 0 .skip) (Limpl_JoinPiles_l0).h (Limpl_JoinPiles_l0).ho Try.f14.ntmps k (simpl_JoinPiles_l0.out (((), ((), (a0, (a1, (a2, ()))))), ((a3, (a4, ((), ()))), ((a5, (a6, ((), ()))), (a7, ())))))) (fun y => some (XS.out ximpl_JoinPiles_l0 (a0, (a1, (a3, a4))) y)) a2 a5 a6 a7 := by kernel_rfl
theorem impl_JoinPiles_l0o : LoopOk Try.prog EL14 or14 Try.f14.ntmps ((loopsIn (codeOf Try.f14)).getD 0 .skip) (Limpl_JoinPiles_l0) :=
  loop_lim (hs := simpl_JoinPiles_l0) (xs := ximpl_JoinPiles_l0) (ι := fun (x : (Unit × Unit × (List DLot) × Int × Int × Unit) × ((Bool × Int × Unit × Unit) × (Bool × Int × Unit × Unit) × (List DLot) × Unit)) => (x.1.2.2.1, (x.1.2.2.2.1, (x.2.1.1, x.2.1.2.1)))) (φ := fun (x : (Unit × Unit × (List DLot) × Int × Int × Unit) × ((Bool × Int × Unit × Unit) × (Bool × Int × Unit × Unit) × (List DLot) × Unit)) => (x.1.2.2.2.2.1, (x.2.2.1.1, (x.2.2.1.2.1, x.2.2.2.1)))) (ψ := fun (i : (List DLot) × Int × Bool × Int) (v : Int × Bool × Int × (List DLot)) => (((), ((), (i.1, (i.2.1, (v.1, ()))))), ((i.2.2.1, (i.2.2.2, ((), ()))), ((v.2.1, (v.2.2.1, ((), ()))), (v.2.2.2, ()))))) (F := fun (i : (List DLot) × Int × Bool × Int) => impl_JoinPiles_l0F i.1 i.2.1) (fun _ => rfl) fun i k hk v => Par.of_eq (impl_JoinPiles_l0e i.1 i.2.1 i.2.2.1 i.2.2.2 k v.1 v.2.1 v.2.2.1 v.2.2.2) (impl_JoinPiles_l0p i.1 i.2.1 (fun a2 a5 a6 a7 => hk (a2, (a5, (a6, a7)))) v.1 v.2.1 v.2.2.1 v.2.2.2)
def c14 : Callee := mkC [.agg [.ro TPile], .agg [.ro TPile]] 2 [.agg [.ro .bool, .ro (.int .i64), .sl TLot], .one (.ro .bool)] fun x => impl_JoinPiles x.1 x.2
theorem e14 (x : PK.dens [.agg [.ro TPile], .agg [.ro TPile]]) : evalFn Try.prog EL14 or14 Try.f14 (PK.outs [.agg [.ro TPile], .agg [.ro TPile]] x) =
    impl_JoinPilesK (fun y => some (tupOf ((PK.outs [.agg [.ro .bool, .ro (.int .i64), .sl TLot], .one (.ro .bool)] y).take 2), (PK.outs [.agg [.ro .bool, .ro (.int .i64), .sl TLot], .one (.ro .bool)] y).drop 2)) x.1 x.2 := by kernel_rfl
theorem o14 : LoOk Try.prog EL14 or14 Try.f14.ntmps (loopsIn (codeOf Try.f14)) :=
  LoOk.mk (m := 1) (by kernel_rfl) fun i hi => match i, hi with
    | 0, _ => ⟨Limpl_JoinPiles_l0, by kernel_rfl, impl_JoinPiles_l0o⟩
    | i + 1, hi => absurd hi (by omega)
theorem k14 : CalleeOk Try.prog 14 c14 := callee_mk Try.func14 (code := codeOf Try.f14) (by kernel_rfl) vL14 mixed o14 fun x y h => (e14 x).trans (p14 _ x.1 x.2 y h)

/-- spec.JoinPiles -/
def EL15 : Nat → Option Callee := addE 43 c43 (addE 42 c42 (addE 30 c30 env0))
theorem vL15 : EnvOk Try.prog EL15 := ((EnvOk.nil.add Try.func30 rfl (by kernel_rfl) k30).add Try.func42 rfl (by kernel_rfl) k42).add Try.func43 rfl (by kernel_rfl) k43
def sspec_JoinPiles_l0 : LS := ⟨[(4, .one (.fix (.ptr 0 0))), (6, .one (.fix (.ptr 1 0))), (25, .one (.dat (.slice TLot))), (26, .one (.dat (.int .i64))), (27, .one (.dat (.int .i64)))], [.box [.dat .bool, .dat (.int .i64), .fix .nils], .box [.dat .bool, .dat (.int .i64), .fix (.sref 2)], .sl TLot], []⟩
def sspec_JoinPiles_l0x0 : LS := ⟨[(4, .one (.fix (.ptr 0 0))), (5, .one (.dat .bool))], [.box [.dat .bool, .dat (.int .i64), .fix .nils]], []⟩
def sspec_JoinPiles_l0x1 : LS := ⟨[(4, .one (.fix (.ptr 0 0))), (6, .one (.fix (.ptr 1 0)))], [.box [.dat .bool, .dat (.int .i64), .fix .nils], .box [.dat .bool, .dat (.int .i64), .fix (.sref 2)], .sl TLot], []⟩
def xspec_JoinPiles_l0 : List (XS ((List DLot) × Int × Bool × Int)) := [⟨.ret, ⟨[4, 5], [.slot 4], [], []⟩, sspec_JoinPiles_l0x0, Bool × Bool × Int, fun i y => (((), (y.1, ())), ((y.2.1, (y.2.2, ((), ()))), ()))⟩,
  ⟨.exit 0, ⟨[4, 6], [.slot 4, .slot 6, .cell 6 2], [], []⟩, sspec_JoinPiles_l0x1, Bool × Int × (List DLot), fun i y => (((), ((), ())), ((i.2.2.1, (i.2.2.2, ((), ()))), ((y.1, (y.2.1, ((), ()))), (y.2.2, ()))))⟩]
def spec_JoinPiles_l0K {R : Type} (a0 : List DLot) (a1 : Int) (rc : Int → Bool → Int → List DLot → Option R) (fin : ((Bool × Bool × Int) ⊕ (Bool × Int × (List DLot))) → Option R) (a2 : Int) (a5 : Bool) (a6 : Int) (a7 : List DLot) : Option R :=
  cond (decide (a2 < a1))
  ((lat a0 a2).bind fun e1 =>
    (spec_spPut (a5, (a6, (a7, ()))) e1).bind fun y2 =>
    cond (!y2.2)
    (fin (.inl (false, (false, 0))))
    (rc (IntKind.i64.wrap (a2 + 1)) y2.1.1 y2.1.2.1 y2.1.2.2))
  (fin (.inr (a5, (a6, a7))))
def spec_JoinPiles_l0F (a0 : List DLot) (a1 : Int) (r : (Int × Bool × Int × (List DLot)) → Option ((Bool × Bool × Int) ⊕ (Bool × Int × (List DLot)))) (x : Int × Bool × Int × (List DLot)) : Option ((Bool × Bool × Int) ⊕ (Bool × Int × (List DLot))) := spec_JoinPiles_l0K a0 a1 (fun a2 a5 a6 a7 => r (a2, (a5, (a6, a7)))) some x.1 x.2.1 x.2.2.1 x.2.2.2
theorem spec_JoinPiles_l0c (a0 : List DLot) (a1 : Int) (x : Int × Bool × Int × (List DLot)) : Ct fun r => spec_JoinPiles_l0F a0 a1 r x := by
  unfold spec_JoinPiles_l0F spec_JoinPiles_l0K
  repeat' (first | exact Ct.const | exact Ct.call | refine Ct.cond ?_ ?_ | refine Ct.bind ?_ fun _ => ?_ | refine Ct.sum (fun _ => ?_) fun _ => ?_)
def spec_JoinPiles_l0 (a0 : List DLot) (a1 : Int) (a2 : Int) (a5 : Bool) (a6 : Int) (a7 : List DLot) : Option ((Bool × Bool × Int) ⊕ (Bool × Int × (List DLot))) := lim (spec_JoinPiles_l0F a0 a1) (a2, (a5, (a6, a7)))
theorem spec_JoinPiles_l0_eq (a0 : List DLot) (a1 : Int) (a2 : Int) (a5 : Bool) (a6 : Int) (a7 : List DLot) : spec_JoinPiles_l0 a0 a1 a2 a5 a6 a7 = spec_JoinPiles_l0K a0 a1 (spec_JoinPiles_l0 a0 a1) some a2 a5 a6 a7 := lim_eq (spec_JoinPiles_l0c a0 a1) (a2, (a5, (a6, a7)))
theorem spec_JoinPiles_l0p {R : Type} (a0 : List DLot) (a1 : Int) {rc : Int → Bool → Int → List DLot → Option ((Bool × Bool × Int) ⊕ (Bool × Int × (List DLot)))} {rc' : Int → Bool → Int → List DLot → Option R} {fin : ((Bool × Bool × Int) ⊕ (Bool × Int × (List DLot))) → Option R} (hr : ∀ a2 a5 a6 a7, Par fin (rc a2 a5 a6 a7) (rc' a2 a5 a6 a7)) (a2 : Int) (a5 : Bool) (a6 : Int) (a7 : List DLot) : Par fin (spec_JoinPiles_l0K a0 a1 rc some a2 a5 a6 a7) (spec_JoinPiles_l0K a0 a1 rc' fin a2 a5 a6 a7) := by
  unfold spec_JoinPiles_l0K
  repeat' (first | exact .fin | exact .none | exact hr _ _ _ _ | refine .cond ?_ ?_ | refine .bind fun _ => ?_ | refine .sum (fun _ => ?_) fun _ => ?_)
def Lspec_JoinPiles_l0 : Loop := mkL ⟨[4, 6, 25, 26, 27], [.slot 4, .slot 6, .cell 6 2], [], []⟩ sspec_JoinPiles_l0 xspec_JoinPiles_l0 (fun (x : (Unit × Unit × (List DLot) × Int × Int × Unit) × ((Bool × Int × Unit × Unit) × (Bool × Int × Unit × Unit) × (List DLot) × Unit)) => (x.1.2.2.1, (x.1.2.2.2.1, (x.2.1.1, x.2.1.2.1)))) fun (x : (Unit × Unit × (List DLot) × Int × Int × Unit) × ((Bool × Int × Unit × Unit) × (Bool × Int × Unit × Unit) × (List DLot) × Unit)) => spec_JoinPiles_l0 x.1.2.2.1 x.1.2.2.2.1 x.1.2.2.2.2.1 x.2.2.1.1 x.2.2.1.2.1 x.2.2.2.1
def spec_JoinPilesK {R : Type} (fin : (Bool × Int × (List DLot)) × Bool → Option R) (x0 : DPile) (x1 : DPile) : Option R :=
  (spec_spGood x0).bind fun y1 =>
  cond (!y1)
  (fin ((false, (0, [])), false))
  ((spec_spGood x1).bind fun y2 =>
    cond (!y2)
    (fin ((false, (0, [])), false))
    ((spec_spWith x0 x0.2.2.1).bind fun y3 =>
      (spec_JoinPiles_l0 x1.2.2.1 (x1.2.2.1.length : Int) 0 y3.1 y3.2.1 y3.2.2).bind fun y6 =>
      sumO y6 (fun y7 =>
      fin ((y7.2.1, (y7.2.2, [])), y7.1))
      (fun y8 =>
      fin (y8, true))))
def spec_JoinPiles (x0 : DPile) (x1 : DPile) : Option ((Bool × Int × (List DLot)) × Bool) := spec_JoinPilesK some x0 x1
theorem p15 {R : Type} (fin : (Bool × Int × (List DLot)) × Bool → Option R) (x0 : DPile) (x1 : DPile) : Par fin (spec_JoinPilesK some x0 x1) (spec_JoinPilesK fin x0 x1) := by
  unfold spec_JoinPilesK
  repeat' (first | exact .fin | exact .none | refine .cond ?_ ?_ | refine .bind fun _ => ?_ | refine .sum (fun _ => ?_) fun _ => ?_)
def or15 : Ora := { lo := addL 5 (Lspec_JoinPiles_l0) lo0, fin := [.own (.cell 4 2) TLot] }
theorem spec_JoinPiles_l0e (a0 : List DLot) (a1 : Int) (a3 : Bool) (a4 : Int) (k : Nat) (a2 : Int) (a5 : Bool) (a6 : Int) (a7 : List DLot) : loopC Try.prog EL15 or15 ((loopsIn (codeOf Try.f15)).getD 0 .skip) (Lspec_JoinPiles_l0).h (Lspec_JoinPiles_l0).ho Try.f15.ntmps (k + 1) (sspec_JoinPiles_l0.out (((), ((), (a0, (a1, (a2, ()))))), ((a3, (a4, ((), ()))), ((a5, (a6, ((), ()))), (a7, ()))))) =
    spec_JoinPiles_l0K a0 a1 (fun a2 a5 a6 a7 => loopC Try.prog EL15 or15 ((loopsIn (codeOf Try.f15)).getD 0 .skip) (Lspec_JoinPiles_l0).h (Lspec_JoinPiles_l0).ho Try.f15.ntmps k (sspec_JoinPiles_l0.out (((), ((), (a0, (a1, (a2, ()))))), ((a3, (a4, ((), ()))), ((a5, (a6, ((), ()))), (a7, ())))))) (fun y => some (XS.out xspec_JoinPiles_l0 (a0, (a1, (a3, a4))) y)) a2 a5 a6 a7 := by kernel_rfl
theorem spec_JoinPiles_l0o : LoopOk Try.prog EL15 or15 Try.f15.ntmps ((loopsIn (codeOf Try.f15)).getD 0 .skip) (Lspec_JoinPiles_l0) :=
  loop_lim (hs := sspec_JoinPiles_l0) (xs := xspec_JoinPiles_l0) (ι := fun (x : (Unit × Unit × (List DLot) × Int × Int × Unit) × ((Bool × Int × Unit × Unit) × (Bool × Int × Unit × Unit) × (List DLot) × Unit)) => (x.1.2.2.1, (x.1.2.2.2.1, (x.2.1.1, x.2.1.2.1)))) (φ := fun (x : (Unit × Unit × (List DLot) × Int × Int × Unit) × ((Bool × Int × Unit × Unit) × (Bool × Int × Unit × Unit) × (List DLot) × Unit)) => (x.1.2.2.2.2.1, (x.2.2.1.1, (x.2.2.1.2.1, x.2.2.2.1)))) (ψ := fun (i : (List DLot) × Int × Bool × Int) (v : Int × Bool × Int × (List DLot)) => (((), ((), (i.1, (i.2.1, (v.1, ()))))), ((i.2.2.1, (i.2.2.2, ((), ()))), ((v.2.1, (v.2.2.1, ((), ()))), (v.2.2.2, ()))))) (F := fun (i : (List DLot) × Int × Bool × Int) => spec_JoinPiles_l0F i.1 i.2.1) (fun _ => rfl) fun i k hk v => Par.of_eq (spec_JoinPiles_l0e i.1 i.2.1 i.2.2.1 i.2.2.2 k v.1 v.2.1 v.2.2.1 v.2.2.2) (spec_JoinPiles_l0p i.1 i.2.1 (fun a2 a5 a6 a7 => hk (a2, (a5, (a6, a7)))) v.1 v.2.1 v.2.2.1 v.2.2.2)
def c15 : Callee := mkC [.agg [.ro TPile], .agg [.ro TPile]] 2 [.agg [.ro .bool, .ro (.int .i64), .sl TLot], .one (.ro .bool)] fun x => spec_JoinPiles x.1 x.2
theorem e15 (x : PK.dens [.agg [.ro TPile], .agg [.ro TPile]]) : evalFn Try.prog EL15 or15 Try.f15 (PK.outs [.agg [.ro TPile], .agg [.ro TPile]] x) =
    spec_JoinPilesK (fun y => some (tupOf ((PK.outs [.agg [.ro .bool, .ro (.int .i64), .sl TLot], .one (.ro .bool)] y).take 2), (PK.outs [.agg [.ro .bool, .ro (.int .i64), .sl TLot], .one (.ro .bool)] y).drop 2)) x.1 x.2 := by kernel_rfl
theorem o15 : LoOk Try.prog EL15 or15 Try.f15.ntmps (loopsIn (codeOf Try.f15)) :=
  LoOk.mk (m := 1) (by kernel_rfl) fun i hi => match i, hi with
    | 0, _ => ⟨Lspec_JoinPiles_l0, by kernel_rfl, spec_JoinPiles_l0o⟩
    | i + 1, hi => absurd hi (by omega)
theorem k15 : CalleeOk Try.prog 15 c15 := callee_mk Try.func15 (code := codeOf Try.f15) (by kernel_rfl) vL15 mixed o15 fun x y h => (e15 x).trans (p15 _ x.1 x.2 y h)

/-- spec.DrawPutLot -/
def EL16 : Nat → Option Callee := addE 34 c34 (addE 24 c24 env0)
theorem vL16 : EnvOk Try.prog EL16 := (EnvOk.nil.add Try.func24 rfl (by kernel_rfl) k24).add Try.func34 rfl (by kernel_rfl) k34
def spec_DrawPutLotK {R : Type} (fin : (Bool × Int × (List DLot)) × DLot → Option R) (x0 : List Int) : Option R :=
  (spec_l1Cur_pile (x0, (0, 0))).bind fun y1 =>
  (spec_l1Cur_lot y1.2).bind fun y2 =>
  fin (y1.1, y2.1)
def spec_DrawPutLot (x0 : List Int) : Option ((Bool × Int × (List DLot)) × DLot) := spec_DrawPutLotK some x0
theorem p16 {R : Type} (fin : (Bool × Int × (List DLot)) × DLot → Option R) (x0 : List Int) : Par fin (spec_DrawPutLotK some x0) (spec_DrawPutLotK fin x0) := by
  unfold spec_DrawPutLotK
  repeat' (first | exact .fin | exact .none | refine .cond ?_ ?_ | refine .bind fun _ => ?_ | refine .sum (fun _ => ?_) fun _ => ?_)
def c16 : Callee := mkC [.one (.ro (.slice (.int .u8)))] 2 [.agg [.ro .bool, .ro (.int .i64), .sl TLot], .agg [.ro TLot]] fun x => spec_DrawPutLot x
theorem e16 (x : PK.dens [.one (.ro (.slice (.int .u8)))]) : evalFn Try.prog EL16 or0 Try.f16 (PK.outs [.one (.ro (.slice (.int .u8)))] x) =
    spec_DrawPutLotK (fun y => some (tupOf ((PK.outs [.agg [.ro .bool, .ro (.int .i64), .sl TLot], .agg [.ro TLot]] y).take 2), (PK.outs [.agg [.ro .bool, .ro (.int .i64), .sl TLot], .agg [.ro TLot]] y).drop 2)) x := by kernel_rfl
theorem k16 : CalleeOk Try.prog 16 c16 := callee_mk Try.func16 (code := codeOf Try.f16) (by kernel_rfl) vL16 mixed (LoOk.nil (by kernel_rfl)) fun x y h => (e16 x).trans (p16 _ x y h)

/-- impl.PutLot -/
def EL17 : Nat → Option Callee := addE 41 c41 (addE 35 c35 (addE 28 c28 env0))
theorem vL17 : EnvOk Try.prog EL17 := ((EnvOk.nil.add Try.func28 rfl (by kernel_rfl) k28).add Try.func35 rfl (by kernel_rfl) k35).add Try.func41 rfl (by kernel_rfl) k41
def impl_PutLotK {R : Type} (fin : (Bool × Int × (List DLot)) × Bool → Option R) (x0 : DPile) (x1 : DLot) : Option R :=
  (impl_IsPile x0).bind fun y1 =>
  cond (!y1)
  (fin ((false, (0, [])), false))
  ((impl_isLot x1).bind fun y2 =>
    cond (!y2)
    (fin ((false, (0, [])), false))
    ((impl_putLot x0 x1).bind fun y3 =>
      fin y3))
def impl_PutLot (x0 : DPile) (x1 : DLot) : Option ((Bool × Int × (List DLot)) × Bool) := impl_PutLotK some x0 x1
theorem p17 {R : Type} (fin : (Bool × Int × (List DLot)) × Bool → Option R) (x0 : DPile) (x1 : DLot) : Par fin (impl_PutLotK some x0 x1) (impl_PutLotK fin x0 x1) := by
  unfold impl_PutLotK
  repeat' (first | exact .fin | exact .none | refine .cond ?_ ?_ | refine .bind fun _ => ?_ | refine .sum (fun _ => ?_) fun _ => ?_)
def or17 : Ora := { lo := lo0, fin := [.own (.cell 4 2) TLot] }
def c17 : Callee := mkC [.agg [.ro TPile], .agg [.ro TLot]] 2 [.agg [.ro .bool, .ro (.int .i64), .sl TLot], .one (.ro .bool)] fun x => impl_PutLot x.1 x.2
theorem e17 (x : PK.dens [.agg [.ro TPile], .agg [.ro TLot]]) : evalFn Try.prog EL17 or17 Try.f17 (PK.outs [.agg [.ro TPile], .agg [.ro TLot]] x) =
    impl_PutLotK (fun y => some (tupOf ((PK.outs [.agg [.ro .bool, .ro (.int .i64), .sl TLot], .one (.ro .bool)] y).take 2), (PK.outs [.agg [.ro .bool, .ro (.int .i64), .sl TLot], .one (.ro .bool)] y).drop 2)) x.1 x.2 := by kernel_rfl
theorem k17 : CalleeOk Try.prog 17 c17 := callee_mk Try.func17 (code := codeOf Try.f17) (by kernel_rfl) vL17 mixed (LoOk.nil (by kernel_rfl)) fun x y h => (e17 x).trans (p17 _ x.1 x.2 y h)

/-- spec.PutLot -/
def EL18 : Nat → Option Callee := addE 43 c43 (addE 37 c37 (addE 30 c30 env0))
theorem vL18 : EnvOk Try.prog EL18 := ((EnvOk.nil.add Try.func30 rfl (by kernel_rfl) k30).add Try.func37 rfl (by kernel_rfl) k37).add Try.func43 rfl (by kernel_rfl) k43
def spec_PutLotK {R : Type} (fin : (Bool × Int × (List DLot)) × Bool → Option R) (x0 : DPile) (x1 : DLot) : Option R :=
  (spec_spGood x0).bind fun y1 =>
  cond (!y1)
  (fin ((false, (0, [])), false))
  ((spec_spLot x1).bind fun y2 =>
    cond (!y2)
    (fin ((false, (0, [])), false))
    ((spec_spPut x0 x1).bind fun y3 =>
      fin y3))
def spec_PutLot (x0 : DPile) (x1 : DLot) : Option ((Bool × Int × (List DLot)) × Bool) := spec_PutLotK some x0 x1
theorem p18 {R : Type} (fin : (Bool × Int × (List DLot)) × Bool → Option R) (x0 : DPile) (x1 : DLot) : Par fin (spec_PutLotK some x0 x1) (spec_PutLotK fin x0 x1) := by
  unfold spec_PutLotK
  repeat' (first | exact .fin | exact .none | refine .cond ?_ ?_ | refine .bind fun _ => ?_ | refine .sum (fun _ => ?_) fun _ => ?_)
def or18 : Ora := { lo := lo0, fin := [.own (.cell 4 2) TLot] }
def c18 : Callee := mkC [.agg [.ro TPile], .agg [.ro TLot]] 2 [.agg [.ro .bool, .ro (.int .i64), .sl TLot], .one (.ro .bool)] fun x => spec_PutLot x.1 x.2
theorem e18 (x : PK.dens [.agg [.ro TPile], .agg [.ro TLot]]) : evalFn Try.prog EL18 or18 Try.f18 (PK.outs [.agg [.ro TPile], .agg [.ro TLot]] x) =
    spec_PutLotK (fun y => some (tupOf ((PK.outs [.agg [.ro .bool, .ro (.int .i64), .sl TLot], .one (.ro .bool)] y).take 2), (PK.outs [.agg [.ro .bool, .ro (.int .i64), .sl TLot], .one (.ro .bool)] y).drop 2)) x.1 x.2 := by kernel_rfl
theorem k18 : CalleeOk Try.prog 18 c18 := callee_mk Try.func18 (code := codeOf Try.f18) (by kernel_rfl) vL18 mixed (LoOk.nil (by kernel_rfl)) fun x y h => (e18 x).trans (p18 _ x.1 x.2 y h)

/-- spec.DrawIsPile -/
def EL44 : Nat → Option Callee := addE 24 c24 env0
theorem vL44 : EnvOk Try.prog EL44 := EnvOk.nil.add Try.func24 rfl (by kernel_rfl) k24
def spec_DrawIsPileK {R : Type} (fin : Bool × Int × (List DLot) → Option R) (x0 : List Int) : Option R :=
  (spec_l1Cur_pile (x0, (0, 0))).bind fun y1 =>
  fin y1.1
def spec_DrawIsPile (x0 : List Int) : Option (Bool × Int × (List DLot)) := spec_DrawIsPileK some x0
theorem p44 {R : Type} (fin : Bool × Int × (List DLot) → Option R) (x0 : List Int) : Par fin (spec_DrawIsPileK some x0) (spec_DrawIsPileK fin x0) := by
  unfold spec_DrawIsPileK
  repeat' (first | exact .fin | exact .none | refine .cond ?_ ?_ | refine .bind fun _ => ?_ | refine .sum (fun _ => ?_) fun _ => ?_)
def c44 : Callee := mkC [.one (.ro (.slice (.int .u8)))] 1 [.agg [.ro .bool, .ro (.int .i64), .sl TLot]] fun x => spec_DrawIsPile x
theorem e44 (x : PK.dens [.one (.ro (.slice (.int .u8)))]) : evalFn Try.prog EL44 or0 Try.f44 (PK.outs [.one (.ro (.slice (.int .u8)))] x) =
    spec_DrawIsPileK (fun y => some (tupOf ((PK.outs [.agg [.ro .bool, .ro (.int .i64), .sl TLot]] y).take 1), (PK.outs [.agg [.ro .bool, .ro (.int .i64), .sl TLot]] y).drop 1)) x := by kernel_rfl
theorem k44 : CalleeOk Try.prog 44 c44 := callee_mk Try.func44 (code := codeOf Try.f44) (by kernel_rfl) vL44 mixed (LoOk.nil (by kernel_rfl)) fun x y h => (e44 x).trans (p44 _ x y h)

/-- spec.DrawPileGrade -/
def EL19 : Nat → Option Callee := addE 44 c44 env0
theorem vL19 : EnvOk Try.prog EL19 := EnvOk.nil.add Try.func44 rfl (by kernel_rfl) k44
def spec_DrawPileGradeK {R : Type} (fin : Bool × Int × (List DLot) → Option R) (x0 : List Int) : Option R :=
  (spec_DrawIsPile x0).bind fun y1 =>
  fin y1
def spec_DrawPileGrade (x0 : List Int) : Option (Bool × Int × (List DLot)) := spec_DrawPileGradeK some x0
theorem p19 {R : Type} (fin : Bool × Int × (List DLot) → Option R) (x0 : List Int) : Par fin (spec_DrawPileGradeK some x0) (spec_DrawPileGradeK fin x0) := by
  unfold spec_DrawPileGradeK
  repeat' (first | exact .fin | exact .none | refine .cond ?_ ?_ | refine .bind fun _ => ?_ | refine .sum (fun _ => ?_) fun _ => ?_)
def c19 : Callee := mkC [.one (.ro (.slice (.int .u8)))] 1 [.agg [.ro .bool, .ro (.int .i64), .sl TLot]] fun x => spec_DrawPileGrade x
theorem e19 (x : PK.dens [.one (.ro (.slice (.int .u8)))]) : evalFn Try.prog EL19 or0 Try.f19 (PK.outs [.one (.ro (.slice (.int .u8)))] x) =
    spec_DrawPileGradeK (fun y => some (tupOf ((PK.outs [.agg [.ro .bool, .ro (.int .i64), .sl TLot]] y).take 1), (PK.outs [.agg [.ro .bool, .ro (.int .i64), .sl TLot]] y).drop 1)) x := by kernel_rfl
theorem k19 : CalleeOk Try.prog 19 c19 := callee_mk Try.func19 (code := codeOf Try.f19) (by kernel_rfl) vL19 mixed (LoOk.nil (by kernel_rfl)) fun x y h => (e19 x).trans (p19 _ x y h)

/-- impl.abs -/
def EL49 : Nat → Option Callee := env0
theorem vL49 : EnvOk Try.prog EL49 := EnvOk.nil
def impl_absK {R : Type} (fin : Int → Option R) (x0 : Int) : Option R :=
  fin (if (IntKind.i64.wrap (0 - x0)) > x0 then IntKind.i64.wrap (0 - x0) else x0)
def impl_abs (x0 : Int) : Option (Int) := impl_absK some x0
theorem p49 {R : Type} (fin : Int → Option R) (x0 : Int) : Par fin (impl_absK some x0) (impl_absK fin x0) := by
  unfold impl_absK
  repeat' (first | exact .fin | exact .none | refine .cond ?_ ?_ | refine .bind fun _ => ?_ | refine .sum (fun _ => ?_) fun _ => ?_)
def c49 : Callee := mkC [.one (.ro (.int .i64))] 1 [.one (.ro (.int .i64))] fun x => impl_abs x
theorem e49 (x : PK.dens [.one (.ro (.int .i64))]) : evalFn Try.prog EL49 or0 Try.f49 (PK.outs [.one (.ro (.int .i64))] x) =
    impl_absK (fun y => some (tupOf ((PK.outs [.one (.ro (.int .i64))] y).take 1), (PK.outs [.one (.ro (.int .i64))] y).drop 1)) x := by kernel_rfl
theorem k49 : CalleeOk Try.prog 49 c49 := callee_mk Try.func49 (code := codeOf Try.f49) (by kernel_rfl) vL49 mixed (LoOk.nil (by kernel_rfl)) fun x y h => (e49 x).trans (p49 _ x y h)

/-- impl.lowest -/
def EL45 : Nat → Option Callee := addE 49 c49 env0
theorem vL45 : EnvOk Try.prog EL45 := EnvOk.nil.add Try.func49 rfl (by kernel_rfl) k49
def simpl_lowest_l0 : LS := ⟨[(0, .one (.dat (.int .i64))), (1, .one (.dat (.int .i64))), (6, .one (.dat (.int .i64))), (7, .one (.dat (.int .i64)))], [], []⟩
def simpl_lowest_l0x0 : LS := ⟨[(0, .one (.dat (.int .i64))), (1, .one (.dat (.int .i64))), (6, .one (.dat (.int .i64)))], [], []⟩
def ximpl_lowest_l0 : List (XS (Int × Int)) := [⟨.exit 0, ⟨[0, 1, 6], [], [], []⟩, simpl_lowest_l0x0, Int, fun i y => ((i.1, (i.2, (y, ()))), ())⟩]
def impl_lowest_l0K {R : Type} (rc : Int → Int → Option R) (fin : Int → Option R) (a2 : Int) (a3 : Int) : Option R :=
  cond (a3 != 0)
  (cond (decide (a3 = 0))
    (none)
    (rc a3 (a2.tmod a3)))
  (fin a2)
def impl_lowest_l0F (r : (Int × Int) → Option (Int)) (x : Int × Int) : Option (Int) := impl_lowest_l0K (fun a2 a3 => r (a2, a3)) some x.1 x.2
theorem impl_lowest_l0c (x : Int × Int) : Ct fun r => impl_lowest_l0F r x := by
  unfold impl_lowest_l0F impl_lowest_l0K
  repeat' (first | exact Ct.const | exact Ct.call | refine Ct.cond ?_ ?_ | refine Ct.bind ?_ fun _ => ?_ | refine Ct.sum (fun _ => ?_) fun _ => ?_)
def impl_lowest_l0 (a2 : Int) (a3 : Int) : Option (Int) := lim (impl_lowest_l0F) (a2, a3)
theorem impl_lowest_l0_eq (a2 : Int) (a3 : Int) : impl_lowest_l0 a2 a3 = impl_lowest_l0K (impl_lowest_l0) some a2 a3 := lim_eq (impl_lowest_l0c) (a2, a3)
theorem impl_lowest_l0p {R : Type} {rc : Int → Int → Option (Int)} {rc' : Int → Int → Option R} {fin : Int → Option R} (hr : ∀ a2 a3, Par fin (rc a2 a3) (rc' a2 a3)) (a2 : Int) (a3 : Int) : Par fin (impl_lowest_l0K rc some a2 a3) (impl_lowest_l0K rc' fin a2 a3) := by
  unfold impl_lowest_l0K
  repeat' (first | exact .fin | exact .none | exact hr _ _ | refine .cond ?_ ?_ | refine .bind fun _ => ?_ | refine .sum (fun _ => ?_) fun _ => ?_)
def Limpl_lowest_l0 : Loop := mkL ⟨[0, 1, 6, 7], [], [], []⟩ simpl_lowest_l0 ximpl_lowest_l0 (fun (x : (Int × Int × Int × Int × Unit) × (Unit)) => (x.1.1, x.1.2.1)) fun (x : (Int × Int × Int × Int × Unit) × (Unit)) => impl_lowest_l0 x.1.2.2.1 x.1.2.2.2.1
def impl_lowestK {R : Type} (fin : Int × Int → Option R) (x0 : Int) (x1 : Int) : Option R :=
  (impl_abs x0).bind fun y1 =>
  (impl_lowest_l0 y1 x1).bind fun y2 =>
  cond (decide (y2 = 0))
  (none)
  (cond (decide (y2 = 0))
    (none)
    (fin (IntKind.i64.wrap (x0.tdiv y2), IntKind.i64.wrap (x1.tdiv y2))))
def impl_lowest (x0 : Int) (x1 : Int) : Option (Int × Int) := impl_lowestK some x0 x1
theorem p45 {R : Type} (fin : Int × Int → Option R) (x0 : Int) (x1 : Int) : Par fin (impl_lowestK some x0 x1) (impl_lowestK fin x0 x1) := by
  unfold impl_lowestK
  repeat' (first | exact .fin | exact .none | refine .cond ?_ ?_ | refine .bind fun _ => ?_ | refine .sum (fun _ => ?_) fun _ => ?_)
def or45 : Ora := { lo := addL 2 (Limpl_lowest_l0) lo0, fin := [] }
theorem impl_lowest_l0e (a0 : Int) (a1 : Int) (k : Nat) (a2 : Int) (a3 : Int) : loopC Try.prog EL45 or45 ((loopsIn (codeOf Try.f45)).getD 0 .skip) (Limpl_lowest_l0).h (Limpl_lowest_l0).ho Try.f45.ntmps (k + 1) (simpl_lowest_l0.out ((a0, (a1, (a2, (a3, ())))), ())) =
    impl_lowest_l0K (fun a2 a3 => loopC Try.prog EL45 or45 ((loopsIn (codeOf Try.f45)).getD 0 .skip) (Limpl_lowest_l0).h (Limpl_lowest_l0).ho Try.f45.ntmps k (simpl_lowest_l0.out ((a0, (a1, (a2, (a3, ())))), ()))) (fun y => some (XS.out ximpl_lowest_l0 (a0, a1) y)) a2 a3 := by kernel_rfl
theorem impl_lowest_l0o : LoopOk Try.prog EL45 or45 Try.f45.ntmps ((loopsIn (codeOf Try.f45)).getD 0 .skip) (Limpl_lowest_l0) :=
  loop_lim (hs := simpl_lowest_l0) (xs := ximpl_lowest_l0) (ι := fun (x : (Int × Int × Int × Int × Unit) × (Unit)) => (x.1.1, x.1.2.1)) (φ := fun (x : (Int × Int × Int × Int × Unit) × (Unit)) => (x.1.2.2.1, x.1.2.2.2.1)) (ψ := fun (i : Int × Int) (v : Int × Int) => ((i.1, (i.2, (v.1, (v.2, ())))), ())) (F := fun (i : Int × Int) => impl_lowest_l0F) (fun _ => rfl) fun i k hk v => Par.of_eq (impl_lowest_l0e i.1 i.2 k v.1 v.2) (impl_lowest_l0p (fun a2 a3 => hk (a2, a3)) v.1 v.2)
def c45 : Callee := mkC [.one (.ro (.int .i64)), .one (.ro (.int .i64))] 2 [.one (.ro (.int .i64)), .one (.ro (.int .i64))] fun x => impl_lowest x.1 x.2
theorem e45 (x : PK.dens [.one (.ro (.int .i64)), .one (.ro (.int .i64))]) : evalFn Try.prog EL45 or45 Try.f45 (PK.outs [.one (.ro (.int .i64)), .one (.ro (.int .i64))] x) =
    impl_lowestK (fun y => some (tupOf ((PK.outs [.one (.ro (.int .i64)), .one (.ro (.int .i64))] y).take 2), (PK.outs [.one (.ro (.int .i64)), .one (.ro (.int .i64))] y).drop 2)) x.1 x.2 := by kernel_rfl
theorem o45 : LoOk Try.prog EL45 or45 Try.f45.ntmps (loopsIn (codeOf Try.f45)) :=
  LoOk.mk (m := 1) (by kernel_rfl) fun i hi => match i, hi with
    | 0, _ => ⟨Limpl_lowest_l0, by kernel_rfl, impl_lowest_l0o⟩
    | i + 1, hi => absurd hi (by omega)
theorem k45 : CalleeOk Try.prog 45 c45 := callee_mk Try.func45 (code := codeOf Try.f45) (by kernel_rfl) vL45 mixed o45 fun x y h => (e45 x).trans (p45 _ x.1 x.2 y h)

/-- impl.PileGrade -/
def EL20 : Nat → Option Callee := addE 45 c45 (addE 33 c33 (addE 28 c28 env0))
theorem vL20 : EnvOk Try.prog EL20 := ((EnvOk.nil.add Try.func28 rfl (by kernel_rfl) k28).add Try.func33 rfl (by kernel_rfl) k33).add Try.func45 rfl (by kernel_rfl) k45
def impl_PileGradeK {R : Type} (fin : Int × Int × Bool → Option R) (x0 : DPile) : Option R :=
  (impl_IsPile x0).bind fun y1 =>
  cond (!y1)
  (fin (0, (0, false)))
  (cond ((x0.2.2.1.length : Int) == 0)
    (fin (0, (0, false)))
    ((impl_lotSum x0.2.2.1).bind fun y2 =>
      (impl_lowest y2.2.1 y2.1).bind fun y3 =>
      fin (y3.1, (y3.2, true))))
def impl_PileGrade (x0 : DPile) : Option (Int × Int × Bool) := impl_PileGradeK some x0
theorem p20 {R : Type} (fin : Int × Int × Bool → Option R) (x0 : DPile) : Par fin (impl_PileGradeK some x0) (impl_PileGradeK fin x0) := by
  unfold impl_PileGradeK
  repeat' (first | exact .fin | exact .none | refine .cond ?_ ?_ | refine .bind fun _ => ?_ | refine .sum (fun _ => ?_) fun _ => ?_)
def c20 : Callee := mkC [.agg [.ro TPile]] 3 [.one (.ro (.int .i64)), .one (.ro (.int .i64)), .one (.ro .bool)] fun x => impl_PileGrade x
theorem e20 (x : PK.dens [.agg [.ro TPile]]) : evalFn Try.prog EL20 or0 Try.f20 (PK.outs [.agg [.ro TPile]] x) =
    impl_PileGradeK (fun y => some (tupOf ((PK.outs [.one (.ro (.int .i64)), .one (.ro (.int .i64)), .one (.ro .bool)] y).take 3), (PK.outs [.one (.ro (.int .i64)), .one (.ro (.int .i64)), .one (.ro .bool)] y).drop 3)) x := by kernel_rfl
theorem k20 : CalleeOk Try.prog 20 c20 := callee_mk Try.func20 (code := codeOf Try.f20) (by kernel_rfl) vL20 mixed (LoOk.nil (by kernel_rfl)) fun x y h => (e20 x).trans (p20 _ x y h)

/-- spec.moPart -/
def EL46 : Nat → Option Callee := env0
theorem vL46 : EnvOk Try.prog EL46 := EnvOk.nil
def sspec_moPart_l0 : LS := ⟨[(0, .one (.dat (.int .i64))), (1, .one (.dat (.int .i64))), (6, .one (.dat (.int .i64))), (7, .one (.dat (.int .i64)))], [], []⟩
def sspec_moPart_l0x0 : LS := ⟨[(0, .one (.dat (.int .i64))), (1, .one (.dat (.int .i64))), (6, .one (.dat (.int .i64)))], [], []⟩
def xspec_moPart_l0 : List (XS (Int × Int)) := [⟨.exit 0, ⟨[0, 1, 6], [], [], []⟩, sspec_moPart_l0x0, Int, fun i y => ((i.1, (i.2, (y, ()))), ())⟩]
def spec_moPart_l0K {R : Type} (rc : Int → Int → Option R) (fin : Int → Option R) (a2 : Int) (a3 : Int) : Option R :=
  cond (decide (a3 > 0))
  (cond (decide (a3 = 0))
    (none)
    (rc a3 (a2.tmod a3)))
  (fin a2)
def spec_moPart_l0F (r : (Int × Int) → Option (Int)) (x : Int × Int) : Option (Int) := spec_moPart_l0K (fun a2 a3 => r (a2, a3)) some x.1 x.2
theorem spec_moPart_l0c (x : Int × Int) : Ct fun r => spec_moPart_l0F r x := by
  unfold spec_moPart_l0F spec_moPart_l0K
  repeat' (first | exact Ct.const | exact Ct.call | refine Ct.cond ?_ ?_ | refine Ct.bind ?_ fun _ => ?_ | refine Ct.sum (fun _ => ?_) fun _ => ?_)
def spec_moPart_l0 (a2 : Int) (a3 : Int) : Option (Int) := lim (spec_moPart_l0F) (a2, a3)
theorem spec_moPart_l0_eq (a2 : Int) (a3 : Int) : spec_moPart_l0 a2 a3 = spec_moPart_l0K (spec_moPart_l0) some a2 a3 := lim_eq (spec_moPart_l0c) (a2, a3)
theorem spec_moPart_l0p {R : Type} {rc : Int → Int → Option (Int)} {rc' : Int → Int → Option R} {fin : Int → Option R} (hr : ∀ a2 a3, Par fin (rc a2 a3) (rc' a2 a3)) (a2 : Int) (a3 : Int) : Par fin (spec_moPart_l0K rc some a2 a3) (spec_moPart_l0K rc' fin a2 a3) := by
  unfold spec_moPart_l0K
  repeat' (first | exact .fin | exact .none | exact hr _ _ | refine .cond ?_ ?_ | refine .bind fun _ => ?_ | refine .sum (fun _ => ?_) fun _ => ?_)
def Lspec_moPart_l0 : Loop := mkL ⟨[0, 1, 6, 7], [], [], []⟩ sspec_moPart_l0 xspec_moPart_l0 (fun (x : (Int × Int × Int × Int × Unit) × (Unit)) => (x.1.1, x.1.2.1)) fun (x : (Int × Int × Int × Int × Unit) × (Unit)) => spec_moPart_l0 x.1.2.2.1 x.1.2.2.2.1
def spec_moPartK {R : Type} (fin : Int × Int → Option R) (x0 : Int) (x1 : Int) : Option R :=
  (spec_moPart_l0 x0 x1).bind fun y1 =>
  cond (decide (y1 = 0))
  (none)
  (cond (decide (y1 = 0))
    (none)
    (fin (IntKind.i64.wrap (x0.tdiv y1), IntKind.i64.wrap (x1.tdiv y1))))
def spec_moPart (x0 : Int) (x1 : Int) : Option (Int × Int) := spec_moPartK some x0 x1
theorem p46 {R : Type} (fin : Int × Int → Option R) (x0 : Int) (x1 : Int) : Par fin (spec_moPartK some x0 x1) (spec_moPartK fin x0 x1) := by
  unfold spec_moPartK
  repeat' (first | exact .fin | exact .none | refine .cond ?_ ?_ | refine .bind fun _ => ?_ | refine .sum (fun _ => ?_) fun _ => ?_)
def or46 : Ora := { lo := addL 2 (Lspec_moPart_l0) lo0, fin := [] }
theorem spec_moPart_l0e (a0 : Int) (a1 : Int) (k : Nat) (a2 : Int) (a3 : Int) : loopC Try.prog EL46 or46 ((loopsIn (codeOf Try.f46)).getD 0 .skip) (Lspec_moPart_l0).h (Lspec_moPart_l0).ho Try.f46.ntmps (k + 1) (sspec_moPart_l0.out ((a0, (a1, (a2, (a3, ())))), ())) =
    spec_moPart_l0K (fun a2 a3 => loopC Try.prog EL46 or46 ((loopsIn (codeOf Try.f46)).getD 0 .skip) (Lspec_moPart_l0).h (Lspec_moPart_l0).ho Try.f46.ntmps k (sspec_moPart_l0.out ((a0, (a1, (a2, (a3, ())))), ()))) (fun y => some (XS.out xspec_moPart_l0 (a0, a1) y)) a2 a3 := by kernel_rfl
theorem spec_moPart_l0o : LoopOk Try.prog EL46 or46 Try.f46.ntmps ((loopsIn (codeOf Try.f46)).getD 0 .skip) (Lspec_moPart_l0) :=
  loop_lim (hs := sspec_moPart_l0) (xs := xspec_moPart_l0) (ι := fun (x : (Int × Int × Int × Int × Unit) × (Unit)) => (x.1.1, x.1.2.1)) (φ := fun (x : (Int × Int × Int × Int × Unit) × (Unit)) => (x.1.2.2.1, x.1.2.2.2.1)) (ψ := fun (i : Int × Int) (v : Int × Int) => ((i.1, (i.2, (v.1, (v.2, ())))), ())) (F := fun (i : Int × Int) => spec_moPart_l0F) (fun _ => rfl) fun i k hk v => Par.of_eq (spec_moPart_l0e i.1 i.2 k v.1 v.2) (spec_moPart_l0p (fun a2 a3 => hk (a2, a3)) v.1 v.2)
def c46 : Callee := mkC [.one (.ro (.int .i64)), .one (.ro (.int .i64))] 2 [.one (.ro (.int .i64)), .one (.ro (.int .i64))] fun x => spec_moPart x.1 x.2
theorem e46 (x : PK.dens [.one (.ro (.int .i64)), .one (.ro (.int .i64))]) : evalFn Try.prog EL46 or46 Try.f46 (PK.outs [.one (.ro (.int .i64)), .one (.ro (.int .i64))] x) =
    spec_moPartK (fun y => some (tupOf ((PK.outs [.one (.ro (.int .i64)), .one (.ro (.int .i64))] y).take 2), (PK.outs [.one (.ro (.int .i64)), .one (.ro (.int .i64))] y).drop 2)) x.1 x.2 := by kernel_rfl
theorem o46 : LoOk Try.prog EL46 or46 Try.f46.ntmps (loopsIn (codeOf Try.f46)) :=
  LoOk.mk (m := 1) (by kernel_rfl) fun i hi => match i, hi with
    | 0, _ => ⟨Lspec_moPart_l0, by kernel_rfl, spec_moPart_l0o⟩
    | i + 1, hi => absurd hi (by omega)
theorem k46 : CalleeOk Try.prog 46 c46 := callee_mk Try.func46 (code := codeOf Try.f46) (by kernel_rfl) vL46 mixed o46 fun x y h => (e46 x).trans (p46 _ x.1 x.2 y h)

/-- spec.PileGrade -/
def EL21 : Nat → Option Callee := addE 46 c46 (addE 25 c25 (addE 30 c30 env0))
theorem vL21 : EnvOk Try.prog EL21 := ((EnvOk.nil.add Try.func30 rfl (by kernel_rfl) k30).add Try.func25 rfl (by kernel_rfl) k25).add Try.func46 rfl (by kernel_rfl) k46
def spec_PileGradeK {R : Type} (fin : Int × Int × Bool → Option R) (x0 : DPile) : Option R :=
  (spec_spGood x0).bind fun y1 =>
  cond (!y1)
  (fin (0, (0, false)))
  (cond ((x0.2.2.1.length : Int) == 0)
    (fin (0, (0, false)))
    ((spec_spSums x0.2.2.1).bind fun y2 =>
      (spec_moPart y2.2 y2.1).bind fun y3 =>
      fin (y3.1, (y3.2, true))))
def spec_PileGrade (x0 : DPile) : Option (Int × Int × Bool) := spec_PileGradeK some x0
theorem p21 {R : Type} (fin : Int × Int × Bool → Option R) (x0 : DPile) : Par fin (spec_PileGradeK some x0) (spec_PileGradeK fin x0) := by
  unfold spec_PileGradeK
  repeat' (first | exact .fin | exact .none | refine .cond ?_ ?_ | refine .bind fun _ => ?_ | refine .sum (fun _ => ?_) fun _ => ?_)
def c21 : Callee := mkC [.agg [.ro TPile]] 3 [.one (.ro (.int .i64)), .one (.ro (.int .i64)), .one (.ro .bool)] fun x => spec_PileGrade x
theorem e21 (x : PK.dens [.agg [.ro TPile]]) : evalFn Try.prog EL21 or0 Try.f21 (PK.outs [.agg [.ro TPile]] x) =
    spec_PileGradeK (fun y => some (tupOf ((PK.outs [.one (.ro (.int .i64)), .one (.ro (.int .i64)), .one (.ro .bool)] y).take 3), (PK.outs [.one (.ro (.int .i64)), .one (.ro (.int .i64)), .one (.ro .bool)] y).drop 3)) x := by kernel_rfl
theorem k21 : CalleeOk Try.prog 21 c21 := callee_mk Try.func21 (code := codeOf Try.f21) (by kernel_rfl) vL21 mixed (LoOk.nil (by kernel_rfl)) fun x y h => (e21 x).trans (p21 _ x y h)

/-- impl.OldestLot -/
def EL22 : Nat → Option Callee := addE 28 c28 env0
theorem vL22 : EnvOk Try.prog EL22 := EnvOk.nil.add Try.func28 rfl (by kernel_rfl) k28
def impl_OldestLotK {R : Type} (fin : DLot × Bool → Option R) (x0 : DPile) : Option R :=
  (impl_IsPile x0).bind fun y1 =>
  cond (!y1)
  (fin ((0, (0, ())), false))
  (cond ((x0.2.2.1.length : Int) == 0)
    (fin ((0, (0, ())), false))
    ((lat x0.2.2.1 0).bind fun e2 =>
      fin (e2, true)))
def impl_OldestLot (x0 : DPile) : Option (DLot × Bool) := impl_OldestLotK some x0
theorem p22 {R : Type} (fin : DLot × Bool → Option R) (x0 : DPile) : Par fin (impl_OldestLotK some x0) (impl_OldestLotK fin x0) := by
  unfold impl_OldestLotK
  repeat' (first | exact .fin | exact .none | refine .cond ?_ ?_ | refine .bind fun _ => ?_ | refine .sum (fun _ => ?_) fun _ => ?_)
def c22 : Callee := mkC [.agg [.ro TPile]] 2 [.agg [.ro TLot], .one (.ro .bool)] fun x => impl_OldestLot x
theorem e22 (x : PK.dens [.agg [.ro TPile]]) : evalFn Try.prog EL22 or0 Try.f22 (PK.outs [.agg [.ro TPile]] x) =
    impl_OldestLotK (fun y => some (tupOf ((PK.outs [.agg [.ro TLot], .one (.ro .bool)] y).take 2), (PK.outs [.agg [.ro TLot], .one (.ro .bool)] y).drop 2)) x := by kernel_rfl
theorem k22 : CalleeOk Try.prog 22 c22 := callee_mk Try.func22 (code := codeOf Try.f22) (by kernel_rfl) vL22 mixed (LoOk.nil (by kernel_rfl)) fun x y h => (e22 x).trans (p22 _ x y h)

/-- spec.OldestLot -/
def EL23 : Nat → Option Callee := addE 30 c30 env0
theorem vL23 : EnvOk Try.prog EL23 := EnvOk.nil.add Try.func30 rfl (by kernel_rfl) k30
def spec_OldestLotK {R : Type} (fin : DLot × Bool → Option R) (x0 : DPile) : Option R :=
  (spec_spGood x0).bind fun y1 =>
  cond (!y1)
  (fin ((0, (0, ())), false))
  (cond ((x0.2.2.1.length : Int) == 0)
    (fin ((0, (0, ())), false))
    ((lat x0.2.2.1 0).bind fun e2 =>
      fin (e2, true)))
def spec_OldestLot (x0 : DPile) : Option (DLot × Bool) := spec_OldestLotK some x0
theorem p23 {R : Type} (fin : DLot × Bool → Option R) (x0 : DPile) : Par fin (spec_OldestLotK some x0) (spec_OldestLotK fin x0) := by
  unfold spec_OldestLotK
  repeat' (first | exact .fin | exact .none | refine .cond ?_ ?_ | refine .bind fun _ => ?_ | refine .sum (fun _ => ?_) fun _ => ?_)
def c23 : Callee := mkC [.agg [.ro TPile]] 2 [.agg [.ro TLot], .one (.ro .bool)] fun x => spec_OldestLot x
theorem e23 (x : PK.dens [.agg [.ro TPile]]) : evalFn Try.prog EL23 or0 Try.f23 (PK.outs [.agg [.ro TPile]] x) =
    spec_OldestLotK (fun y => some (tupOf ((PK.outs [.agg [.ro TLot], .one (.ro .bool)] y).take 2), (PK.outs [.agg [.ro TLot], .one (.ro .bool)] y).drop 2)) x := by kernel_rfl
theorem k23 : CalleeOk Try.prog 23 c23 := callee_mk Try.func23 (code := codeOf Try.f23) (by kernel_rfl) vL23 mixed (LoOk.nil (by kernel_rfl)) fun x y h => (e23 x).trans (p23 _ x y h)

/-- laws.FnLots -/
def EL3 : Nat → Option Callee := addE 23 c23 (addE 22 c22 (addE 21 c21 (addE 20 c20 (addE 19 c19 (addE 18 c18 (addE 17 c17 (addE 16 c16 (addE 15 c15 (addE 14 c14 (addE 13 c13 (addE 12 c12 (addE 11 c11 (addE 10 c10 (addE 9 c9 (addE 8 c8 (addE 7 c7 (addE 6 c6 (addE 5 c5 (addE 4 c4 env0)))))))))))))))))))
theorem vL3 : EnvOk Try.prog EL3 := (((((((((((((((((((EnvOk.nil.add Try.func4 rfl (by kernel_rfl) k4).add Try.func5 rfl (by kernel_rfl) k5).add Try.func6 rfl (by kernel_rfl) k6).add Try.func7 rfl (by kernel_rfl) k7).add Try.func8 rfl (by kernel_rfl) k8).add Try.func9 rfl (by kernel_rfl) k9).add Try.func10 rfl (by kernel_rfl) k10).add Try.func11 rfl (by kernel_rfl) k11).add Try.func12 rfl (by kernel_rfl) k12).add Try.func13 rfl (by kernel_rfl) k13).add Try.func14 rfl (by kernel_rfl) k14).add Try.func15 rfl (by kernel_rfl) k15).add Try.func16 rfl (by kernel_rfl) k16).add Try.func17 rfl (by kernel_rfl) k17).add Try.func18 rfl (by kernel_rfl) k18).add Try.func19 rfl (by kernel_rfl) k19).add Try.func20 rfl (by kernel_rfl) k20).add Try.func21 rfl (by kernel_rfl) k21).add Try.func22 rfl (by kernel_rfl) k22).add Try.func23 rfl (by kernel_rfl) k23
def laws_FnLotsK {R : Type} (fin : Bool → Option R) (x0 : List Int) (x1 : List Int) : Option R :=
  (laws_big x0 x1).bind fun y1 =>
  cond (y1)
  (fin true)
  ((spec_DrawTakeTonnes x0).bind fun y2 =>
    (impl_TakeTonnes (y2.1.1, (y2.1.2.1, (y2.1.2.2, ()))) y2.2).bind fun y3 =>
    (spec_TakeTonnes (y2.1.1, (y2.1.2.1, (y2.1.2.2, ()))) y2.2).bind fun y4 =>
    cond (!(y3.2.2 == y4.2.2))
    (fin false)
    ((laws_pSamePile (y3.1.1, (y3.1.2.1, (y3.1.2.2, ()))) (y4.1.1, (y4.1.2.1, (y4.1.2.2, ())))).bind fun y5 =>
      cond (!y5)
      (fin false)
      (cond (!(y3.2.1.1 == y4.2.1.1 && (y3.2.1.2.1 == y4.2.1.2.1 && true)))
        (fin false)
        (cond (y3.2.2)
          ((impl_PileSums (y2.1.1, (y2.1.2.1, (y2.1.2.2, ())))).bind fun y6 =>
            (impl_PileSums (y3.1.1, (y3.1.2.1, (y3.1.2.2, ())))).bind fun y7 =>
            cond (!y6.2.2)
            (fin false)
            (cond (!y7.2.2)
              (fin false)
              (cond (y4.2.1.1 != y2.2)
                (fin false)
                (cond (y6.1 != (IntKind.i64.wrap (y7.1 + y2.2)))
                  (fin false)
                  (cond (y6.2.1 != (IntKind.i64.wrap (y7.2.1 + y4.2.1.2.1)))
                    (fin false)
                    ((spec_DrawSplitLot x1).bind fun y8 =>
                      (impl_SplitLot y8.1 y8.2).bind fun y9 =>
                      (spec_SplitLot y8.1 y8.2).bind fun y10 =>
                      cond (!(y9.2.2 == y10.2.2))
                      (fin false)
                      (cond (!(y9.1.1 == y10.1.1 && (y9.1.2.1 == y10.1.2.1 && true)))
                        (fin false)
                        (cond (!(y9.2.1.1 == y10.2.1.1 && (y9.2.1.2.1 == y10.2.1.2.1 && true)))
                          (fin false)
                          (cond (y9.2.2)
                            (cond (y10.1.1 != y8.2)
                              (fin false)
                              (cond ((IntKind.i64.wrap (y10.1.1 + y10.2.1.1)) != y8.1.1)
                                (fin false)
                                (cond ((IntKind.i64.wrap (y10.1.2.1 + y10.2.1.2.1)) != y8.1.2.1)
                                  (fin false)
                                  ((spec_DrawJoinPiles x1).bind fun y11 =>
                                    (impl_JoinPiles (y11.1.1, (y11.1.2.1, (y11.1.2.2, ()))) (y11.2.1, (y11.2.2.1, (y11.2.2.2, ())))).bind fun y12 =>
                                    (spec_JoinPiles (y11.1.1, (y11.1.2.1, (y11.1.2.2, ()))) (y11.2.1, (y11.2.2.1, (y11.2.2.2, ())))).bind fun y13 =>
                                    cond (!(y12.2 == y13.2))
                                    (fin false)
                                    ((laws_pSamePile (y12.1.1, (y12.1.2.1, (y12.1.2.2, ()))) (y13.1.1, (y13.1.2.1, (y13.1.2.2, ())))).bind fun y14 =>
                                      cond (!y14)
                                      (fin false)
                                      (cond (y12.2)
                                        ((impl_PileSums (y11.1.1, (y11.1.2.1, (y11.1.2.2, ())))).bind fun y15 =>
                                          (impl_PileSums (y11.2.1, (y11.2.2.1, (y11.2.2.2, ())))).bind fun y16 =>
                                          (impl_PileSums (y12.1.1, (y12.1.2.1, (y12.1.2.2, ())))).bind fun y17 =>
                                          cond (!y15.2.2)
                                          (fin false)
                                          (cond (!y16.2.2)
                                            (fin false)
                                            (cond (!y17.2.2)
                                              (fin false)
                                              (cond (y17.1 != (IntKind.i64.wrap (y15.1 + y16.1)))
                                                (fin false)
                                                (cond (y17.2.1 != (IntKind.i64.wrap (y15.2.1 + y16.2.1)))
                                                  (fin false)
                                                  ((spec_DrawPutLot x1).bind fun y18 =>
                                                    (impl_PutLot (y18.1.1, (y18.1.2.1, (y18.1.2.2, ()))) y18.2).bind fun y19 =>
                                                    (spec_PutLot (y18.1.1, (y18.1.2.1, (y18.1.2.2, ()))) y18.2).bind fun y20 =>
                                                    (spec_DrawPileGrade x1).bind fun y21 =>
                                                    (impl_PileGrade (y21.1, (y21.2.1, (y21.2.2, ())))).bind fun y22 =>
                                                    (spec_PileGrade (y21.1, (y21.2.1, (y21.2.2, ())))).bind fun y23 =>
                                                    (impl_OldestLot (y21.1, (y21.2.1, (y21.2.2, ())))).bind fun y24 =>
                                                    (spec_OldestLot (y21.1, (y21.2.1, (y21.2.2, ())))).bind fun y25 =>
                                                    cond (y19.2 == y20.2)
                                                    ((laws_pSamePile (y19.1.1, (y19.1.2.1, (y19.1.2.2, ()))) (y20.1.1, (y20.1.2.1, (y20.1.2.2, ())))).bind fun y26 =>
                                                      cond (y26)
                                                      (cond (y22.2.2 == y23.2.2)
                                                        (cond (y22.1 == y23.1)
                                                          (cond (y22.2.1 == y23.2.1)
                                                            (cond (y24.2 == y25.2)
                                                              (cond (y24.1.1 == y25.1.1 && (y24.1.2.1 == y25.1.2.1 && true))
                                                                (fin (y24.2 == y22.2.2))
                                                                (fin false))
                                                              (fin false))
                                                            (fin false))
                                                          (fin false))
                                                        (fin false))
                                                      (fin false))
                                                    (fin false)))))))
                                        ((spec_DrawPutLot x1).bind fun y27 =>
                                          (impl_PutLot (y27.1.1, (y27.1.2.1, (y27.1.2.2, ()))) y27.2).bind fun y28 =>
                                          (spec_PutLot (y27.1.1, (y27.1.2.1, (y27.1.2.2, ()))) y27.2).bind fun y29 =>
                                          (spec_DrawPileGrade x1).bind fun y30 =>
                                          (impl_PileGrade (y30.1, (y30.2.1, (y30.2.2, ())))).bind fun y31 =>
                                          (spec_PileGrade (y30.1, (y30.2.1, (y30.2.2, ())))).bind fun y32 =>
                                          (impl_OldestLot (y30.1, (y30.2.1, (y30.2.2, ())))).bind fun y33 =>
                                          (spec_OldestLot (y30.1, (y30.2.1, (y30.2.2, ())))).bind fun y34 =>
                                          cond (y28.2 == y29.2)
                                          ((laws_pSamePile (y28.1.1, (y28.1.2.1, (y28.1.2.2, ()))) (y29.1.1, (y29.1.2.1, (y29.1.2.2, ())))).bind fun y35 =>
                                            cond (y35)
                                            (cond (y31.2.2 == y32.2.2)
                                              (cond (y31.1 == y32.1)
                                                (cond (y31.2.1 == y32.2.1)
                                                  (cond (y33.2 == y34.2)
                                                    (cond (y33.1.1 == y34.1.1 && (y33.1.2.1 == y34.1.2.1 && true))
                                                      (fin (y33.2 == y31.2.2))
                                                      (fin false))
                                                    (fin false))
                                                  (fin false))
                                                (fin false))
                                              (fin false))
                                            (fin false))
                                          (fin false))))))))
                            ((spec_DrawJoinPiles x1).bind fun y36 =>
                              (impl_JoinPiles (y36.1.1, (y36.1.2.1, (y36.1.2.2, ()))) (y36.2.1, (y36.2.2.1, (y36.2.2.2, ())))).bind fun y37 =>
                              (spec_JoinPiles (y36.1.1, (y36.1.2.1, (y36.1.2.2, ()))) (y36.2.1, (y36.2.2.1, (y36.2.2.2, ())))).bind fun y38 =>
                              cond (!(y37.2 == y38.2))
                              (fin false)
                              ((laws_pSamePile (y37.1.1, (y37.1.2.1, (y37.1.2.2, ()))) (y38.1.1, (y38.1.2.1, (y38.1.2.2, ())))).bind fun y39 =>
                                cond (!y39)
                                (fin false)
                                (cond (y37.2)
                                  ((impl_PileSums (y36.1.1, (y36.1.2.1, (y36.1.2.2, ())))).bind fun y40 =>
                                    (impl_PileSums (y36.2.1, (y36.2.2.1, (y36.2.2.2, ())))).bind fun y41 =>
                                    (impl_PileSums (y37.1.1, (y37.1.2.1, (y37.1.2.2, ())))).bind fun y42 =>
                                    cond (!y40.2.2)
                                    (fin false)
                                    (cond (!y41.2.2)
                                      (fin false)
                                      (cond (!y42.2.2)
                                        (fin false)
                                        (cond (y42.1 != (IntKind.i64.wrap (y40.1 + y41.1)))
                                          (fin false)
                                          (cond (y42.2.1 != (IntKind.i64.wrap (y40.2.1 + y41.2.1)))
                                            (fin false)
                                            ((spec_DrawPutLot x1).bind fun y43 =>
                                              (impl_PutLot (y43.1.1, (y43.1.2.1, (y43.1.2.2, ()))) y43.2).bind fun y44 =>
                                              (spec_PutLot (y43.1.1, (y43.1.2.1, (y43.1.2.2, ()))) y43.2).bind fun y45 =>
                                              (spec_DrawPileGrade x1).bind fun y46 =>
                                              (impl_PileGrade (y46.1, (y46.2.1, (y46.2.2, ())))).bind fun y47 =>
                                              (spec_PileGrade (y46.1, (y46.2.1, (y46.2.2, ())))).bind fun y48 =>
                                              (impl_OldestLot (y46.1, (y46.2.1, (y46.2.2, ())))).bind fun y49 =>
                                              (spec_OldestLot (y46.1, (y46.2.1, (y46.2.2, ())))).bind fun y50 =>
                                              cond (y44.2 == y45.2)
                                              ((laws_pSamePile (y44.1.1, (y44.1.2.1, (y44.1.2.2, ()))) (y45.1.1, (y45.1.2.1, (y45.1.2.2, ())))).bind fun y51 =>
                                                cond (y51)
                                                (cond (y47.2.2 == y48.2.2)
                                                  (cond (y47.1 == y48.1)
                                                    (cond (y47.2.1 == y48.2.1)
                                                      (cond (y49.2 == y50.2)
                                                        (cond (y49.1.1 == y50.1.1 && (y49.1.2.1 == y50.1.2.1 && true))
                                                          (fin (y49.2 == y47.2.2))
                                                          (fin false))
                                                        (fin false))
                                                      (fin false))
                                                    (fin false))
                                                  (fin false))
                                                (fin false))
                                              (fin false)))))))
                                  ((spec_DrawPutLot x1).bind fun y52 =>
                                    (impl_PutLot (y52.1.1, (y52.1.2.1, (y52.1.2.2, ()))) y52.2).bind fun y53 =>
                                    (spec_PutLot (y52.1.1, (y52.1.2.1, (y52.1.2.2, ()))) y52.2).bind fun y54 =>
                                    (spec_DrawPileGrade x1).bind fun y55 =>
                                    (impl_PileGrade (y55.1, (y55.2.1, (y55.2.2, ())))).bind fun y56 =>
                                    (spec_PileGrade (y55.1, (y55.2.1, (y55.2.2, ())))).bind fun y57 =>
                                    (impl_OldestLot (y55.1, (y55.2.1, (y55.2.2, ())))).bind fun y58 =>
                                    (spec_OldestLot (y55.1, (y55.2.1, (y55.2.2, ())))).bind fun y59 =>
                                    cond (y53.2 == y54.2)
                                    ((laws_pSamePile (y53.1.1, (y53.1.2.1, (y53.1.2.2, ()))) (y54.1.1, (y54.1.2.1, (y54.1.2.2, ())))).bind fun y60 =>
                                      cond (y60)
                                      (cond (y56.2.2 == y57.2.2)
                                        (cond (y56.1 == y57.1)
                                          (cond (y56.2.1 == y57.2.1)
                                            (cond (y58.2 == y59.2)
                                              (cond (y58.1.1 == y59.1.1 && (y58.1.2.1 == y59.1.2.1 && true))
                                                (fin (y58.2 == y56.2.2))
                                                (fin false))
                                              (fin false))
                                            (fin false))
                                          (fin false))
                                        (fin false))
                                      (fin false))
                                    (fin false))))))))))))))
          ((spec_DrawSplitLot x1).bind fun y61 =>
            (impl_SplitLot y61.1 y61.2).bind fun y62 =>
            (spec_SplitLot y61.1 y61.2).bind fun y63 =>
            cond (!(y62.2.2 == y63.2.2))
            (fin false)
            (cond (!(y62.1.1 == y63.1.1 && (y62.1.2.1 == y63.1.2.1 && true)))
              (fin false)
              (cond (!(y62.2.1.1 == y63.2.1.1 && (y62.2.1.2.1 == y63.2.1.2.1 && true)))
                (fin false)
                (cond (y62.2.2)
                  (cond (y63.1.1 != y61.2)
                    (fin false)
                    (cond ((IntKind.i64.wrap (y63.1.1 + y63.2.1.1)) != y61.1.1)
                      (fin false)
                      (cond ((IntKind.i64.wrap (y63.1.2.1 + y63.2.1.2.1)) != y61.1.2.1)
                        (fin false)
                        ((spec_DrawJoinPiles x1).bind fun y64 =>
                          (impl_JoinPiles (y64.1.1, (y64.1.2.1, (y64.1.2.2, ()))) (y64.2.1, (y64.2.2.1, (y64.2.2.2, ())))).bind fun y65 =>
                          (spec_JoinPiles (y64.1.1, (y64.1.2.1, (y64.1.2.2, ()))) (y64.2.1, (y64.2.2.1, (y64.2.2.2, ())))).bind fun y66 =>
                          cond (!(y65.2 == y66.2))
                          (fin false)
                          ((laws_pSamePile (y65.1.1, (y65.1.2.1, (y65.1.2.2, ()))) (y66.1.1, (y66.1.2.1, (y66.1.2.2, ())))).bind fun y67 =>
                            cond (!y67)
                            (fin false)
                            (cond (y65.2)
                              ((impl_PileSums (y64.1.1, (y64.1.2.1, (y64.1.2.2, ())))).bind fun y68 =>
                                (impl_PileSums (y64.2.1, (y64.2.2.1, (y64.2.2.2, ())))).bind fun y69 =>
                                (impl_PileSums (y65.1.1, (y65.1.2.1, (y65.1.2.2, ())))).bind fun y70 =>
                                cond (!y68.2.2)
                                (fin false)
                                (cond (!y69.2.2)
                                  (fin false)
                                  (cond (!y70.2.2)
                                    (fin false)
                                    (cond (y70.1 != (IntKind.i64.wrap (y68.1 + y69.1)))
                                      (fin false)
                                      (cond (y70.2.1 != (IntKind.i64.wrap (y68.2.1 + y69.2.1)))
                                        (fin false)
                                        ((spec_DrawPutLot x1).bind fun y71 =>
                                          (impl_PutLot (y71.1.1, (y71.1.2.1, (y71.1.2.2, ()))) y71.2).bind fun y72 =>
                                          (spec_PutLot (y71.1.1, (y71.1.2.1, (y71.1.2.2, ()))) y71.2).bind fun y73 =>
                                          (spec_DrawPileGrade x1).bind fun y74 =>
                                          (impl_PileGrade (y74.1, (y74.2.1, (y74.2.2, ())))).bind fun y75 =>
                                          (spec_PileGrade (y74.1, (y74.2.1, (y74.2.2, ())))).bind fun y76 =>
                                          (impl_OldestLot (y74.1, (y74.2.1, (y74.2.2, ())))).bind fun y77 =>
                                          (spec_OldestLot (y74.1, (y74.2.1, (y74.2.2, ())))).bind fun y78 =>
                                          cond (y72.2 == y73.2)
                                          ((laws_pSamePile (y72.1.1, (y72.1.2.1, (y72.1.2.2, ()))) (y73.1.1, (y73.1.2.1, (y73.1.2.2, ())))).bind fun y79 =>
                                            cond (y79)
                                            (cond (y75.2.2 == y76.2.2)
                                              (cond (y75.1 == y76.1)
                                                (cond (y75.2.1 == y76.2.1)
                                                  (cond (y77.2 == y78.2)
                                                    (cond (y77.1.1 == y78.1.1 && (y77.1.2.1 == y78.1.2.1 && true))
                                                      (fin (y77.2 == y75.2.2))
                                                      (fin false))
                                                    (fin false))
                                                  (fin false))
                                                (fin false))
                                              (fin false))
                                            (fin false))
                                          (fin false)))))))
                              ((spec_DrawPutLot x1).bind fun y80 =>
                                (impl_PutLot (y80.1.1, (y80.1.2.1, (y80.1.2.2, ()))) y80.2).bind fun y81 =>
                                (spec_PutLot (y80.1.1, (y80.1.2.1, (y80.1.2.2, ()))) y80.2).bind fun y82 =>
                                (spec_DrawPileGrade x1).bind fun y83 =>
                                (impl_PileGrade (y83.1, (y83.2.1, (y83.2.2, ())))).bind fun y84 =>
                                (spec_PileGrade (y83.1, (y83.2.1, (y83.2.2, ())))).bind fun y85 =>
                                (impl_OldestLot (y83.1, (y83.2.1, (y83.2.2, ())))).bind fun y86 =>
                                (spec_OldestLot (y83.1, (y83.2.1, (y83.2.2, ())))).bind fun y87 =>
                                cond (y81.2 == y82.2)
                                ((laws_pSamePile (y81.1.1, (y81.1.2.1, (y81.1.2.2, ()))) (y82.1.1, (y82.1.2.1, (y82.1.2.2, ())))).bind fun y88 =>
                                  cond (y88)
                                  (cond (y84.2.2 == y85.2.2)
                                    (cond (y84.1 == y85.1)
                                      (cond (y84.2.1 == y85.2.1)
                                        (cond (y86.2 == y87.2)
                                          (cond (y86.1.1 == y87.1.1 && (y86.1.2.1 == y87.1.2.1 && true))
                                            (fin (y86.2 == y84.2.2))
                                            (fin false))
                                          (fin false))
                                        (fin false))
                                      (fin false))
                                    (fin false))
                                  (fin false))
                                (fin false))))))))
                  ((spec_DrawJoinPiles x1).bind fun y89 =>
                    (impl_JoinPiles (y89.1.1, (y89.1.2.1, (y89.1.2.2, ()))) (y89.2.1, (y89.2.2.1, (y89.2.2.2, ())))).bind fun y90 =>
                    (spec_JoinPiles (y89.1.1, (y89.1.2.1, (y89.1.2.2, ()))) (y89.2.1, (y89.2.2.1, (y89.2.2.2, ())))).bind fun y91 =>
                    cond (!(y90.2 == y91.2))
                    (fin false)
                    ((laws_pSamePile (y90.1.1, (y90.1.2.1, (y90.1.2.2, ()))) (y91.1.1, (y91.1.2.1, (y91.1.2.2, ())))).bind fun y92 =>
                      cond (!y92)
                      (fin false)
                      (cond (y90.2)
                        ((impl_PileSums (y89.1.1, (y89.1.2.1, (y89.1.2.2, ())))).bind fun y93 =>
                          (impl_PileSums (y89.2.1, (y89.2.2.1, (y89.2.2.2, ())))).bind fun y94 =>
                          (impl_PileSums (y90.1.1, (y90.1.2.1, (y90.1.2.2, ())))).bind fun y95 =>
                          cond (!y93.2.2)
                          (fin false)
                          (cond (!y94.2.2)
                            (fin false)
                            (cond (!y95.2.2)
                              (fin false)
                              (cond (y95.1 != (IntKind.i64.wrap (y93.1 + y94.1)))
                                (fin false)
                                (cond (y95.2.1 != (IntKind.i64.wrap (y93.2.1 + y94.2.1)))
                                  (fin false)
                                  ((spec_DrawPutLot x1).bind fun y96 =>
                                    (impl_PutLot (y96.1.1, (y96.1.2.1, (y96.1.2.2, ()))) y96.2).bind fun y97 =>
                                    (spec_PutLot (y96.1.1, (y96.1.2.1, (y96.1.2.2, ()))) y96.2).bind fun y98 =>
                                    (spec_DrawPileGrade x1).bind fun y99 =>
                                    (impl_PileGrade (y99.1, (y99.2.1, (y99.2.2, ())))).bind fun y100 =>
                                    (spec_PileGrade (y99.1, (y99.2.1, (y99.2.2, ())))).bind fun y101 =>
                                    (impl_OldestLot (y99.1, (y99.2.1, (y99.2.2, ())))).bind fun y102 =>
                                    (spec_OldestLot (y99.1, (y99.2.1, (y99.2.2, ())))).bind fun y103 =>
                                    cond (y97.2 == y98.2)
                                    ((laws_pSamePile (y97.1.1, (y97.1.2.1, (y97.1.2.2, ()))) (y98.1.1, (y98.1.2.1, (y98.1.2.2, ())))).bind fun y104 =>
                                      cond (y104)
                                      (cond (y100.2.2 == y101.2.2)
                                        (cond (y100.1 == y101.1)
                                          (cond (y100.2.1 == y101.2.1)
                                            (cond (y102.2 == y103.2)
                                              (cond (y102.1.1 == y103.1.1 && (y102.1.2.1 == y103.1.2.1 && true))
                                                (fin (y102.2 == y100.2.2))
                                                (fin false))
                                              (fin false))
                                            (fin false))
                                          (fin false))
                                        (fin false))
                                      (fin false))
                                    (fin false)))))))
                        ((spec_DrawPutLot x1).bind fun y105 =>
                          (impl_PutLot (y105.1.1, (y105.1.2.1, (y105.1.2.2, ()))) y105.2).bind fun y106 =>
                          (spec_PutLot (y105.1.1, (y105.1.2.1, (y105.1.2.2, ()))) y105.2).bind fun y107 =>
                          (spec_DrawPileGrade x1).bind fun y108 =>
                          (impl_PileGrade (y108.1, (y108.2.1, (y108.2.2, ())))).bind fun y109 =>
                          (spec_PileGrade (y108.1, (y108.2.1, (y108.2.2, ())))).bind fun y110 =>
                          (impl_OldestLot (y108.1, (y108.2.1, (y108.2.2, ())))).bind fun y111 =>
                          (spec_OldestLot (y108.1, (y108.2.1, (y108.2.2, ())))).bind fun y112 =>
                          cond (y106.2 == y107.2)
                          ((laws_pSamePile (y106.1.1, (y106.1.2.1, (y106.1.2.2, ()))) (y107.1.1, (y107.1.2.1, (y107.1.2.2, ())))).bind fun y113 =>
                            cond (y113)
                            (cond (y109.2.2 == y110.2.2)
                              (cond (y109.1 == y110.1)
                                (cond (y109.2.1 == y110.2.1)
                                  (cond (y111.2 == y112.2)
                                    (cond (y111.1.1 == y112.1.1 && (y111.1.2.1 == y112.1.2.1 && true))
                                      (fin (y111.2 == y109.2.2))
                                      (fin false))
                                    (fin false))
                                  (fin false))
                                (fin false))
                              (fin false))
                            (fin false))
                          (fin false)))))))))))))
def laws_FnLots (x0 : List Int) (x1 : List Int) : Option (Bool) := laws_FnLotsK some x0 x1
theorem p3 {R : Type} (fin : Bool → Option R) (x0 : List Int) (x1 : List Int) : Par fin (laws_FnLotsK some x0 x1) (laws_FnLotsK fin x0 x1) := by
  unfold laws_FnLotsK
  repeat' (first | exact .fin | exact .none | refine .cond ?_ ?_ | refine .bind fun _ => ?_ | refine .sum (fun _ => ?_) fun _ => ?_)
def c3 : Callee := mkC [.one (.ro (.slice (.int .u8))), .one (.ro (.slice (.int .u8)))] 1 [.one (.ro .bool)] fun x => laws_FnLots x.1 x.2
theorem e3 (x : PK.dens [.one (.ro (.slice (.int .u8))), .one (.ro (.slice (.int .u8)))]) : evalFn Try.prog EL3 or0 Try.f3 (PK.outs [.one (.ro (.slice (.int .u8))), .one (.ro (.slice (.int .u8)))] x) =
    laws_FnLotsK (fun y => some (tupOf ((PK.outs [.one (.ro .bool)] y).take 1), (PK.outs [.one (.ro .bool)] y).drop 1)) x.1 x.2 := by kernel_rfl
theorem k3 : CalleeOk Try.prog 3 c3 := callee_mk Try.func3 (code := codeOf Try.f3) (by kernel_rfl) vL3 mixed (LoOk.nil (by kernel_rfl)) fun x y h => (e3 x).trans (p3 _ x.1 x.2 y h)
end
end Go.OAI
