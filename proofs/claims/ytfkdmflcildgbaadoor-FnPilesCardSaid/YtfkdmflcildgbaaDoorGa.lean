/- Contracts. -/
import Derived.Test.YtfkdmflcildgbaaDoorK3
import Derived.Test.YtfkdmflcildgbaaDoorProg
import Derived.Test.YtfkdmflcildgbaaDoorKL
namespace Go.OAI
open Go.Proofs
set_option linter.unusedVariables false
noncomputable section

@[reducible] def TLot : Ty := .pair (.int .i64) (.pair (.int .i64) .unit)
abbrev DLot : Type := Int × Int × Unit
@[reducible] def TPile : Ty := .pair .bool (.pair (.int .i64) (.pair (.slice TLot) .unit))
abbrev DPile : Type := Bool × Int × (List DLot) × Unit
@[reducible] def TStir : Ty := .pair .bool (.pair (.int .i64) (.pair (.int .i64) .unit))
abbrev DStir : Type := Bool × Int × Int × Unit
def or0 : Ora := { lo := fun _ => none }
theorem mixed : Tryd.prog.follows .mixedOrders = true := by kernel_rfl

/-- laws.big -/
def EL4 : Nat → Option Callee := env0
theorem vL4 : EnvOk Tryd.prog EL4 := EnvOk.nil
def laws_bigK {R : Type} (fin : Bool → Option R) (x0 : List Int) (x1 : List Int) : Option R :=
  cond (decide ((x0.length : Int) > 1048576))
  (fin true)
  (fin (decide ((x1.length : Int) > (IntKind.i64.wrap (1048576 - (x0.length : Int))))))
def laws_big (x0 : List Int) (x1 : List Int) : Option (Bool) := laws_bigK some x0 x1
theorem p4 {R : Type} (fin : Bool → Option R) (x0 : List Int) (x1 : List Int) : Par fin (laws_bigK some x0 x1) (laws_bigK fin x0 x1) := by
  unfold laws_bigK
  repeat' (first | exact .fin | exact .none | refine .cond ?_ ?_ | refine .bind fun _ => ?_ | refine .sum (fun _ => ?_) fun _ => ?_)
def c4 : Callee := mkC [.one (.ro (.slice (.int .u8))), .one (.ro (.slice (.int .u8)))] 1 [.one (.ro .bool)] fun x => laws_big x.1 x.2
theorem e4 (x : PK.dens [.one (.ro (.slice (.int .u8))), .one (.ro (.slice (.int .u8)))]) : evalFn Tryd.prog EL4 or0 Tryd.f4 (PK.outs [.one (.ro (.slice (.int .u8))), .one (.ro (.slice (.int .u8)))] x) =
    laws_bigK (fun y => some (tupOf ((PK.outs [.one (.ro .bool)] y).take 1), (PK.outs [.one (.ro .bool)] y).drop 1)) x.1 x.2 := by kernel_rfl
theorem k4 : CalleeOk Tryd.prog 4 c4 := callee_mk Tryd.func4 (code := codeOf Tryd.f4) (by kernel_rfl) vL4 mixed (LoOk.nil (by kernel_rfl)) fun x y h => (e4 x).trans (p4 _ x.1 x.2 y h)

/-- spec.l1Cur).next -/
def EL46 : Nat → Option Callee := env0
theorem vL46 : EnvOk Tryd.prog EL46 := EnvOk.nil
def spec_l1Cur_nextK {R : Type} (fin : Int × ((List Int) × Int × Int) → Option R) (x0 : (List Int) × Int × Int) : Option R :=
  cond (decide (x0.2.1 < (x0.1.length : Int)))
  ((lat x0.1 x0.2.1).bind fun e1 =>
    (some (IntKind.u64.wrap ((IntKind.u64.wrap (x0.2.2 * 6364136223846793005)) + (IntKind.u64.wrap (IntKind.i64.wrap e1))))).bind fun v2 =>
    cond (decide ((IntKind.i64.wrap (x0.2.1 + 1)) ≤ (x0.1.length : Int)))
    (fin (IntKind.i64.wrap e1, (x0.1, (IntKind.i64.wrap (x0.2.1 + 1), IntKind.u64.wrap (v2 + 1442695040888963407)))))
    ((some (andI .u64 (shrI .u64 (IntKind.u64.wrap (v2 + 1442695040888963407)) 40) 255)).bind fun v3 =>
      fin (IntKind.i64.wrap v3, (x0.1, (IntKind.i64.wrap (x0.2.1 + 1), IntKind.u64.wrap (v2 + 1442695040888963407))))))
  ((some (IntKind.u64.wrap ((IntKind.u64.wrap (x0.2.2 * 6364136223846793005)) + (IntKind.u64.wrap 0)))).bind fun v4 =>
    cond (decide ((IntKind.i64.wrap (x0.2.1 + 1)) ≤ (x0.1.length : Int)))
    (fin (0, (x0.1, (IntKind.i64.wrap (x0.2.1 + 1), IntKind.u64.wrap (v4 + 1442695040888963407)))))
    ((some (andI .u64 (shrI .u64 (IntKind.u64.wrap (v4 + 1442695040888963407)) 40) 255)).bind fun v5 =>
      fin (IntKind.i64.wrap v5, (x0.1, (IntKind.i64.wrap (x0.2.1 + 1), IntKind.u64.wrap (v4 + 1442695040888963407))))))
def spec_l1Cur_next (x0 : (List Int) × Int × Int) : Option (Int × ((List Int) × Int × Int)) := spec_l1Cur_nextK some x0
theorem p46 {R : Type} (fin : Int × ((List Int) × Int × Int) → Option R) (x0 : (List Int) × Int × Int) : Par fin (spec_l1Cur_nextK some x0) (spec_l1Cur_nextK fin x0) := by
  unfold spec_l1Cur_nextK
  repeat' (first | exact .fin | exact .none | refine .cond ?_ ?_ | refine .bind fun _ => ?_ | refine .sum (fun _ => ?_) fun _ => ?_)
def c46 : Callee := mkC [.box [.ro (.slice (.int .u8)), .ro (.int .i64), .ro (.int .u64)]] 1 [.one (.ro (.int .i64)), .box [.ro (.slice (.int .u8)), .ro (.int .i64), .ro (.int .u64)]] fun x => spec_l1Cur_next x
theorem e46 (x : PK.dens [.box [.ro (.slice (.int .u8)), .ro (.int .i64), .ro (.int .u64)]]) : evalFn Tryd.prog EL46 or0 Tryd.f46 (PK.outs [.box [.ro (.slice (.int .u8)), .ro (.int .i64), .ro (.int .u64)]] x) =
    spec_l1Cur_nextK (fun y => some (tupOf ((PK.outs [.one (.ro (.int .i64)), .box [.ro (.slice (.int .u8)), .ro (.int .i64), .ro (.int .u64)]] y).take 1), (PK.outs [.one (.ro (.int .i64)), .box [.ro (.slice (.int .u8)), .ro (.int .i64), .ro (.int .u64)]] y).drop 1)) x := by kernel_rfl
theorem k46 : CalleeOk Tryd.prog 46 c46 := callee_mk Tryd.func46 (code := codeOf Tryd.f46) (by kernel_rfl) vL46 mixed (LoOk.nil (by kernel_rfl)) fun x y h => (e46 x).trans (p46 _ x y h)

/-- spec.l1Cur).pick -/
def EL20 : Nat → Option Callee := addE 46 c46 env0
theorem vL20 : EnvOk Tryd.prog EL20 := EnvOk.nil.add Tryd.func46 rfl (by kernel_rfl) k46
def spec_l1Cur_pickK {R : Type} (fin : Int × ((List Int) × Int × Int) → Option R) (x0 : (List Int) × Int × Int) (x1 : Int) : Option R :=
  cond (decide (x1 ≤ 1))
  (fin (0, x0))
  ((spec_l1Cur_next x0).bind fun y1 =>
    cond (decide (x1 > 200))
    ((spec_l1Cur_next y1.2).bind fun y2 =>
      cond (decide (x1 = 0))
      (none)
      (fin ((IntKind.i64.wrap ((IntKind.i64.wrap (y1.1 * 256)) + y2.1)).tmod x1, y2.2)))
    (cond (decide (x1 = 0))
      (none)
      (fin (y1.1.tmod x1, y1.2))))
def spec_l1Cur_pick (x0 : (List Int) × Int × Int) (x1 : Int) : Option (Int × ((List Int) × Int × Int)) := spec_l1Cur_pickK some x0 x1
theorem p20 {R : Type} (fin : Int × ((List Int) × Int × Int) → Option R) (x0 : (List Int) × Int × Int) (x1 : Int) : Par fin (spec_l1Cur_pickK some x0 x1) (spec_l1Cur_pickK fin x0 x1) := by
  unfold spec_l1Cur_pickK
  repeat' (first | exact .fin | exact .none | refine .cond ?_ ?_ | refine .bind fun _ => ?_ | refine .sum (fun _ => ?_) fun _ => ?_)
def c20 : Callee := mkC [.box [.ro (.slice (.int .u8)), .ro (.int .i64), .ro (.int .u64)], .one (.ro (.int .i64))] 1 [.one (.ro (.int .i64)), .box [.ro (.slice (.int .u8)), .ro (.int .i64), .ro (.int .u64)]] fun x => spec_l1Cur_pick x.1 x.2
theorem e20 (x : PK.dens [.box [.ro (.slice (.int .u8)), .ro (.int .i64), .ro (.int .u64)], .one (.ro (.int .i64))]) : evalFn Tryd.prog EL20 or0 Tryd.f20 (PK.outs [.box [.ro (.slice (.int .u8)), .ro (.int .i64), .ro (.int .u64)], .one (.ro (.int .i64))] x) =
    spec_l1Cur_pickK (fun y => some (tupOf ((PK.outs [.one (.ro (.int .i64)), .box [.ro (.slice (.int .u8)), .ro (.int .i64), .ro (.int .u64)]] y).take 1), (PK.outs [.one (.ro (.int .i64)), .box [.ro (.slice (.int .u8)), .ro (.int .i64), .ro (.int .u64)]] y).drop 1)) x.1 x.2 := by kernel_rfl
theorem k20 : CalleeOk Tryd.prog 20 c20 := callee_mk Tryd.func20 (code := codeOf Tryd.f20) (by kernel_rfl) vL20 mixed (LoOk.nil (by kernel_rfl)) fun x y h => (e20 x).trans (p20 _ x.1 x.2 y h)

/-- spec.l1Cur).one -/
def EL21 : Nat → Option Callee := addE 20 c20 env0
theorem vL21 : EnvOk Tryd.prog EL21 := EnvOk.nil.add Tryd.func20 rfl (by kernel_rfl) k20
def spec_l1Cur_oneK {R : Type} (fin : Bool × ((List Int) × Int × Int) → Option R) (x0 : (List Int) × Int × Int) (x1 : Int) : Option R :=
  (spec_l1Cur_pick x0 x1).bind fun y1 =>
  fin (y1.1 == 0, y1.2)
def spec_l1Cur_one (x0 : (List Int) × Int × Int) (x1 : Int) : Option (Bool × ((List Int) × Int × Int)) := spec_l1Cur_oneK some x0 x1
theorem p21 {R : Type} (fin : Bool × ((List Int) × Int × Int) → Option R) (x0 : (List Int) × Int × Int) (x1 : Int) : Par fin (spec_l1Cur_oneK some x0 x1) (spec_l1Cur_oneK fin x0 x1) := by
  unfold spec_l1Cur_oneK
  repeat' (first | exact .fin | exact .none | refine .cond ?_ ?_ | refine .bind fun _ => ?_ | refine .sum (fun _ => ?_) fun _ => ?_)
def c21 : Callee := mkC [.box [.ro (.slice (.int .u8)), .ro (.int .i64), .ro (.int .u64)], .one (.ro (.int .i64))] 1 [.one (.ro .bool), .box [.ro (.slice (.int .u8)), .ro (.int .i64), .ro (.int .u64)]] fun x => spec_l1Cur_one x.1 x.2
theorem e21 (x : PK.dens [.box [.ro (.slice (.int .u8)), .ro (.int .i64), .ro (.int .u64)], .one (.ro (.int .i64))]) : evalFn Tryd.prog EL21 or0 Tryd.f21 (PK.outs [.box [.ro (.slice (.int .u8)), .ro (.int .i64), .ro (.int .u64)], .one (.ro (.int .i64))] x) =
    spec_l1Cur_oneK (fun y => some (tupOf ((PK.outs [.one (.ro .bool), .box [.ro (.slice (.int .u8)), .ro (.int .i64), .ro (.int .u64)]] y).take 1), (PK.outs [.one (.ro .bool), .box [.ro (.slice (.int .u8)), .ro (.int .i64), .ro (.int .u64)]] y).drop 1)) x.1 x.2 := by kernel_rfl
theorem k21 : CalleeOk Tryd.prog 21 c21 := callee_mk Tryd.func21 (code := codeOf Tryd.f21) (by kernel_rfl) vL21 mixed (LoOk.nil (by kernel_rfl)) fun x y h => (e21 x).trans (p21 _ x.1 x.2 y h)

/-- spec.l1Cur).among -/
def EL41 : Nat → Option Callee := addE 20 c20 env0
theorem vL41 : EnvOk Tryd.prog EL41 := EnvOk.nil.add Tryd.func20 rfl (by kernel_rfl) k20
def spec_l1Cur_amongK {R : Type} (fin : Int × ((List Int) × Int × Int) → Option R) (x0 : (List Int) × Int × Int) (x1 : List Int) : Option R :=
  (spec_l1Cur_pick x0 (x1.length : Int)).bind fun y1 =>
  (lat x1 y1.1).bind fun e2 =>
  fin (e2, y1.2)
def spec_l1Cur_among (x0 : (List Int) × Int × Int) (x1 : List Int) : Option (Int × ((List Int) × Int × Int)) := spec_l1Cur_amongK some x0 x1
theorem p41 {R : Type} (fin : Int × ((List Int) × Int × Int) → Option R) (x0 : (List Int) × Int × Int) (x1 : List Int) : Par fin (spec_l1Cur_amongK some x0 x1) (spec_l1Cur_amongK fin x0 x1) := by
  unfold spec_l1Cur_amongK
  repeat' (first | exact .fin | exact .none | refine .cond ?_ ?_ | refine .bind fun _ => ?_ | refine .sum (fun _ => ?_) fun _ => ?_)
def c41 : Callee := mkC [.box [.ro (.slice (.int .u8)), .ro (.int .i64), .ro (.int .u64)], .one (.ro (.slice (.int .i64)))] 1 [.one (.ro (.int .i64)), .box [.ro (.slice (.int .u8)), .ro (.int .i64), .ro (.int .u64)]] fun x => spec_l1Cur_among x.1 x.2
theorem e41 (x : PK.dens [.box [.ro (.slice (.int .u8)), .ro (.int .i64), .ro (.int .u64)], .one (.ro (.slice (.int .i64)))]) : evalFn Tryd.prog EL41 or0 Tryd.f41 (PK.outs [.box [.ro (.slice (.int .u8)), .ro (.int .i64), .ro (.int .u64)], .one (.ro (.slice (.int .i64)))] x) =
    spec_l1Cur_amongK (fun y => some (tupOf ((PK.outs [.one (.ro (.int .i64)), .box [.ro (.slice (.int .u8)), .ro (.int .i64), .ro (.int .u64)]] y).take 1), (PK.outs [.one (.ro (.int .i64)), .box [.ro (.slice (.int .u8)), .ro (.int .i64), .ro (.int .u64)]] y).drop 1)) x.1 x.2 := by kernel_rfl
theorem k41 : CalleeOk Tryd.prog 41 c41 := callee_mk Tryd.func41 (code := codeOf Tryd.f41) (by kernel_rfl) vL41 mixed (LoOk.nil (by kernel_rfl)) fun x y h => (e41 x).trans (p41 _ x.1 x.2 y h)

/-- spec.l1Most -/
def EL45 : Nat → Option Callee := env0
theorem vL45 : EnvOk Tryd.prog EL45 := EnvOk.nil
def spec_l1MostK {R : Type} (fin : Int → Option R) (x0 : Int) (x1 : Int) : Option R :=
  cond (decide (x0 > x1))
  (fin x0)
  (fin x1)
def spec_l1Most (x0 : Int) (x1 : Int) : Option (Int) := spec_l1MostK some x0 x1
theorem p45 {R : Type} (fin : Int → Option R) (x0 : Int) (x1 : Int) : Par fin (spec_l1MostK some x0 x1) (spec_l1MostK fin x0 x1) := by
  unfold spec_l1MostK
  repeat' (first | exact .fin | exact .none | refine .cond ?_ ?_ | refine .bind fun _ => ?_ | refine .sum (fun _ => ?_) fun _ => ?_)
def c45 : Callee := mkC [.one (.ro (.int .i64)), .one (.ro (.int .i64))] 1 [.one (.ro (.int .i64))] fun x => spec_l1Most x.1 x.2
theorem e45 (x : PK.dens [.one (.ro (.int .i64)), .one (.ro (.int .i64))]) : evalFn Tryd.prog EL45 or0 Tryd.f45 (PK.outs [.one (.ro (.int .i64)), .one (.ro (.int .i64))] x) =
    spec_l1MostK (fun y => some (tupOf ((PK.outs [.one (.ro (.int .i64))] y).take 1), (PK.outs [.one (.ro (.int .i64))] y).drop 1)) x.1 x.2 := by kernel_rfl
theorem k45 : CalleeOk Tryd.prog 45 c45 := callee_mk Tryd.func45 (code := codeOf Tryd.f45) (by kernel_rfl) vL45 mixed (LoOk.nil (by kernel_rfl)) fun x y h => (e45 x).trans (p45 _ x.1 x.2 y h)

/-- spec.l1Cur).lot -/
def EL22 : Nat → Option Callee := addE 45 c45 (addE 21 c21 (addE 41 c41 (addE 20 c20 env0)))
theorem vL22 : EnvOk Tryd.prog EL22 := (((EnvOk.nil.add Tryd.func20 rfl (by kernel_rfl) k20).add Tryd.func41 rfl (by kernel_rfl) k41).add Tryd.func21 rfl (by kernel_rfl) k21).add Tryd.func45 rfl (by kernel_rfl) k45
def spec_l1Cur_lotK {R : Type} (fin : DLot × ((List Int) × Int × Int) → Option R) (x0 : (List Int) × Int × Int) : Option R :=
  (spec_l1Cur_pick x0 900).bind fun y1 =>
  (spec_l1Cur_among y1.2 [1, 50, 100, 100, 300, IntKind.i64.wrap (1 + y1.1)]).bind fun y2 =>
  (spec_l1Cur_among y2.2 [0, 1, 5, 10, 40, 1000]).bind fun y3 =>
  (spec_l1Cur_one y3.2 4).bind fun y4 =>
  cond (y4.1)
  ((spec_l1Cur_pick y4.2 9).bind fun y5 =>
    (spec_l1Most 0 (IntKind.i64.wrap ((IntKind.i64.wrap (y2.1 * y3.1)) - y5.1))).bind fun y6 =>
    (spec_l1Cur_pick y5.2 40).bind fun y7 =>
    cond (y7.1 == 0)
    ((spec_l1Cur_among y7.2 [0, (-1), 1000000, 1000001]).bind fun y8 =>
      fin ((y8.1, (y6, ())), y8.2))
    (cond (y7.1 == 1)
      ((spec_l1Cur_among y7.2 [(-1), IntKind.i64.wrap (1000 * y2.1), IntKind.i64.wrap ((IntKind.i64.wrap (1000 * y2.1)) + 1)]).bind fun y9 =>
        fin ((y2.1, (y9.1, ())), y9.2))
      (fin ((y2.1, (y6, ())), y7.2))))
  ((spec_l1Cur_pick y4.2 40).bind fun y10 =>
    cond (y10.1 == 0)
    ((spec_l1Cur_among y10.2 [0, (-1), 1000000, 1000001]).bind fun y11 =>
      fin ((y11.1, (IntKind.i64.wrap (y2.1 * y3.1), ())), y11.2))
    (cond (y10.1 == 1)
      ((spec_l1Cur_among y10.2 [(-1), IntKind.i64.wrap (1000 * y2.1), IntKind.i64.wrap ((IntKind.i64.wrap (1000 * y2.1)) + 1)]).bind fun y12 =>
        fin ((y2.1, (y12.1, ())), y12.2))
      (fin ((y2.1, (IntKind.i64.wrap (y2.1 * y3.1), ())), y10.2))))
def spec_l1Cur_lot (x0 : (List Int) × Int × Int) : Option (DLot × ((List Int) × Int × Int)) := spec_l1Cur_lotK some x0
theorem p22 {R : Type} (fin : DLot × ((List Int) × Int × Int) → Option R) (x0 : (List Int) × Int × Int) : Par fin (spec_l1Cur_lotK some x0) (spec_l1Cur_lotK fin x0) := by
  unfold spec_l1Cur_lotK
  repeat' (first | exact .fin | exact .none | refine .cond ?_ ?_ | refine .bind fun _ => ?_ | refine .sum (fun _ => ?_) fun _ => ?_)
def c22 : Callee := mkC [.box [.ro (.slice (.int .u8)), .ro (.int .i64), .ro (.int .u64)]] 1 [.agg [.ro TLot], .box [.ro (.slice (.int .u8)), .ro (.int .i64), .ro (.int .u64)]] fun x => spec_l1Cur_lot x
theorem e22 (x : PK.dens [.box [.ro (.slice (.int .u8)), .ro (.int .i64), .ro (.int .u64)]]) : evalFn Tryd.prog EL22 or0 Tryd.f22 (PK.outs [.box [.ro (.slice (.int .u8)), .ro (.int .i64), .ro (.int .u64)]] x) =
    spec_l1Cur_lotK (fun y => some (tupOf ((PK.outs [.agg [.ro TLot], .box [.ro (.slice (.int .u8)), .ro (.int .i64), .ro (.int .u64)]] y).take 1), (PK.outs [.agg [.ro TLot], .box [.ro (.slice (.int .u8)), .ro (.int .i64), .ro (.int .u64)]] y).drop 1)) x := by kernel_rfl
theorem k22 : CalleeOk Tryd.prog 22 c22 := callee_mk Tryd.func22 (code := codeOf Tryd.f22) (by kernel_rfl) vL22 mixed (LoOk.nil (by kernel_rfl)) fun x y h => (e22 x).trans (p22 _ x y h)

/-- spec.spWith -/
def EL28 : Nat → Option Callee := env0
theorem vL28 : EnvOk Tryd.prog EL28 := EnvOk.nil
def spec_spWithK {R : Type} (fin : Bool × Int × (List DLot) → Option R) (x0 : DPile) (x1 : List DLot) : Option R :=
  cond (decide (([] : List DLot).length + x1.length ≤ 1099511627776))
  (fin (x0.1, (x0.2.1, ([] : List DLot) ++ x1)))
  (none)
def spec_spWith (x0 : DPile) (x1 : List DLot) : Option (Bool × Int × (List DLot)) := spec_spWithK some x0 x1
theorem p28 {R : Type} (fin : Bool × Int × (List DLot) → Option R) (x0 : DPile) (x1 : List DLot) : Par fin (spec_spWithK some x0 x1) (spec_spWithK fin x0 x1) := by
  unfold spec_spWithK
  repeat' (first | exact .fin | exact .none | refine .cond ?_ ?_ | refine .bind fun _ => ?_ | refine .sum (fun _ => ?_) fun _ => ?_)
def c28 : Callee := mkC [.agg [.ro TPile], .one (.ro (.slice TLot))] 1 [.agg [.ro .bool, .ro (.int .i64), .sl TLot]] fun x => spec_spWith x.1 x.2
theorem e28 (x : PK.dens [.agg [.ro TPile], .one (.ro (.slice TLot))]) : evalFn Tryd.prog EL28 or0 Tryd.f28 (PK.outs [.agg [.ro TPile], .one (.ro (.slice TLot))] x) =
    spec_spWithK (fun y => some (tupOf ((PK.outs [.agg [.ro .bool, .ro (.int .i64), .sl TLot]] y).take 1), (PK.outs [.agg [.ro .bool, .ro (.int .i64), .sl TLot]] y).drop 1)) x.1 x.2 := by kernel_rfl
theorem k28 : CalleeOk Tryd.prog 28 c28 := callee_mk Tryd.func28 (code := codeOf Tryd.f28) (by kernel_rfl) vL28 mixed (LoOk.nil (by kernel_rfl)) fun x y h => (e28 x).trans (p28 _ x.1 x.2 y h)

/-- spec.l1In -/
def EL48 : Nat → Option Callee := env0
theorem vL48 : EnvOk Tryd.prog EL48 := EnvOk.nil
def spec_l1InK {R : Type} (fin : Bool → Option R) (x0 : Int) (x1 : Int) (x2 : Int) : Option R :=
  cond (decide (x0 ≥ x1))
  (fin (decide (x0 ≤ x2)))
  (fin false)
def spec_l1In (x0 : Int) (x1 : Int) (x2 : Int) : Option (Bool) := spec_l1InK some x0 x1 x2
theorem p48 {R : Type} (fin : Bool → Option R) (x0 : Int) (x1 : Int) (x2 : Int) : Par fin (spec_l1InK some x0 x1 x2) (spec_l1InK fin x0 x1 x2) := by
  unfold spec_l1InK
  repeat' (first | exact .fin | exact .none | refine .cond ?_ ?_ | refine .bind fun _ => ?_ | refine .sum (fun _ => ?_) fun _ => ?_)
def c48 : Callee := mkC [.one (.ro (.int .i64)), .one (.ro (.int .i64)), .one (.ro (.int .i64))] 1 [.one (.ro .bool)] fun x => spec_l1In x.1 x.2.1 x.2.2
theorem e48 (x : PK.dens [.one (.ro (.int .i64)), .one (.ro (.int .i64)), .one (.ro (.int .i64))]) : evalFn Tryd.prog EL48 or0 Tryd.f48 (PK.outs [.one (.ro (.int .i64)), .one (.ro (.int .i64)), .one (.ro (.int .i64))] x) =
    spec_l1InK (fun y => some (tupOf ((PK.outs [.one (.ro .bool)] y).take 1), (PK.outs [.one (.ro .bool)] y).drop 1)) x.1 x.2.1 x.2.2 := by kernel_rfl
theorem k48 : CalleeOk Tryd.prog 48 c48 := callee_mk Tryd.func48 (code := codeOf Tryd.f48) (by kernel_rfl) vL48 mixed (LoOk.nil (by kernel_rfl)) fun x y h => (e48 x).trans (p48 _ x.1 x.2.1 x.2.2 y h)

/-- spec.spLot -/
def EL43 : Nat → Option Callee := addE 48 c48 env0
theorem vL43 : EnvOk Tryd.prog EL43 := EnvOk.nil.add Tryd.func48 rfl (by kernel_rfl) k48
def spec_spLotK {R : Type} (fin : Bool → Option R) (x0 : DLot) : Option R :=
  (spec_l1In x0.1 1 1000000).bind fun y1 =>
  cond (y1)
  ((spec_l1In x0.2.1 0 (IntKind.i64.wrap (1000 * x0.1))).bind fun y2 =>
    fin y2)
  (fin false)
def spec_spLot (x0 : DLot) : Option (Bool) := spec_spLotK some x0
theorem p43 {R : Type} (fin : Bool → Option R) (x0 : DLot) : Par fin (spec_spLotK some x0) (spec_spLotK fin x0) := by
  unfold spec_spLotK
  repeat' (first | exact .fin | exact .none | refine .cond ?_ ?_ | refine .bind fun _ => ?_ | refine .sum (fun _ => ?_) fun _ => ?_)
def c43 : Callee := mkC [.agg [.ro TLot]] 1 [.one (.ro .bool)] fun x => spec_spLot x
theorem e43 (x : PK.dens [.agg [.ro TLot]]) : evalFn Tryd.prog EL43 or0 Tryd.f43 (PK.outs [.agg [.ro TLot]] x) =
    spec_spLotK (fun y => some (tupOf ((PK.outs [.one (.ro .bool)] y).take 1), (PK.outs [.one (.ro .bool)] y).drop 1)) x := by kernel_rfl
theorem k43 : CalleeOk Tryd.prog 43 c43 := callee_mk Tryd.func43 (code := codeOf Tryd.f43) (by kernel_rfl) vL43 mixed (LoOk.nil (by kernel_rfl)) fun x y h => (e43 x).trans (p43 _ x y h)

/-- spec.spSums -/
def EL44 : Nat → Option Callee := env0
theorem vL44 : EnvOk Tryd.prog EL44 := EnvOk.nil
def sspec_spSums_l0 : LS := ⟨[(4, .one (.dat (.int .i64))), (5, .one (.dat (.int .i64))), (8, .one (.dat (.slice TLot))), (9, .one (.dat (.int .i64))), (10, .one (.dat (.int .i64)))], [], []⟩
def sspec_spSums_l0x0 : LS := ⟨[(4, .one (.dat (.int .i64))), (5, .one (.dat (.int .i64)))], [], []⟩
def xspec_spSums_l0 : List (XS ((List DLot) × Int)) := [⟨.exit 0, ⟨[4, 5], [], [], []⟩, sspec_spSums_l0x0, Int × Int, fun i y => ((y.1, (y.2, ())), ())⟩]
def spec_spSums_l0K {R : Type} (a2 : List DLot) (a3 : Int) (rc : Int → Int → Int → Option R) (fin : Int × Int → Option R) (a0 : Int) (a1 : Int) (a4 : Int) : Option R :=
  cond (decide (a4 < a3))
  ((lat a2 a4).bind fun e1 =>
    rc (IntKind.i64.wrap (a0 + e1.1)) (IntKind.i64.wrap (a1 + e1.2.1)) (IntKind.i64.wrap (a4 + 1)))
  (fin (a0, a1))
def spec_spSums_l0F (a2 : List DLot) (a3 : Int) (r : (Int × Int × Int) → Option (Int × Int)) (x : Int × Int × Int) : Option (Int × Int) := spec_spSums_l0K a2 a3 (fun a0 a1 a4 => r (a0, (a1, a4))) some x.1 x.2.1 x.2.2
theorem spec_spSums_l0c (a2 : List DLot) (a3 : Int) (x : Int × Int × Int) : Ct fun r => spec_spSums_l0F a2 a3 r x := by
  unfold spec_spSums_l0F spec_spSums_l0K
  repeat' (first | exact Ct.const | exact Ct.call | refine Ct.cond ?_ ?_ | refine Ct.bind ?_ fun _ => ?_ | refine Ct.sum (fun _ => ?_) fun _ => ?_)
def spec_spSums_l0 (a2 : List DLot) (a3 : Int) (a0 : Int) (a1 : Int) (a4 : Int) : Option (Int × Int) := lim (spec_spSums_l0F a2 a3) (a0, (a1, a4))
theorem spec_spSums_l0_eq (a2 : List DLot) (a3 : Int) (a0 : Int) (a1 : Int) (a4 : Int) : spec_spSums_l0 a2 a3 a0 a1 a4 = spec_spSums_l0K a2 a3 (spec_spSums_l0 a2 a3) some a0 a1 a4 := lim_eq (spec_spSums_l0c a2 a3) (a0, (a1, a4))
theorem spec_spSums_l0p {R : Type} (a2 : List DLot) (a3 : Int) {rc : Int → Int → Int → Option (Int × Int)} {rc' : Int → Int → Int → Option R} {fin : Int × Int → Option R} (hr : ∀ a0 a1 a4, Par fin (rc a0 a1 a4) (rc' a0 a1 a4)) (a0 : Int) (a1 : Int) (a4 : Int) : Par fin (spec_spSums_l0K a2 a3 rc some a0 a1 a4) (spec_spSums_l0K a2 a3 rc' fin a0 a1 a4) := by
  unfold spec_spSums_l0K
  repeat' (first | exact .fin | exact .none | exact hr _ _ _ | refine .cond ?_ ?_ | refine .bind fun _ => ?_ | refine .sum (fun _ => ?_) fun _ => ?_)
def Lspec_spSums_l0 : Loop := mkL ⟨[4, 5, 8, 9, 10], [], [], []⟩ sspec_spSums_l0 xspec_spSums_l0 (fun (x : (Int × Int × (List DLot) × Int × Int × Unit) × (Unit)) => (x.1.2.2.1, x.1.2.2.2.1)) fun (x : (Int × Int × (List DLot) × Int × Int × Unit) × (Unit)) => spec_spSums_l0 x.1.2.2.1 x.1.2.2.2.1 x.1.1 x.1.2.1 x.1.2.2.2.2.1
def spec_spSumsK {R : Type} (fin : Int × Int → Option R) (x0 : List DLot) : Option R :=
  (spec_spSums_l0 x0 (x0.length : Int) 0 0 0).bind fun y2 =>
  fin y2
def spec_spSums (x0 : List DLot) : Option (Int × Int) := spec_spSumsK some x0
theorem p44 {R : Type} (fin : Int × Int → Option R) (x0 : List DLot) : Par fin (spec_spSumsK some x0) (spec_spSumsK fin x0) := by
  unfold spec_spSumsK
  repeat' (first | exact .fin | exact .none | refine .cond ?_ ?_ | refine .bind fun _ => ?_ | refine .sum (fun _ => ?_) fun _ => ?_)
def or44 : Ora := { lo := addL 3 (Lspec_spSums_l0) lo0, fin := [] }
theorem spec_spSums_l0e (a2 : List DLot) (a3 : Int) (k : Nat) (a0 : Int) (a1 : Int) (a4 : Int) : loopC Tryd.prog EL44 or44 ((loopsIn (codeOf Tryd.f44)).getD 0 .skip) (Lspec_spSums_l0).h (Lspec_spSums_l0).ho Tryd.f44.ntmps (k + 1) (sspec_spSums_l0.out ((a0, (a1, (a2, (a3, (a4, ()))))), ())) =
    spec_spSums_l0K a2 a3 (fun a0 a1 a4 => loopC Tryd.prog EL44 or44 ((loopsIn (codeOf Tryd.f44)).getD 0 .skip) (Lspec_spSums_l0).h (Lspec_spSums_l0).ho Tryd.f44.ntmps k (sspec_spSums_l0.out ((a0, (a1, (a2, (a3, (a4, ()))))), ()))) (fun y => some (XS.out xspec_spSums_l0 (a2, a3) y)) a0 a1 a4 := by kernel_rfl
theorem spec_spSums_l0o : LoopOk Tryd.prog EL44 or44 Tryd.f44.ntmps ((loopsIn (codeOf Tryd.f44)).getD 0 .skip) (Lspec_spSums_l0) :=
  loop_lim (hs := sspec_spSums_l0) (xs := xspec_spSums_l0) (ι := fun (x : (Int × Int × (List DLot) × Int × Int × Unit) × (Unit)) => (x.1.2.2.1, x.1.2.2.2.1)) (φ := fun (x : (Int × Int × (List DLot) × Int × Int × Unit) × (Unit)) => (x.1.1, (x.1.2.1, x.1.2.2.2.2.1))) (ψ := fun (i : (List DLot) × Int) (v : Int × Int × Int) => ((v.1, (v.2.1, (i.1, (i.2, (v.2.2, ()))))), ())) (F := fun (i : (List DLot) × Int) => spec_spSums_l0F i.1 i.2) (fun _ => rfl) fun i k hk v => Par.of_eq (spec_spSums_l0e i.1 i.2 k v.1 v.2.1 v.2.2) (spec_spSums_l0p i.1 i.2 (fun a0 a1 a4 => hk (a0, (a1, a4))) v.1 v.2.1 v.2.2)
def c44 : Callee := mkC [.one (.ro (.slice TLot))] 2 [.one (.ro (.int .i64)), .one (.ro (.int .i64))] fun x => spec_spSums x
theorem e44 (x : PK.dens [.one (.ro (.slice TLot))]) : evalFn Tryd.prog EL44 or44 Tryd.f44 (PK.outs [.one (.ro (.slice TLot))] x) =
    spec_spSumsK (fun y => some (tupOf ((PK.outs [.one (.ro (.int .i64)), .one (.ro (.int .i64))] y).take 2), (PK.outs [.one (.ro (.int .i64)), .one (.ro (.int .i64))] y).drop 2)) x := by kernel_rfl
theorem o44 : LoOk Tryd.prog EL44 or44 Tryd.f44.ntmps (loopsIn (codeOf Tryd.f44)) :=
  LoOk.mk (m := 1) (by kernel_rfl) fun i hi => match i, hi with
    | 0, _ => ⟨Lspec_spSums_l0, by kernel_rfl, spec_spSums_l0o⟩
    | i + 1, hi => absurd hi (by omega)
theorem k44 : CalleeOk Tryd.prog 44 c44 := callee_mk Tryd.func44 (code := codeOf Tryd.f44) (by kernel_rfl) vL44 mixed o44 fun x y h => (e44 x).trans (p44 _ x y h)

/-- spec.spGood -/
def EL27 : Nat → Option Callee := addE 48 c48 (addE 44 c44 (addE 43 c43 env0))
theorem vL27 : EnvOk Tryd.prog EL27 := ((EnvOk.nil.add Tryd.func43 rfl (by kernel_rfl) k43).add Tryd.func44 rfl (by kernel_rfl) k44).add Tryd.func48 rfl (by kernel_rfl) k48
def sspec_spGood_l0 : LS := ⟨[(1, .one (.fix (.ptr 0 0))), (8, .one (.dat (.slice TLot))), (9, .one (.dat (.int .i64))), (10, .one (.dat (.int .i64)))], [.box [.dat .bool, .dat (.int .i64), .dat (.slice TLot)]], []⟩
def sspec_spGood_l0x0 : LS := ⟨[(2, .one (.dat .bool))], [], []⟩
def sspec_spGood_l0x1 : LS := ⟨[(1, .one (.fix (.ptr 0 0)))], [.box [.dat .bool, .dat (.int .i64), .dat (.slice TLot)]], []⟩
def xspec_spGood_l0 : List (XS ((List DLot) × Int × Bool × Int × (List DLot))) := [⟨.ret, ⟨[2], [], [], []⟩, sspec_spGood_l0x0, Bool, fun i y => ((y, ()), ())⟩,
  ⟨.exit 0, ⟨[1], [.slot 1], [], []⟩, sspec_spGood_l0x1, Unit, fun i y => (((), ()), ((i.2.2.1, (i.2.2.2.1, (i.2.2.2.2, ()))), ()))⟩]
def spec_spGood_l0K {R : Type} (a0 : List DLot) (a1 : Int) (rc : Int → Option R) (fin : (Bool ⊕ Unit) → Option R) (a2 : Int) : Option R :=
  cond (decide (a2 < a1))
  ((lat a0 a2).bind fun e1 =>
    (spec_spLot e1).bind fun y2 =>
    cond (!y2)
    (fin (.inl false))
    (rc (IntKind.i64.wrap (a2 + 1))))
  (fin (.inr ()))
def spec_spGood_l0F (a0 : List DLot) (a1 : Int) (r : Int → Option (Bool ⊕ Unit)) (x : Int) : Option (Bool ⊕ Unit) := spec_spGood_l0K a0 a1 (fun a2 => r a2) some x
theorem spec_spGood_l0c (a0 : List DLot) (a1 : Int) (x : Int) : Ct fun r => spec_spGood_l0F a0 a1 r x := by
  unfold spec_spGood_l0F spec_spGood_l0K
  repeat' (first | exact Ct.const | exact Ct.call | refine Ct.cond ?_ ?_ | refine Ct.bind ?_ fun _ => ?_ | refine Ct.sum (fun _ => ?_) fun _ => ?_)
def spec_spGood_l0 (a0 : List DLot) (a1 : Int) (a2 : Int) : Option (Bool ⊕ Unit) := lim (spec_spGood_l0F a0 a1) a2
theorem spec_spGood_l0_eq (a0 : List DLot) (a1 : Int) (a2 : Int) : spec_spGood_l0 a0 a1 a2 = spec_spGood_l0K a0 a1 (spec_spGood_l0 a0 a1) some a2 := lim_eq (spec_spGood_l0c a0 a1) a2
theorem spec_spGood_l0p {R : Type} (a0 : List DLot) (a1 : Int) {rc : Int → Option (Bool ⊕ Unit)} {rc' : Int → Option R} {fin : (Bool ⊕ Unit) → Option R} (hr : ∀ a2, Par fin (rc a2) (rc' a2)) (a2 : Int) : Par fin (spec_spGood_l0K a0 a1 rc some a2) (spec_spGood_l0K a0 a1 rc' fin a2) := by
  unfold spec_spGood_l0K
  repeat' (first | exact .fin | exact .none | exact hr _ | refine .cond ?_ ?_ | refine .bind fun _ => ?_ | refine .sum (fun _ => ?_) fun _ => ?_)
def Lspec_spGood_l0 : Loop := mkL ⟨[1, 8, 9, 10], [.slot 1], [], []⟩ sspec_spGood_l0 xspec_spGood_l0 (fun (x : (Unit × (List DLot) × Int × Int × Unit) × ((Bool × Int × (List DLot) × Unit) × Unit)) => (x.1.2.1, (x.1.2.2.1, (x.2.1.1, (x.2.1.2.1, x.2.1.2.2.1))))) fun (x : (Unit × (List DLot) × Int × Int × Unit) × ((Bool × Int × (List DLot) × Unit) × Unit)) => spec_spGood_l0 x.1.2.1 x.1.2.2.1 x.1.2.2.2.1
def spec_spGoodK {R : Type} (fin : Bool → Option R) (x0 : DPile) : Option R :=
  (spec_spGood_l0 x0.2.2.1 (x0.2.2.1.length : Int) 0).bind fun y3 =>
  sumO y3 (fun y4 =>
  fin y4)
  (fun y5 =>
  (spec_spSums x0.2.2.1).bind fun y6 =>
    cond (decide ((x0.2.2.1.length : Int) ≤ 40))
    (cond (!x0.1)
      ((spec_l1In x0.2.1 0 10000000).bind fun y7 =>
        cond (y7)
        (fin (decide (y6.1 ≤ x0.2.1)))
        (fin false))
      (cond (decide ((x0.2.2.1.length : Int) ≤ 1))
        ((spec_l1In x0.2.1 0 10000000).bind fun y8 =>
          cond (y8)
          (fin (decide (y6.1 ≤ x0.2.1)))
          (fin false))
        (fin false)))
    (fin false))
def spec_spGood (x0 : DPile) : Option (Bool) := spec_spGoodK some x0
theorem p27 {R : Type} (fin : Bool → Option R) (x0 : DPile) : Par fin (spec_spGoodK some x0) (spec_spGoodK fin x0) := by
  unfold spec_spGoodK
  repeat' (first | exact .fin | exact .none | refine .cond ?_ ?_ | refine .bind fun _ => ?_ | refine .sum (fun _ => ?_) fun _ => ?_)
def or27 : Ora := { lo := addL 2 (Lspec_spGood_l0) lo0, fin := [] }
theorem spec_spGood_l0e (a0 : List DLot) (a1 : Int) (a3 : Bool) (a4 : Int) (a5 : List DLot) (k : Nat) (a2 : Int) : loopC Tryd.prog EL27 or27 ((loopsIn (codeOf Tryd.f27)).getD 0 .skip) (Lspec_spGood_l0).h (Lspec_spGood_l0).ho Tryd.f27.ntmps (k + 1) (sspec_spGood_l0.out (((), (a0, (a1, (a2, ())))), ((a3, (a4, (a5, ()))), ()))) =
    spec_spGood_l0K a0 a1 (fun a2 => loopC Tryd.prog EL27 or27 ((loopsIn (codeOf Tryd.f27)).getD 0 .skip) (Lspec_spGood_l0).h (Lspec_spGood_l0).ho Tryd.f27.ntmps k (sspec_spGood_l0.out (((), (a0, (a1, (a2, ())))), ((a3, (a4, (a5, ()))), ())))) (fun y => some (XS.out xspec_spGood_l0 (a0, (a1, (a3, (a4, a5)))) y)) a2 := by kernel_rfl
theorem spec_spGood_l0o : LoopOk Tryd.prog EL27 or27 Tryd.f27.ntmps ((loopsIn (codeOf Tryd.f27)).getD 0 .skip) (Lspec_spGood_l0) :=
  loop_lim (hs := sspec_spGood_l0) (xs := xspec_spGood_l0) (ι := fun (x : (Unit × (List DLot) × Int × Int × Unit) × ((Bool × Int × (List DLot) × Unit) × Unit)) => (x.1.2.1, (x.1.2.2.1, (x.2.1.1, (x.2.1.2.1, x.2.1.2.2.1))))) (φ := fun (x : (Unit × (List DLot) × Int × Int × Unit) × ((Bool × Int × (List DLot) × Unit) × Unit)) => x.1.2.2.2.1) (ψ := fun (i : (List DLot) × Int × Bool × Int × (List DLot)) (v : Int) => (((), (i.1, (i.2.1, (v, ())))), ((i.2.2.1, (i.2.2.2.1, (i.2.2.2.2, ()))), ()))) (F := fun (i : (List DLot) × Int × Bool × Int × (List DLot)) => spec_spGood_l0F i.1 i.2.1) (fun _ => rfl) fun i k hk v => Par.of_eq (spec_spGood_l0e i.1 i.2.1 i.2.2.1 i.2.2.2.1 i.2.2.2.2 k v) (spec_spGood_l0p i.1 i.2.1 (fun a2 => hk a2) v)
def c27 : Callee := mkC [.agg [.ro TPile]] 1 [.one (.ro .bool)] fun x => spec_spGood x
theorem e27 (x : PK.dens [.agg [.ro TPile]]) : evalFn Tryd.prog EL27 or27 Tryd.f27 (PK.outs [.agg [.ro TPile]] x) =
    spec_spGoodK (fun y => some (tupOf ((PK.outs [.one (.ro .bool)] y).take 1), (PK.outs [.one (.ro .bool)] y).drop 1)) x := by kernel_rfl
theorem o27 : LoOk Tryd.prog EL27 or27 Tryd.f27.ntmps (loopsIn (codeOf Tryd.f27)) :=
  LoOk.mk (m := 1) (by kernel_rfl) fun i hi => match i, hi with
    | 0, _ => ⟨Lspec_spGood_l0, by kernel_rfl, spec_spGood_l0o⟩
    | i + 1, hi => absurd hi (by omega)
theorem k27 : CalleeOk Tryd.prog 27 c27 := callee_mk Tryd.func27 (code := codeOf Tryd.f27) (by kernel_rfl) vL27 mixed o27 fun x y h => (e27 x).trans (p27 _ x y h)

/-- spec.spPut -/
def EL42 : Nat → Option Callee := addE 27 c27 (addE 28 c28 env0)
theorem vL42 : EnvOk Tryd.prog EL42 := (EnvOk.nil.add Tryd.func28 rfl (by kernel_rfl) k28).add Tryd.func27 rfl (by kernel_rfl) k27
def spec_spPutK {R : Type} (fin : (Bool × Int × (List DLot)) × Bool → Option R) (x0 : DPile) (x1 : DLot) : Option R :=
  (spec_spWith x0 x0.2.2.1).bind fun y1 =>
  cond (x0.1)
  (cond ((x0.2.2.1.length : Int) == 1)
    (cond (decide ((0 : Int) < (y1.2.2.length : Int)))
      (cond (decide ((0 : Int) < (y1.2.2.length : Int)))
        ((some (y1.2.2.set (0 + 0) (IntKind.i64.wrap (((y1.2.2.getD (0 + 0) TLot.dflt).1) + x1.1), (((y1.2.2.getD (0 + 0) TLot.dflt).2).1, ())))).bind fun v2 =>
          cond (decide ((0 : Int) < (v2.length : Int)))
          (cond (decide ((0 : Int) < (v2.length : Int)))
            ((some (v2.set (0 + 0) ((v2.getD (0 + 0) TLot.dflt).1, (IntKind.i64.wrap ((((v2.getD (0 + 0) TLot.dflt).2).1) + x1.2.1), ())))).bind fun v3 =>
              (spec_spGood (y1.1, (y1.2.1, (v3, ())))).bind fun y4 =>
              cond (!y4)
              (fin ((false, (0, [])), false))
              (fin ((y1.1, (y1.2.1, v3)), true)))
            (none))
          (none))
        (none))
      (none))
    (cond (decide (y1.2.2.length + [x1].length ≤ 1099511627776))
      ((some (y1.2.2 ++ [x1])).bind fun v5 =>
        (spec_spGood (y1.1, (y1.2.1, (v5, ())))).bind fun y6 =>
        cond (!y6)
        (fin ((false, (0, [])), false))
        (fin ((y1.1, (y1.2.1, v5)), true)))
      (none)))
  (cond (decide (y1.2.2.length + [x1].length ≤ 1099511627776))
    ((some (y1.2.2 ++ [x1])).bind fun v7 =>
      (spec_spGood (y1.1, (y1.2.1, (v7, ())))).bind fun y8 =>
      cond (!y8)
      (fin ((false, (0, [])), false))
      (fin ((y1.1, (y1.2.1, v7)), true)))
    (none))
def spec_spPut (x0 : DPile) (x1 : DLot) : Option ((Bool × Int × (List DLot)) × Bool) := spec_spPutK some x0 x1
theorem p42 {R : Type} (fin : (Bool × Int × (List DLot)) × Bool → Option R) (x0 : DPile) (x1 : DLot) : Par fin (spec_spPutK some x0 x1) (spec_spPutK fin x0 x1) := by
  unfold spec_spPutK
  repeat' (first | exact .fin | exact .none | refine .cond ?_ ?_ | refine .bind fun _ => ?_ | refine .sum (fun _ => ?_) fun _ => ?_)
def or42 : Ora := { lo := lo0, fin := [.own (.cell 4 2) TLot] }
def c42 : Callee := mkC [.agg [.ro TPile], .agg [.ro TLot]] 2 [.agg [.ro .bool, .ro (.int .i64), .sl TLot], .one (.ro .bool)] fun x => spec_spPut x.1 x.2
theorem e42 (x : PK.dens [.agg [.ro TPile], .agg [.ro TLot]]) : evalFn Tryd.prog EL42 or42 Tryd.f42 (PK.outs [.agg [.ro TPile], .agg [.ro TLot]] x) =
    spec_spPutK (fun y => some (tupOf ((PK.outs [.agg [.ro .bool, .ro (.int .i64), .sl TLot], .one (.ro .bool)] y).take 2), (PK.outs [.agg [.ro .bool, .ro (.int .i64), .sl TLot], .one (.ro .bool)] y).drop 2)) x.1 x.2 := by kernel_rfl
theorem k42 : CalleeOk Tryd.prog 42 c42 := callee_mk Tryd.func42 (code := codeOf Tryd.f42) (by kernel_rfl) vL42 mixed (LoOk.nil (by kernel_rfl)) fun x y h => (e42 x).trans (p42 _ x.1 x.2 y h)

/-- spec.l1Cur).pile -/
def EL19 : Nat → Option Callee := addE 45 c45 (addE 44 c44 (addE 43 c43 (addE 42 c42 (addE 22 c22 (addE 20 c20 (addE 41 c41 (addE 21 c21 env0)))))))
theorem vL19 : EnvOk Tryd.prog EL19 := (((((((EnvOk.nil.add Tryd.func21 rfl (by kernel_rfl) k21).add Tryd.func41 rfl (by kernel_rfl) k41).add Tryd.func20 rfl (by kernel_rfl) k20).add Tryd.func22 rfl (by kernel_rfl) k22).add Tryd.func42 rfl (by kernel_rfl) k42).add Tryd.func43 rfl (by kernel_rfl) k43).add Tryd.func44 rfl (by kernel_rfl) k44).add Tryd.func45 rfl (by kernel_rfl) k45
def sspec_l1Cur_pile_l0 : LS := ⟨[(0, .one (.fix (.ptr 0 0))), (2, .one (.fix (.ptr 1 0))), (3, .one (.fix (.ptr 2 0))), (4, .one (.dat (.int .i64)))], [.box [.dat (.slice (.int .u8)), .dat (.int .i64), .dat (.int .u64)], .box [.dat .bool, .dat (.int .i64), .fix .nils], .box [.dat .bool, .dat (.int .i64), .fix (.sref 3)], .sl TLot], [0]⟩
def sspec_l1Cur_pile_l0x0 : LS := ⟨[(0, .one (.fix (.ptr 0 0))), (2, .one (.fix (.ptr 1 0))), (3, .one (.fix (.ptr 2 0)))], [.box [.dat (.slice (.int .u8)), .dat (.int .i64), .dat (.int .u64)], .box [.dat .bool, .dat (.int .i64), .fix .nils], .box [.dat .bool, .dat (.int .i64), .fix (.sref 3)], .sl TLot], [0]⟩
def xspec_l1Cur_pile_l0 : List (XS (Bool × Int)) := [⟨.exit 0, ⟨[0, 2, 3], [.slot 0, .slot 2, .slot 3, .cell 3 2], [0], []⟩, sspec_l1Cur_pile_l0x0, (List Int) × Int × Int × Bool × Int × (List DLot), fun i y => (((), ((), ((), ()))), ((y.1, (y.2.1, (y.2.2.1, ()))), ((i.1, (i.2, ((), ()))), ((y.2.2.2.1, (y.2.2.2.2.1, ((), ()))), (y.2.2.2.2.2, ())))))⟩]
def spec_l1Cur_pile_l0K {R : Type} (rc : Int → List Int → Int → Int → Bool → Int → List DLot → Option R) (fin : (List Int) × Int × Int × Bool × Int × (List DLot) → Option R) (a0 : Int) (a1 : List Int) (a2 : Int) (a3 : Int) (a6 : Bool) (a7 : Int) (a8 : List DLot) : Option R :=
  cond (decide (a0 > 0))
  ((spec_l1Cur_lot (a1, (a2, a3))).bind fun y1 =>
    (spec_spPut (a6, (a7, (a8, ()))) y1.1).bind fun y2 =>
    (spec_spLot y1.1).bind fun y3 =>
    cond (y3)
    (cond (y2.2)
      (rc (IntKind.i64.wrap (a0 - 1)) y1.2.1 y1.2.2.1 y1.2.2.2 y2.1.1 y2.1.2.1 y2.1.2.2)
      (rc (IntKind.i64.wrap (a0 - 1)) y1.2.1 y1.2.2.1 y1.2.2.2 a6 a7 a8))
    (rc (IntKind.i64.wrap (a0 - 1)) y1.2.1 y1.2.2.1 y1.2.2.2 a6 a7 a8))
  (fin (a1, (a2, (a3, (a6, (a7, a8))))))
def spec_l1Cur_pile_l0F (r : (Int × (List Int) × Int × Int × Bool × Int × (List DLot)) → Option ((List Int) × Int × Int × Bool × Int × (List DLot))) (x : Int × (List Int) × Int × Int × Bool × Int × (List DLot)) : Option ((List Int) × Int × Int × Bool × Int × (List DLot)) := spec_l1Cur_pile_l0K (fun a0 a1 a2 a3 a6 a7 a8 => r (a0, (a1, (a2, (a3, (a6, (a7, a8))))))) some x.1 x.2.1 x.2.2.1 x.2.2.2.1 x.2.2.2.2.1 x.2.2.2.2.2.1 x.2.2.2.2.2.2
theorem spec_l1Cur_pile_l0c (x : Int × (List Int) × Int × Int × Bool × Int × (List DLot)) : Ct fun r => spec_l1Cur_pile_l0F r x := by
  unfold spec_l1Cur_pile_l0F spec_l1Cur_pile_l0K
  repeat' (first | exact Ct.const | exact Ct.call | refine Ct.cond ?_ ?_ | refine Ct.bind ?_ fun _ => ?_ | refine Ct.sum (fun _ => ?_) fun _ => ?_)
def spec_l1Cur_pile_l0 (a0 : Int) (a1 : List Int) (a2 : Int) (a3 : Int) (a6 : Bool) (a7 : Int) (a8 : List DLot) : Option ((List Int) × Int × Int × Bool × Int × (List DLot)) := lim (spec_l1Cur_pile_l0F) (a0, (a1, (a2, (a3, (a6, (a7, a8))))))
theorem spec_l1Cur_pile_l0_eq (a0 : Int) (a1 : List Int) (a2 : Int) (a3 : Int) (a6 : Bool) (a7 : Int) (a8 : List DLot) : spec_l1Cur_pile_l0 a0 a1 a2 a3 a6 a7 a8 = spec_l1Cur_pile_l0K (spec_l1Cur_pile_l0) some a0 a1 a2 a3 a6 a7 a8 := lim_eq (spec_l1Cur_pile_l0c) (a0, (a1, (a2, (a3, (a6, (a7, a8))))))
theorem spec_l1Cur_pile_l0p {R : Type} {rc : Int → List Int → Int → Int → Bool → Int → List DLot → Option ((List Int) × Int × Int × Bool × Int × (List DLot))} {rc' : Int → List Int → Int → Int → Bool → Int → List DLot → Option R} {fin : (List Int) × Int × Int × Bool × Int × (List DLot) → Option R} (hr : ∀ a0 a1 a2 a3 a6 a7 a8, Par fin (rc a0 a1 a2 a3 a6 a7 a8) (rc' a0 a1 a2 a3 a6 a7 a8)) (a0 : Int) (a1 : List Int) (a2 : Int) (a3 : Int) (a6 : Bool) (a7 : Int) (a8 : List DLot) : Par fin (spec_l1Cur_pile_l0K rc some a0 a1 a2 a3 a6 a7 a8) (spec_l1Cur_pile_l0K rc' fin a0 a1 a2 a3 a6 a7 a8) := by
  unfold spec_l1Cur_pile_l0K
  repeat' (first | exact .fin | exact .none | exact hr _ _ _ _ _ _ _ | refine .cond ?_ ?_ | refine .bind fun _ => ?_ | refine .sum (fun _ => ?_) fun _ => ?_)
def Lspec_l1Cur_pile_l0 : Loop := mkL ⟨[0, 2, 3, 4], [.slot 0, .slot 2, .slot 3, .cell 3 2], [0], [.own (.cell 3 2) TLot]⟩ sspec_l1Cur_pile_l0 xspec_l1Cur_pile_l0 (fun (x : (Unit × Unit × Unit × Int × Unit) × (((List Int) × Int × Int × Unit) × (Bool × Int × Unit × Unit) × (Bool × Int × Unit × Unit) × (List DLot) × Unit)) => (x.2.2.1.1, x.2.2.1.2.1)) fun (x : (Unit × Unit × Unit × Int × Unit) × (((List Int) × Int × Int × Unit) × (Bool × Int × Unit × Unit) × (Bool × Int × Unit × Unit) × (List DLot) × Unit)) => spec_l1Cur_pile_l0 x.1.2.2.2.1 x.2.1.1 x.2.1.2.1 x.2.1.2.2.1 x.2.2.2.1.1 x.2.2.2.1.2.1 x.2.2.2.2.1
def sspec_l1Cur_pile_l1 : LS := ⟨[(0, .one (.fix (.ptr 0 0))), (2, .one (.fix (.ptr 1 0))), (3, .one (.fix (.ptr 2 0))), (8, .one (.dat (.int .i64)))], [.box [.dat (.slice (.int .u8)), .dat (.int .i64), .dat (.int .u64)], .box [.dat .bool, .dat (.int .i64), .fix .nils], .box [.dat .bool, .dat (.int .i64), .fix (.sref 3)], .sl TLot], [0]⟩
def sspec_l1Cur_pile_l1x0 : LS := ⟨[(0, .one (.fix (.ptr 0 0))), (2, .one (.fix (.ptr 1 0))), (3, .one (.fix (.ptr 2 0)))], [.box [.dat (.slice (.int .u8)), .dat (.int .i64), .dat (.int .u64)], .box [.dat .bool, .dat (.int .i64), .fix .nils], .box [.dat .bool, .dat (.int .i64), .fix (.sref 3)], .sl TLot], [0]⟩
def xspec_l1Cur_pile_l1 : List (XS (Int × (List Int) × Int × Int × Bool × Int × Bool × Int)) := [⟨.exit 3, ⟨[0, 2, 3], [.slot 0, .slot 2, .slot 3, .cell 3 2], [0], []⟩, sspec_l1Cur_pile_l1x0, List DLot, fun i y => (((), ((), ((), ()))), ((i.2.1, (i.2.2.1, (i.2.2.2.1, ()))), ((i.2.2.2.2.1, (i.2.2.2.2.2.1, ((), ()))), ((i.2.2.2.2.2.2.1, (i.2.2.2.2.2.2.2, ((), ()))), (y, ())))))⟩]
def spec_l1Cur_pile_l1K {R : Type} (a0 : Int) (rc : List DLot → Option R) (fin : List DLot → Option R) (a8 : List DLot) : Option R :=
  cond (decide ((a8.length : Int) < a0))
  (cond (decide (a8.length + [(10, ((a8.length : Int), ()))].length ≤ 1099511627776))
    ((some (a8 ++ [(10, ((a8.length : Int), ()))])).bind fun v1 =>
      rc v1)
    (none))
  (fin a8)
def spec_l1Cur_pile_l1F (a0 : Int) (r : List DLot → Option (List DLot)) (x : List DLot) : Option (List DLot) := spec_l1Cur_pile_l1K a0 (fun a8 => r a8) some x
theorem spec_l1Cur_pile_l1c (a0 : Int) (x : List DLot) : Ct fun r => spec_l1Cur_pile_l1F a0 r x := by
  unfold spec_l1Cur_pile_l1F spec_l1Cur_pile_l1K
  repeat' (first | exact Ct.const | exact Ct.call | refine Ct.cond ?_ ?_ | refine Ct.bind ?_ fun _ => ?_ | refine Ct.sum (fun _ => ?_) fun _ => ?_)
def spec_l1Cur_pile_l1 (a0 : Int) (a8 : List DLot) : Option (List DLot) := lim (spec_l1Cur_pile_l1F a0) a8
theorem spec_l1Cur_pile_l1_eq (a0 : Int) (a8 : List DLot) : spec_l1Cur_pile_l1 a0 a8 = spec_l1Cur_pile_l1K a0 (spec_l1Cur_pile_l1 a0) some a8 := lim_eq (spec_l1Cur_pile_l1c a0) a8
theorem spec_l1Cur_pile_l1p {R : Type} (a0 : Int) {rc : List DLot → Option (List DLot)} {rc' : List DLot → Option R} {fin : List DLot → Option R} (hr : ∀ a8, Par fin (rc a8) (rc' a8)) (a8 : List DLot) : Par fin (spec_l1Cur_pile_l1K a0 rc some a8) (spec_l1Cur_pile_l1K a0 rc' fin a8) := by
  unfold spec_l1Cur_pile_l1K
  repeat' (first | exact .fin | exact .none | exact hr _ | refine .cond ?_ ?_ | refine .bind fun _ => ?_ | refine .sum (fun _ => ?_) fun _ => ?_)
def Lspec_l1Cur_pile_l1 : Loop := mkL ⟨[0, 2, 3, 8], [.slot 0, .slot 2, .slot 3, .cell 3 2], [0], [.own (.cell 3 2) TLot]⟩ sspec_l1Cur_pile_l1 xspec_l1Cur_pile_l1 (fun (x : (Unit × Unit × Unit × Int × Unit) × (((List Int) × Int × Int × Unit) × (Bool × Int × Unit × Unit) × (Bool × Int × Unit × Unit) × (List DLot) × Unit)) => (x.1.2.2.2.1, (x.2.1.1, (x.2.1.2.1, (x.2.1.2.2.1, (x.2.2.1.1, (x.2.2.1.2.1, (x.2.2.2.1.1, x.2.2.2.1.2.1)))))))) fun (x : (Unit × Unit × Unit × Int × Unit) × (((List Int) × Int × Int × Unit) × (Bool × Int × Unit × Unit) × (Bool × Int × Unit × Unit) × (List DLot) × Unit)) => spec_l1Cur_pile_l1 x.1.2.2.2.1 x.2.2.2.2.1
def spec_l1Cur_pileK {R : Type} (fin : (Bool × Int × (List DLot)) × ((List Int) × Int × Int) → Option R) (x0 : (List Int) × Int × Int) : Option R :=
  (spec_l1Cur_one x0 3).bind fun y1 =>
  (spec_l1Cur_among y1.2 [1000, 5000, 10000000]).bind fun y2 =>
  (spec_l1Cur_pick y2.2 6).bind fun y3 =>
  (spec_l1Cur_pile_l0 y3.1 y3.2.1 y3.2.2.1 y3.2.2.2 y1.1 y2.1 []).bind fun y10 =>
  (spec_l1Cur_pick (y10.1, (y10.2.1, y10.2.2.1)) 30).bind fun y11 =>
  cond (y11.1 == 0)
  ((spec_l1Cur_among y11.2 [(-1), 0, 10000000, 10000001]).bind fun y12 =>
    fin ((y10.2.2.2.1, (y12.1, y10.2.2.2.2.2)), y12.2))
  (cond (y11.1 == 1)
    ((spec_l1Cur_lot y11.2).bind fun y13 =>
      cond (decide (y10.2.2.2.2.2.length + [y13.1].length ≤ 1099511627776))
      ((some (y10.2.2.2.2.2 ++ [y13.1])).bind fun v14 =>
        fin ((y10.2.2.2.1, (y10.2.2.2.2.1, v14)), y13.2))
      (none))
    (cond (y11.1 == 2)
      ((spec_l1Cur_pick y11.2 3).bind fun y15 =>
        (spec_l1Cur_pile_l1 (IntKind.i64.wrap (39 + y15.1)) []).bind fun y18 =>
        fin ((false, (10000000, y18)), y15.2))
      (cond (y11.1 == 3)
        ((spec_spSums y10.2.2.2.2.2).bind fun y19 =>
          (spec_l1Cur_pick y11.2 2).bind fun y20 =>
          (spec_l1Most 0 (IntKind.i64.wrap (y19.1 - y20.1))).bind fun y21 =>
          fin ((y10.2.2.2.1, (y21, y10.2.2.2.2.2)), y20.2))
        (cond (y11.1 == 4)
          (fin ((false, (10000000, [(1000000, (1000000000, ())), (1000000, (0, ())), (1000000, (7, ()))])), y11.2))
          (fin (y10.2.2.2, y11.2))))))
def spec_l1Cur_pile (x0 : (List Int) × Int × Int) : Option ((Bool × Int × (List DLot)) × ((List Int) × Int × Int)) := spec_l1Cur_pileK some x0
theorem p19 {R : Type} (fin : (Bool × Int × (List DLot)) × ((List Int) × Int × Int) → Option R) (x0 : (List Int) × Int × Int) : Par fin (spec_l1Cur_pileK some x0) (spec_l1Cur_pileK fin x0) := by
  unfold spec_l1Cur_pileK
  repeat' (first | exact .fin | exact .none | refine .cond ?_ ?_ | refine .bind fun _ => ?_ | refine .sum (fun _ => ?_) fun _ => ?_)
def or19 : Ora := { lo := addL 17 (Lspec_l1Cur_pile_l1) (addL 3 (Lspec_l1Cur_pile_l0) lo0), fin := [] }
theorem spec_l1Cur_pile_l0e (a4 : Bool) (a5 : Int) (k : Nat) (a0 : Int) (a1 : List Int) (a2 : Int) (a3 : Int) (a6 : Bool) (a7 : Int) (a8 : List DLot) : loopC Tryd.prog EL19 or19 ((loopsIn (codeOf Tryd.f19)).getD 0 .skip) (Lspec_l1Cur_pile_l0).h (Lspec_l1Cur_pile_l0).ho Tryd.f19.ntmps (k + 1) (sspec_l1Cur_pile_l0.out (((), ((), ((), (a0, ())))), ((a1, (a2, (a3, ()))), ((a4, (a5, ((), ()))), ((a6, (a7, ((), ()))), (a8, ())))))) =
    spec_l1Cur_pile_l0K (fun a0 a1 a2 a3 a6 a7 a8 => loopC Tryd.prog EL19 or19 ((loopsIn (codeOf Tryd.f19)).getD 0 .skip) (Lspec_l1Cur_pile_l0).h (Lspec_l1Cur_pile_l0).ho Tryd.f19.ntmps k (sspec_l1Cur_pile_l0.out (((), ((), ((), (a0, ())))), ((a1, (a2, (a3, ()))), ((a4, (a5, ((), ()))), ((a6, (a7, ((), ()))), (a8, ()))))))) (fun y => some (XS.out xspec_l1Cur_pile_l0 (a4, a5) y)) a0 a1 a2 a3 a6 a7 a8 := by kernel_rfl
theorem spec_l1Cur_pile_l0o : LoopOk Tryd.prog EL19 or19 Tryd.f19.ntmps ((loopsIn (codeOf Tryd.f19)).getD 0 .skip) (Lspec_l1Cur_pile_l0) :=
  loop_lim (hs := sspec_l1Cur_pile_l0) (xs := xspec_l1Cur_pile_l0) (ι := fun (x : (Unit × Unit × Unit × Int × Unit) × (((List Int) × Int × Int × Unit) × (Bool × Int × Unit × Unit) × (Bool × Int × Unit × Unit) × (List DLot) × Unit)) => (x.2.2.1.1, x.2.2.1.2.1)) (φ := fun (x : (Unit × Unit × Unit × Int × Unit) × (((List Int) × Int × Int × Unit) × (Bool × Int × Unit × Unit) × (Bool × Int × Unit × Unit) × (List DLot) × Unit)) => (x.1.2.2.2.1, (x.2.1.1, (x.2.1.2.1, (x.2.1.2.2.1, (x.2.2.2.1.1, (x.2.2.2.1.2.1, x.2.2.2.2.1))))))) (ψ := fun (i : Bool × Int) (v : Int × (List Int) × Int × Int × Bool × Int × (List DLot)) => (((), ((), ((), (v.1, ())))), ((v.2.1, (v.2.2.1, (v.2.2.2.1, ()))), ((i.1, (i.2, ((), ()))), ((v.2.2.2.2.1, (v.2.2.2.2.2.1, ((), ()))), (v.2.2.2.2.2.2, ())))))) (F := fun (i : Bool × Int) => spec_l1Cur_pile_l0F) (fun _ => rfl) fun i k hk v => Par.of_eq (spec_l1Cur_pile_l0e i.1 i.2 k v.1 v.2.1 v.2.2.1 v.2.2.2.1 v.2.2.2.2.1 v.2.2.2.2.2.1 v.2.2.2.2.2.2) (spec_l1Cur_pile_l0p (fun a0 a1 a2 a3 a6 a7 a8 => hk (a0, (a1, (a2, (a3, (a6, (a7, a8))))))) v.1 v.2.1 v.2.2.1 v.2.2.2.1 v.2.2.2.2.1 v.2.2.2.2.2.1 v.2.2.2.2.2.2)
theorem spec_l1Cur_pile_l1e (a0 : Int) (a1 : List Int) (a2 : Int) (a3 : Int) (a4 : Bool) (a5 : Int) (a6 : Bool) (a7 : Int) (k : Nat) (a8 : List DLot) : loopC Tryd.prog EL19 or19 ((loopsIn (codeOf Tryd.f19)).getD 1 .skip) (Lspec_l1Cur_pile_l1).h (Lspec_l1Cur_pile_l1).ho Tryd.f19.ntmps (k + 1) (sspec_l1Cur_pile_l1.out (((), ((), ((), (a0, ())))), ((a1, (a2, (a3, ()))), ((a4, (a5, ((), ()))), ((a6, (a7, ((), ()))), (a8, ())))))) =
    spec_l1Cur_pile_l1K a0 (fun a8 => loopC Tryd.prog EL19 or19 ((loopsIn (codeOf Tryd.f19)).getD 1 .skip) (Lspec_l1Cur_pile_l1).h (Lspec_l1Cur_pile_l1).ho Tryd.f19.ntmps k (sspec_l1Cur_pile_l1.out (((), ((), ((), (a0, ())))), ((a1, (a2, (a3, ()))), ((a4, (a5, ((), ()))), ((a6, (a7, ((), ()))), (a8, ()))))))) (fun y => some (XS.out xspec_l1Cur_pile_l1 (a0, (a1, (a2, (a3, (a4, (a5, (a6, a7))))))) y)) a8 := by kernel_rfl
theorem spec_l1Cur_pile_l1o : LoopOk Tryd.prog EL19 or19 Tryd.f19.ntmps ((loopsIn (codeOf Tryd.f19)).getD 1 .skip) (Lspec_l1Cur_pile_l1) :=
  loop_lim (hs := sspec_l1Cur_pile_l1) (xs := xspec_l1Cur_pile_l1) (ι := fun (x : (Unit × Unit × Unit × Int × Unit) × (((List Int) × Int × Int × Unit) × (Bool × Int × Unit × Unit) × (Bool × Int × Unit × Unit) × (List DLot) × Unit)) => (x.1.2.2.2.1, (x.2.1.1, (x.2.1.2.1, (x.2.1.2.2.1, (x.2.2.1.1, (x.2.2.1.2.1, (x.2.2.2.1.1, x.2.2.2.1.2.1)))))))) (φ := fun (x : (Unit × Unit × Unit × Int × Unit) × (((List Int) × Int × Int × Unit) × (Bool × Int × Unit × Unit) × (Bool × Int × Unit × Unit) × (List DLot) × Unit)) => x.2.2.2.2.1) (ψ := fun (i : Int × (List Int) × Int × Int × Bool × Int × Bool × Int) (v : List DLot) => (((), ((), ((), (i.1, ())))), ((i.2.1, (i.2.2.1, (i.2.2.2.1, ()))), ((i.2.2.2.2.1, (i.2.2.2.2.2.1, ((), ()))), ((i.2.2.2.2.2.2.1, (i.2.2.2.2.2.2.2, ((), ()))), (v, ())))))) (F := fun (i : Int × (List Int) × Int × Int × Bool × Int × Bool × Int) => spec_l1Cur_pile_l1F i.1) (fun _ => rfl) fun i k hk v => Par.of_eq (spec_l1Cur_pile_l1e i.1 i.2.1 i.2.2.1 i.2.2.2.1 i.2.2.2.2.1 i.2.2.2.2.2.1 i.2.2.2.2.2.2.1 i.2.2.2.2.2.2.2 k v) (spec_l1Cur_pile_l1p i.1 (fun a8 => hk a8) v)
def c19 : Callee := mkC [.box [.ro (.slice (.int .u8)), .ro (.int .i64), .ro (.int .u64)]] 1 [.agg [.ro .bool, .ro (.int .i64), .sl TLot], .box [.ro (.slice (.int .u8)), .ro (.int .i64), .ro (.int .u64)]] fun x => spec_l1Cur_pile x
theorem e19 (x : PK.dens [.box [.ro (.slice (.int .u8)), .ro (.int .i64), .ro (.int .u64)]]) : evalFn Tryd.prog EL19 or19 Tryd.f19 (PK.outs [.box [.ro (.slice (.int .u8)), .ro (.int .i64), .ro (.int .u64)]] x) =
    spec_l1Cur_pileK (fun y => some (tupOf ((PK.outs [.agg [.ro .bool, .ro (.int .i64), .sl TLot], .box [.ro (.slice (.int .u8)), .ro (.int .i64), .ro (.int .u64)]] y).take 1), (PK.outs [.agg [.ro .bool, .ro (.int .i64), .sl TLot], .box [.ro (.slice (.int .u8)), .ro (.int .i64), .ro (.int .u64)]] y).drop 1)) x := by kernel_rfl
theorem o19 : LoOk Tryd.prog EL19 or19 Tryd.f19.ntmps (loopsIn (codeOf Tryd.f19)) :=
  LoOk.mk (m := 2) (by kernel_rfl) fun i hi => match i, hi with
    | 0, _ => ⟨Lspec_l1Cur_pile_l0, by kernel_rfl, spec_l1Cur_pile_l0o⟩
    | 1, _ => ⟨Lspec_l1Cur_pile_l1, by kernel_rfl, spec_l1Cur_pile_l1o⟩
    | i + 2, hi => absurd hi (by omega)
theorem k19 : CalleeOk Tryd.prog 19 c19 := callee_mk Tryd.func19 (code := codeOf Tryd.f19) (by kernel_rfl) vL19 mixed o19 fun x y h => (e19 x).trans (p19 _ x y h)

/-- spec.DrawRunPile -/
def EL5 : Nat → Option Callee := addE 22 c22 (addE 21 c21 (addE 20 c20 (addE 19 c19 env0)))
theorem vL5 : EnvOk Tryd.prog EL5 := (((EnvOk.nil.add Tryd.func19 rfl (by kernel_rfl) k19).add Tryd.func20 rfl (by kernel_rfl) k20).add Tryd.func21 rfl (by kernel_rfl) k21).add Tryd.func22 rfl (by kernel_rfl) k22
def sspec_DrawRunPile_l0 : LS := ⟨[(2, .one (.fix (.ptr 0 0))), (4, .one (.fix (.ptr 1 0))), (5, .one (.fix (.ptr 2 0))), (6, .one (.fix (.sref 4))), (7, .one (.dat (.int .i64)))], [.box [.dat .bool, .dat (.int .i64), .fix .nils], .box [.dat (.slice (.int .u8)), .dat (.int .i64), .dat (.int .u64)], .box [.dat .bool, .dat (.int .i64), .fix (.sref 3)], .sl TLot, .sl TStir], []⟩
def sspec_DrawRunPile_l0x0 : LS := ⟨[(2, .one (.fix (.ptr 0 0))), (5, .one (.fix (.ptr 1 0))), (6, .one (.fix (.sref 3)))], [.box [.dat .bool, .dat (.int .i64), .fix .nils], .box [.dat .bool, .dat (.int .i64), .fix (.sref 2)], .sl TLot, .sl TStir], []⟩
def xspec_DrawRunPile_l0 : List (XS (Bool × Int × Bool × Int × (List DLot))) := [⟨.exit 0, ⟨[2, 5, 6], [.slot 2, .slot 5, .cell 5 2, .slot 6], [], []⟩, sspec_DrawRunPile_l0x0, List DStir, fun i y => (((), ((), ((), ()))), ((i.1, (i.2.1, ((), ()))), ((i.2.2.1, (i.2.2.2.1, ((), ()))), (i.2.2.2.2, (y, ())))))⟩]
def spec_DrawRunPile_l0K {R : Type} (rc : Int → List Int → Int → Int → List DStir → Option R) (fin : List DStir → Option R) (a0 : Int) (a3 : List Int) (a4 : Int) (a5 : Int) (a9 : List DStir) : Option R :=
  cond (decide (a0 > 0))
  ((spec_l1Cur_lot (a3, (a4, a5))).bind fun y1 =>
    (spec_l1Cur_one y1.2 3).bind fun y2 =>
    cond (!(!y2.1))
    ((spec_l1Cur_one y2.2 12).bind fun y3 =>
      cond (!y3.1)
      (cond (decide (a9.length + [(!y2.1, (y1.1.1, (0, ())))].length ≤ 1099511627776))
        ((some (a9 ++ [(!y2.1, (y1.1.1, (0, ())))])).bind fun v4 =>
          rc (IntKind.i64.wrap (a0 - 1)) y3.2.1 y3.2.2.1 y3.2.2.2 v4)
        (none))
      (cond (decide (a9.length + [(!y2.1, y1.1)].length ≤ 1099511627776))
        ((some (a9 ++ [(!y2.1, y1.1)])).bind fun v5 =>
          rc (IntKind.i64.wrap (a0 - 1)) y3.2.1 y3.2.2.1 y3.2.2.2 v5)
        (none)))
    (cond (decide (a9.length + [(!y2.1, y1.1)].length ≤ 1099511627776))
      ((some (a9 ++ [(!y2.1, y1.1)])).bind fun v6 =>
        rc (IntKind.i64.wrap (a0 - 1)) y2.2.1 y2.2.2.1 y2.2.2.2 v6)
      (none)))
  (fin a9)
def spec_DrawRunPile_l0F (r : (Int × (List Int) × Int × Int × (List DStir)) → Option (List DStir)) (x : Int × (List Int) × Int × Int × (List DStir)) : Option (List DStir) := spec_DrawRunPile_l0K (fun a0 a3 a4 a5 a9 => r (a0, (a3, (a4, (a5, a9))))) some x.1 x.2.1 x.2.2.1 x.2.2.2.1 x.2.2.2.2
theorem spec_DrawRunPile_l0c (x : Int × (List Int) × Int × Int × (List DStir)) : Ct fun r => spec_DrawRunPile_l0F r x := by
  unfold spec_DrawRunPile_l0F spec_DrawRunPile_l0K
  repeat' (first | exact Ct.const | exact Ct.call | refine Ct.cond ?_ ?_ | refine Ct.bind ?_ fun _ => ?_ | refine Ct.sum (fun _ => ?_) fun _ => ?_)
def spec_DrawRunPile_l0 (a0 : Int) (a3 : List Int) (a4 : Int) (a5 : Int) (a9 : List DStir) : Option (List DStir) := lim (spec_DrawRunPile_l0F) (a0, (a3, (a4, (a5, a9))))
theorem spec_DrawRunPile_l0_eq (a0 : Int) (a3 : List Int) (a4 : Int) (a5 : Int) (a9 : List DStir) : spec_DrawRunPile_l0 a0 a3 a4 a5 a9 = spec_DrawRunPile_l0K (spec_DrawRunPile_l0) some a0 a3 a4 a5 a9 := lim_eq (spec_DrawRunPile_l0c) (a0, (a3, (a4, (a5, a9))))
theorem spec_DrawRunPile_l0p {R : Type} {rc : Int → List Int → Int → Int → List DStir → Option (List DStir)} {rc' : Int → List Int → Int → Int → List DStir → Option R} {fin : List DStir → Option R} (hr : ∀ a0 a3 a4 a5 a9, Par fin (rc a0 a3 a4 a5 a9) (rc' a0 a3 a4 a5 a9)) (a0 : Int) (a3 : List Int) (a4 : Int) (a5 : Int) (a9 : List DStir) : Par fin (spec_DrawRunPile_l0K rc some a0 a3 a4 a5 a9) (spec_DrawRunPile_l0K rc' fin a0 a3 a4 a5 a9) := by
  unfold spec_DrawRunPile_l0K
  repeat' (first | exact .fin | exact .none | exact hr _ _ _ _ _ | refine .cond ?_ ?_ | refine .bind fun _ => ?_ | refine .sum (fun _ => ?_) fun _ => ?_)
def Lspec_DrawRunPile_l0 : Loop := mkL ⟨[2, 4, 5, 6, 7], [.slot 2, .slot 4, .slot 5, .cell 5 2, .slot 6], [], [.own (.slot 6) TStir]⟩ sspec_DrawRunPile_l0 xspec_DrawRunPile_l0 (fun (x : (Unit × Unit × Unit × Unit × Int × Unit) × ((Bool × Int × Unit × Unit) × ((List Int) × Int × Int × Unit) × (Bool × Int × Unit × Unit) × (List DLot) × (List DStir) × Unit)) => (x.2.1.1, (x.2.1.2.1, (x.2.2.2.1.1, (x.2.2.2.1.2.1, x.2.2.2.2.1))))) fun (x : (Unit × Unit × Unit × Unit × Int × Unit) × ((Bool × Int × Unit × Unit) × ((List Int) × Int × Int × Unit) × (Bool × Int × Unit × Unit) × (List DLot) × (List DStir) × Unit)) => spec_DrawRunPile_l0 x.1.2.2.2.2.1 x.2.2.1.1 x.2.2.1.2.1 x.2.2.1.2.2.1 x.2.2.2.2.2.1
def spec_DrawRunPileK {R : Type} (fin : (Bool × Int × (List DLot)) × (List DStir) → Option R) (x0 : List Int) : Option R :=
  (spec_l1Cur_pile (x0, (0, 0))).bind fun y1 =>
  (spec_l1Cur_pick y1.2 12).bind fun y2 =>
  (spec_l1Cur_one y2.2 20).bind fun y3 =>
  cond (y3.1)
  ((spec_l1Cur_pick y3.2 2).bind fun y4 =>
    (spec_DrawRunPile_l0 (IntKind.i64.wrap (60 + y4.1)) y4.2.1 y4.2.2.1 y4.2.2.2 []).bind fun y17 =>
    fin (y1.1, y17))
  ((spec_DrawRunPile_l0 y2.1 y3.2.1 y3.2.2.1 y3.2.2.2 []).bind fun y18 =>
    fin (y1.1, y18))
def spec_DrawRunPile (x0 : List Int) : Option ((Bool × Int × (List DLot)) × (List DStir)) := spec_DrawRunPileK some x0
theorem p5 {R : Type} (fin : (Bool × Int × (List DLot)) × (List DStir) → Option R) (x0 : List Int) : Par fin (spec_DrawRunPileK some x0) (spec_DrawRunPileK fin x0) := by
  unfold spec_DrawRunPileK
  repeat' (first | exact .fin | exact .none | refine .cond ?_ ?_ | refine .bind fun _ => ?_ | refine .sum (fun _ => ?_) fun _ => ?_)
def or5 : Ora := { lo := addL 7 (Lspec_DrawRunPile_l0) lo0, fin := [] }
theorem spec_DrawRunPile_l0e (a1 : Bool) (a2 : Int) (a6 : Bool) (a7 : Int) (a8 : List DLot) (k : Nat) (a0 : Int) (a3 : List Int) (a4 : Int) (a5 : Int) (a9 : List DStir) : loopC Tryd.prog EL5 or5 ((loopsIn (codeOf Tryd.f5)).getD 0 .skip) (Lspec_DrawRunPile_l0).h (Lspec_DrawRunPile_l0).ho Tryd.f5.ntmps (k + 1) (sspec_DrawRunPile_l0.out (((), ((), ((), ((), (a0, ()))))), ((a1, (a2, ((), ()))), ((a3, (a4, (a5, ()))), ((a6, (a7, ((), ()))), (a8, (a9, ()))))))) =
    spec_DrawRunPile_l0K (fun a0 a3 a4 a5 a9 => loopC Tryd.prog EL5 or5 ((loopsIn (codeOf Tryd.f5)).getD 0 .skip) (Lspec_DrawRunPile_l0).h (Lspec_DrawRunPile_l0).ho Tryd.f5.ntmps k (sspec_DrawRunPile_l0.out (((), ((), ((), ((), (a0, ()))))), ((a1, (a2, ((), ()))), ((a3, (a4, (a5, ()))), ((a6, (a7, ((), ()))), (a8, (a9, ())))))))) (fun y => some (XS.out xspec_DrawRunPile_l0 (a1, (a2, (a6, (a7, a8)))) y)) a0 a3 a4 a5 a9 := by kernel_rfl
theorem spec_DrawRunPile_l0o : LoopOk Tryd.prog EL5 or5 Tryd.f5.ntmps ((loopsIn (codeOf Tryd.f5)).getD 0 .skip) (Lspec_DrawRunPile_l0) :=
  loop_lim (hs := sspec_DrawRunPile_l0) (xs := xspec_DrawRunPile_l0) (ι := fun (x : (Unit × Unit × Unit × Unit × Int × Unit) × ((Bool × Int × Unit × Unit) × ((List Int) × Int × Int × Unit) × (Bool × Int × Unit × Unit) × (List DLot) × (List DStir) × Unit)) => (x.2.1.1, (x.2.1.2.1, (x.2.2.2.1.1, (x.2.2.2.1.2.1, x.2.2.2.2.1))))) (φ := fun (x : (Unit × Unit × Unit × Unit × Int × Unit) × ((Bool × Int × Unit × Unit) × ((List Int) × Int × Int × Unit) × (Bool × Int × Unit × Unit) × (List DLot) × (List DStir) × Unit)) => (x.1.2.2.2.2.1, (x.2.2.1.1, (x.2.2.1.2.1, (x.2.2.1.2.2.1, x.2.2.2.2.2.1))))) (ψ := fun (i : Bool × Int × Bool × Int × (List DLot)) (v : Int × (List Int) × Int × Int × (List DStir)) => (((), ((), ((), ((), (v.1, ()))))), ((i.1, (i.2.1, ((), ()))), ((v.2.1, (v.2.2.1, (v.2.2.2.1, ()))), ((i.2.2.1, (i.2.2.2.1, ((), ()))), (i.2.2.2.2, (v.2.2.2.2, ()))))))) (F := fun (i : Bool × Int × Bool × Int × (List DLot)) => spec_DrawRunPile_l0F) (fun _ => rfl) fun i k hk v => Par.of_eq (spec_DrawRunPile_l0e i.1 i.2.1 i.2.2.1 i.2.2.2.1 i.2.2.2.2 k v.1 v.2.1 v.2.2.1 v.2.2.2.1 v.2.2.2.2) (spec_DrawRunPile_l0p (fun a0 a3 a4 a5 a9 => hk (a0, (a3, (a4, (a5, a9))))) v.1 v.2.1 v.2.2.1 v.2.2.2.1 v.2.2.2.2)
def c5 : Callee := mkC [.one (.ro (.slice (.int .u8)))] 2 [.agg [.ro .bool, .ro (.int .i64), .sl TLot], .one (.sl TStir)] fun x => spec_DrawRunPile x
theorem e5 (x : PK.dens [.one (.ro (.slice (.int .u8)))]) : evalFn Tryd.prog EL5 or5 Tryd.f5 (PK.outs [.one (.ro (.slice (.int .u8)))] x) =
    spec_DrawRunPileK (fun y => some (tupOf ((PK.outs [.agg [.ro .bool, .ro (.int .i64), .sl TLot], .one (.sl TStir)] y).take 2), (PK.outs [.agg [.ro .bool, .ro (.int .i64), .sl TLot], .one (.sl TStir)] y).drop 2)) x := by kernel_rfl
theorem o5 : LoOk Tryd.prog EL5 or5 Tryd.f5.ntmps (loopsIn (codeOf Tryd.f5)) :=
  LoOk.mk (m := 1) (by kernel_rfl) fun i hi => match i, hi with
    | 0, _ => ⟨Lspec_DrawRunPile_l0, by kernel_rfl, spec_DrawRunPile_l0o⟩
    | i + 1, hi => absurd hi (by omega)
theorem k5 : CalleeOk Tryd.prog 5 c5 := callee_mk Tryd.func5 (code := codeOf Tryd.f5) (by kernel_rfl) vL5 mixed o5 fun x y h => (e5 x).trans (p5 _ x y h)

/-- impl.isLot -/
def EL24 : Nat → Option Callee := env0
theorem vL24 : EnvOk Tryd.prog EL24 := EnvOk.nil
def impl_isLotK {R : Type} (fin : Bool → Option R) (x0 : DLot) : Option R :=
  cond (decide (x0.1 ≥ 1))
  (cond (decide (x0.1 ≤ 1000000))
    (cond (decide (x0.2.1 ≥ 0))
      (fin (decide (x0.2.1 ≤ (IntKind.i64.wrap (1000 * x0.1)))))
      (fin false))
    (fin false))
  (fin false)
def impl_isLot (x0 : DLot) : Option (Bool) := impl_isLotK some x0
theorem p24 {R : Type} (fin : Bool → Option R) (x0 : DLot) : Par fin (impl_isLotK some x0) (impl_isLotK fin x0) := by
  unfold impl_isLotK
  repeat' (first | exact .fin | exact .none | refine .cond ?_ ?_ | refine .bind fun _ => ?_ | refine .sum (fun _ => ?_) fun _ => ?_)
def c24 : Callee := mkC [.agg [.ro TLot]] 1 [.one (.ro .bool)] fun x => impl_isLot x
theorem e24 (x : PK.dens [.agg [.ro TLot]]) : evalFn Tryd.prog EL24 or0 Tryd.f24 (PK.outs [.agg [.ro TLot]] x) =
    impl_isLotK (fun y => some (tupOf ((PK.outs [.one (.ro .bool)] y).take 1), (PK.outs [.one (.ro .bool)] y).drop 1)) x := by kernel_rfl
theorem k24 : CalleeOk Tryd.prog 24 c24 := callee_mk Tryd.func24 (code := codeOf Tryd.f24) (by kernel_rfl) vL24 mixed (LoOk.nil (by kernel_rfl)) fun x y h => (e24 x).trans (p24 _ x y h)

/-- impl.IsPile -/
def EL10 : Nat → Option Callee := addE 24 c24 env0
theorem vL10 : EnvOk Tryd.prog EL10 := EnvOk.nil.add Tryd.func24 rfl (by kernel_rfl) k24
def simpl_IsPile_l0 : LS := ⟨[(1, .one (.fix (.ptr 0 0))), (3, .one (.dat (.int .i64))), (31, .one (.dat (.slice TLot))), (32, .one (.dat (.int .i64))), (33, .one (.dat (.int .i64)))], [.box [.dat .bool, .dat (.int .i64), .dat (.slice TLot)]], []⟩
def simpl_IsPile_l0x0 : LS := ⟨[(2, .one (.dat .bool))], [], []⟩
def simpl_IsPile_l0x1 : LS := ⟨[(1, .one (.fix (.ptr 0 0))), (3, .one (.dat (.int .i64)))], [.box [.dat .bool, .dat (.int .i64), .dat (.slice TLot)]], []⟩
def ximpl_IsPile_l0 : List (XS ((List DLot) × Int × Bool × Int × (List DLot))) := [⟨.ret, ⟨[2], [], [], []⟩, simpl_IsPile_l0x0, Bool, fun i y => ((y, ()), ())⟩,
  ⟨.exit 0, ⟨[1, 3], [.slot 1], [], []⟩, simpl_IsPile_l0x1, Int, fun i y => (((), (y, ())), ((i.2.2.1, (i.2.2.2.1, (i.2.2.2.2, ()))), ()))⟩]
def impl_IsPile_l0K {R : Type} (a1 : List DLot) (a2 : Int) (rc : Int → Int → Option R) (fin : (Bool ⊕ Int) → Option R) (a0 : Int) (a3 : Int) : Option R :=
  cond (decide (a3 < a2))
  ((lat a1 a3).bind fun e1 =>
    (impl_isLot e1).bind fun y2 =>
    cond (!y2)
    (fin (.inl false))
    (rc (IntKind.i64.wrap (a0 + e1.1)) (IntKind.i64.wrap (a3 + 1))))
  (fin (.inr a0))
def impl_IsPile_l0F (a1 : List DLot) (a2 : Int) (r : (Int × Int) → Option (Bool ⊕ Int)) (x : Int × Int) : Option (Bool ⊕ Int) := impl_IsPile_l0K a1 a2 (fun a0 a3 => r (a0, a3)) some x.1 x.2
theorem impl_IsPile_l0c (a1 : List DLot) (a2 : Int) (x : Int × Int) : Ct fun r => impl_IsPile_l0F a1 a2 r x := by
  unfold impl_IsPile_l0F impl_IsPile_l0K
  repeat' (first | exact Ct.const | exact Ct.call | refine Ct.cond ?_ ?_ | refine Ct.bind ?_ fun _ => ?_ | refine Ct.sum (fun _ => ?_) fun _ => ?_)
def impl_IsPile_l0 (a1 : List DLot) (a2 : Int) (a0 : Int) (a3 : Int) : Option (Bool ⊕ Int) := lim (impl_IsPile_l0F a1 a2) (a0, a3)
theorem impl_IsPile_l0_eq (a1 : List DLot) (a2 : Int) (a0 : Int) (a3 : Int) : impl_IsPile_l0 a1 a2 a0 a3 = impl_IsPile_l0K a1 a2 (impl_IsPile_l0 a1 a2) some a0 a3 := lim_eq (impl_IsPile_l0c a1 a2) (a0, a3)
theorem impl_IsPile_l0p {R : Type} (a1 : List DLot) (a2 : Int) {rc : Int → Int → Option (Bool ⊕ Int)} {rc' : Int → Int → Option R} {fin : (Bool ⊕ Int) → Option R} (hr : ∀ a0 a3, Par fin (rc a0 a3) (rc' a0 a3)) (a0 : Int) (a3 : Int) : Par fin (impl_IsPile_l0K a1 a2 rc some a0 a3) (impl_IsPile_l0K a1 a2 rc' fin a0 a3) := by
  unfold impl_IsPile_l0K
  repeat' (first | exact .fin | exact .none | exact hr _ _ | refine .cond ?_ ?_ | refine .bind fun _ => ?_ | refine .sum (fun _ => ?_) fun _ => ?_)
def Limpl_IsPile_l0 : Loop := mkL ⟨[1, 3, 31, 32, 33], [.slot 1], [], []⟩ simpl_IsPile_l0 ximpl_IsPile_l0 (fun (x : (Unit × Int × (List DLot) × Int × Int × Unit) × ((Bool × Int × (List DLot) × Unit) × Unit)) => (x.1.2.2.1, (x.1.2.2.2.1, (x.2.1.1, (x.2.1.2.1, x.2.1.2.2.1))))) fun (x : (Unit × Int × (List DLot) × Int × Int × Unit) × ((Bool × Int × (List DLot) × Unit) × Unit)) => impl_IsPile_l0 x.1.2.2.1 x.1.2.2.2.1 x.1.2.1 x.1.2.2.2.2.1
def impl_IsPileK {R : Type} (fin : Bool → Option R) (x0 : DPile) : Option R :=
  cond (decide (x0.2.1 < 0))
  (fin false)
  (cond (decide (x0.2.1 > 10000000))
    (fin false)
    (cond (decide ((x0.2.2.1.length : Int) > 40))
      (fin false)
      (cond (x0.1)
        (cond (decide ((x0.2.2.1.length : Int) > 1))
          (fin false)
          ((impl_IsPile_l0 x0.2.2.1 (x0.2.2.1.length : Int) 0 0).bind fun y3 =>
            sumO y3 (fun y4 =>
            fin y4)
            (fun y5 =>
            fin (decide (y5 ≤ x0.2.1)))))
        ((impl_IsPile_l0 x0.2.2.1 (x0.2.2.1.length : Int) 0 0).bind fun y6 =>
          sumO y6 (fun y7 =>
          fin y7)
          (fun y8 =>
          fin (decide (y8 ≤ x0.2.1)))))))
def impl_IsPile (x0 : DPile) : Option (Bool) := impl_IsPileK some x0
theorem p10 {R : Type} (fin : Bool → Option R) (x0 : DPile) : Par fin (impl_IsPileK some x0) (impl_IsPileK fin x0) := by
  unfold impl_IsPileK
  repeat' (first | exact .fin | exact .none | refine .cond ?_ ?_ | refine .bind fun _ => ?_ | refine .sum (fun _ => ?_) fun _ => ?_)
def or10 : Ora := { lo := addL 5 (Limpl_IsPile_l0) lo0, fin := [] }
theorem impl_IsPile_l0e (a1 : List DLot) (a2 : Int) (a4 : Bool) (a5 : Int) (a6 : List DLot) (k : Nat) (a0 : Int) (a3 : Int) : loopC Tryd.prog EL10 or10 ((loopsIn (codeOf Tryd.f10)).getD 0 .skip) (Limpl_IsPile_l0).h (Limpl_IsPile_l0).ho Tryd.f10.ntmps (k + 1) (simpl_IsPile_l0.out (((), (a0, (a1, (a2, (a3, ()))))), ((a4, (a5, (a6, ()))), ()))) =
    impl_IsPile_l0K a1 a2 (fun a0 a3 => loopC Tryd.prog EL10 or10 ((loopsIn (codeOf Tryd.f10)).getD 0 .skip) (Limpl_IsPile_l0).h (Limpl_IsPile_l0).ho Tryd.f10.ntmps k (simpl_IsPile_l0.out (((), (a0, (a1, (a2, (a3, ()))))), ((a4, (a5, (a6, ()))), ())))) (fun y => some (XS.out ximpl_IsPile_l0 (a1, (a2, (a4, (a5, a6)))) y)) a0 a3 := by kernel_rfl
theorem impl_IsPile_l0o : LoopOk Tryd.prog EL10 or10 Tryd.f10.ntmps ((loopsIn (codeOf Tryd.f10)).getD 0 .skip) (Limpl_IsPile_l0) :=
  loop_lim (hs := simpl_IsPile_l0) (xs := ximpl_IsPile_l0) (ι := fun (x : (Unit × Int × (List DLot) × Int × Int × Unit) × ((Bool × Int × (List DLot) × Unit) × Unit)) => (x.1.2.2.1, (x.1.2.2.2.1, (x.2.1.1, (x.2.1.2.1, x.2.1.2.2.1))))) (φ := fun (x : (Unit × Int × (List DLot) × Int × Int × Unit) × ((Bool × Int × (List DLot) × Unit) × Unit)) => (x.1.2.1, x.1.2.2.2.2.1)) (ψ := fun (i : (List DLot) × Int × Bool × Int × (List DLot)) (v : Int × Int) => (((), (v.1, (i.1, (i.2.1, (v.2, ()))))), ((i.2.2.1, (i.2.2.2.1, (i.2.2.2.2, ()))), ()))) (F := fun (i : (List DLot) × Int × Bool × Int × (List DLot)) => impl_IsPile_l0F i.1 i.2.1) (fun _ => rfl) fun i k hk v => Par.of_eq (impl_IsPile_l0e i.1 i.2.1 i.2.2.1 i.2.2.2.1 i.2.2.2.2 k v.1 v.2) (impl_IsPile_l0p i.1 i.2.1 (fun a0 a3 => hk (a0, a3)) v.1 v.2)
def c10 : Callee := mkC [.agg [.ro TPile]] 1 [.one (.ro .bool)] fun x => impl_IsPile x
theorem e10 (x : PK.dens [.agg [.ro TPile]]) : evalFn Tryd.prog EL10 or10 Tryd.f10 (PK.outs [.agg [.ro TPile]] x) =
    impl_IsPileK (fun y => some (tupOf ((PK.outs [.one (.ro .bool)] y).take 1), (PK.outs [.one (.ro .bool)] y).drop 1)) x := by kernel_rfl
theorem o10 : LoOk Tryd.prog EL10 or10 Tryd.f10.ntmps (loopsIn (codeOf Tryd.f10)) :=
  LoOk.mk (m := 1) (by kernel_rfl) fun i hi => match i, hi with
    | 0, _ => ⟨Limpl_IsPile_l0, by kernel_rfl, impl_IsPile_l0o⟩
    | i + 1, hi => absurd hi (by omega)
theorem k10 : CalleeOk Tryd.prog 10 c10 := callee_mk Tryd.func10 (code := codeOf Tryd.f10) (by kernel_rfl) vL10 mixed o10 fun x y h => (e10 x).trans (p10 _ x y h)

/-- impl.copyPile -/
def EL23 : Nat → Option Callee := env0
theorem vL23 : EnvOk Tryd.prog EL23 := EnvOk.nil
def impl_copyPileK {R : Type} (fin : Bool × Int × (List DLot) → Option R) (x0 : DPile) : Option R :=
  cond (decide (([] : List DLot).length + x0.2.2.1.length ≤ 1099511627776))
  (fin (x0.1, (x0.2.1, ([] : List DLot) ++ x0.2.2.1)))
  (none)
def impl_copyPile (x0 : DPile) : Option (Bool × Int × (List DLot)) := impl_copyPileK some x0
theorem p23 {R : Type} (fin : Bool × Int × (List DLot) → Option R) (x0 : DPile) : Par fin (impl_copyPileK some x0) (impl_copyPileK fin x0) := by
  unfold impl_copyPileK
  repeat' (first | exact .fin | exact .none | refine .cond ?_ ?_ | refine .bind fun _ => ?_ | refine .sum (fun _ => ?_) fun _ => ?_)
def c23 : Callee := mkC [.agg [.ro TPile]] 1 [.agg [.ro .bool, .ro (.int .i64), .sl TLot]] fun x => impl_copyPile x
theorem e23 (x : PK.dens [.agg [.ro TPile]]) : evalFn Tryd.prog EL23 or0 Tryd.f23 (PK.outs [.agg [.ro TPile]] x) =
    impl_copyPileK (fun y => some (tupOf ((PK.outs [.agg [.ro .bool, .ro (.int .i64), .sl TLot]] y).take 1), (PK.outs [.agg [.ro .bool, .ro (.int .i64), .sl TLot]] y).drop 1)) x := by kernel_rfl
theorem k23 : CalleeOk Tryd.prog 23 c23 := callee_mk Tryd.func23 (code := codeOf Tryd.f23) (by kernel_rfl) vL23 mixed (LoOk.nil (by kernel_rfl)) fun x y h => (e23 x).trans (p23 _ x y h)

/-- impl.lotSum -/
def EL30 : Nat → Option Callee := env0
theorem vL30 : EnvOk Tryd.prog EL30 := EnvOk.nil
def simpl_lotSum_l0 : LS := ⟨[(2, .one (.fix (.ptr 0 0))), (3, .one (.fix (.ptr 1 0))), (7, .one (.dat (.slice TLot))), (8, .one (.dat (.int .i64))), (9, .one (.dat (.int .i64)))], [.box [.dat (.int .i64), .dat (.int .i64)], .box [.dat (.int .i64), .dat (.int .i64)]], []⟩
def simpl_lotSum_l0x0 : LS := ⟨[(2, .one (.fix (.ptr 0 0))), (3, .one (.fix (.ptr 1 0)))], [.box [.dat (.int .i64), .dat (.int .i64)], .box [.dat (.int .i64), .dat (.int .i64)]], []⟩
def ximpl_lotSum_l0 : List (XS ((List DLot) × Int × Int × Int)) := [⟨.exit 0, ⟨[2, 3], [.slot 2, .slot 3], [], []⟩, simpl_lotSum_l0x0, Int × Int, fun i y => (((), ((), ())), ((i.2.2.1, (i.2.2.2, ())), ((y.1, (y.2, ())), ())))⟩]
def impl_lotSum_l0K {R : Type} (a0 : List DLot) (a1 : Int) (rc : Int → Int → Int → Option R) (fin : Int × Int → Option R) (a2 : Int) (a5 : Int) (a6 : Int) : Option R :=
  cond (decide (a2 < a1))
  ((lat a0 a2).bind fun e1 =>
    rc (IntKind.i64.wrap (a2 + 1)) (IntKind.i64.wrap (a5 + e1.1)) (IntKind.i64.wrap (a6 + e1.2.1)))
  (fin (a5, a6))
def impl_lotSum_l0F (a0 : List DLot) (a1 : Int) (r : (Int × Int × Int) → Option (Int × Int)) (x : Int × Int × Int) : Option (Int × Int) := impl_lotSum_l0K a0 a1 (fun a2 a5 a6 => r (a2, (a5, a6))) some x.1 x.2.1 x.2.2
theorem impl_lotSum_l0c (a0 : List DLot) (a1 : Int) (x : Int × Int × Int) : Ct fun r => impl_lotSum_l0F a0 a1 r x := by
  unfold impl_lotSum_l0F impl_lotSum_l0K
  repeat' (first | exact Ct.const | exact Ct.call | refine Ct.cond ?_ ?_ | refine Ct.bind ?_ fun _ => ?_ | refine Ct.sum (fun _ => ?_) fun _ => ?_)
def impl_lotSum_l0 (a0 : List DLot) (a1 : Int) (a2 : Int) (a5 : Int) (a6 : Int) : Option (Int × Int) := lim (impl_lotSum_l0F a0 a1) (a2, (a5, a6))
theorem impl_lotSum_l0_eq (a0 : List DLot) (a1 : Int) (a2 : Int) (a5 : Int) (a6 : Int) : impl_lotSum_l0 a0 a1 a2 a5 a6 = impl_lotSum_l0K a0 a1 (impl_lotSum_l0 a0 a1) some a2 a5 a6 := lim_eq (impl_lotSum_l0c a0 a1) (a2, (a5, a6))
theorem impl_lotSum_l0p {R : Type} (a0 : List DLot) (a1 : Int) {rc : Int → Int → Int → Option (Int × Int)} {rc' : Int → Int → Int → Option R} {fin : Int × Int → Option R} (hr : ∀ a2 a5 a6, Par fin (rc a2 a5 a6) (rc' a2 a5 a6)) (a2 : Int) (a5 : Int) (a6 : Int) : Par fin (impl_lotSum_l0K a0 a1 rc some a2 a5 a6) (impl_lotSum_l0K a0 a1 rc' fin a2 a5 a6) := by
  unfold impl_lotSum_l0K
  repeat' (first | exact .fin | exact .none | exact hr _ _ _ | refine .cond ?_ ?_ | refine .bind fun _ => ?_ | refine .sum (fun _ => ?_) fun _ => ?_)
def Limpl_lotSum_l0 : Loop := mkL ⟨[2, 3, 7, 8, 9], [.slot 2, .slot 3], [], []⟩ simpl_lotSum_l0 ximpl_lotSum_l0 (fun (x : (Unit × Unit × (List DLot) × Int × Int × Unit) × ((Int × Int × Unit) × (Int × Int × Unit) × Unit)) => (x.1.2.2.1, (x.1.2.2.2.1, (x.2.1.1, x.2.1.2.1)))) fun (x : (Unit × Unit × (List DLot) × Int × Int × Unit) × ((Int × Int × Unit) × (Int × Int × Unit) × Unit)) => impl_lotSum_l0 x.1.2.2.1 x.1.2.2.2.1 x.1.2.2.2.2.1 x.2.2.1.1 x.2.2.1.2.1
def impl_lotSumK {R : Type} (fin : DLot → Option R) (x0 : List DLot) : Option R :=
  (impl_lotSum_l0 x0 (x0.length : Int) 0 0 0).bind fun y2 =>
  fin (y2.1, (y2.2, ()))
def impl_lotSum (x0 : List DLot) : Option (DLot) := impl_lotSumK some x0
theorem p30 {R : Type} (fin : DLot → Option R) (x0 : List DLot) : Par fin (impl_lotSumK some x0) (impl_lotSumK fin x0) := by
  unfold impl_lotSumK
  repeat' (first | exact .fin | exact .none | refine .cond ?_ ?_ | refine .bind fun _ => ?_ | refine .sum (fun _ => ?_) fun _ => ?_)
def or30 : Ora := { lo := addL 3 (Limpl_lotSum_l0) lo0, fin := [] }
theorem impl_lotSum_l0e (a0 : List DLot) (a1 : Int) (a3 : Int) (a4 : Int) (k : Nat) (a2 : Int) (a5 : Int) (a6 : Int) : loopC Tryd.prog EL30 or30 ((loopsIn (codeOf Tryd.f30)).getD 0 .skip) (Limpl_lotSum_l0).h (Limpl_lotSum_l0).ho Tryd.f30.ntmps (k + 1) (simpl_lotSum_l0.out (((), ((), (a0, (a1, (a2, ()))))), ((a3, (a4, ())), ((a5, (a6, ())), ())))) =
    impl_lotSum_l0K a0 a1 (fun a2 a5 a6 => loopC Tryd.prog EL30 or30 ((loopsIn (codeOf Tryd.f30)).getD 0 .skip) (Limpl_lotSum_l0).h (Limpl_lotSum_l0).ho Tryd.f30.ntmps k (simpl_lotSum_l0.out (((), ((), (a0, (a1, (a2, ()))))), ((a3, (a4, ())), ((a5, (a6, ())), ()))))) (fun y => some (XS.out ximpl_lotSum_l0 (a0, (a1, (a3, a4))) y)) a2 a5 a6 := by kernel_rfl
theorem impl_lotSum_l0o : LoopOk Tryd.prog EL30 or30 Tryd.f30.ntmps ((loopsIn (codeOf Tryd.f30)).getD 0 .skip) (Limpl_lotSum_l0) :=
  loop_lim (hs := simpl_lotSum_l0) (xs := ximpl_lotSum_l0) (ι := fun (x : (Unit × Unit × (List DLot) × Int × Int × Unit) × ((Int × Int × Unit) × (Int × Int × Unit) × Unit)) => (x.1.2.2.1, (x.1.2.2.2.1, (x.2.1.1, x.2.1.2.1)))) (φ := fun (x : (Unit × Unit × (List DLot) × Int × Int × Unit) × ((Int × Int × Unit) × (Int × Int × Unit) × Unit)) => (x.1.2.2.2.2.1, (x.2.2.1.1, x.2.2.1.2.1))) (ψ := fun (i : (List DLot) × Int × Int × Int) (v : Int × Int × Int) => (((), ((), (i.1, (i.2.1, (v.1, ()))))), ((i.2.2.1, (i.2.2.2, ())), ((v.2.1, (v.2.2, ())), ())))) (F := fun (i : (List DLot) × Int × Int × Int) => impl_lotSum_l0F i.1 i.2.1) (fun _ => rfl) fun i k hk v => Par.of_eq (impl_lotSum_l0e i.1 i.2.1 i.2.2.1 i.2.2.2 k v.1 v.2.1 v.2.2) (impl_lotSum_l0p i.1 i.2.1 (fun a2 a5 a6 => hk (a2, (a5, a6))) v.1 v.2.1 v.2.2)
def c30 : Callee := mkC [.one (.ro (.slice TLot))] 1 [.agg [.ro TLot]] fun x => impl_lotSum x
theorem e30 (x : PK.dens [.one (.ro (.slice TLot))]) : evalFn Tryd.prog EL30 or30 Tryd.f30 (PK.outs [.one (.ro (.slice TLot))] x) =
    impl_lotSumK (fun y => some (tupOf ((PK.outs [.agg [.ro TLot]] y).take 1), (PK.outs [.agg [.ro TLot]] y).drop 1)) x := by kernel_rfl
theorem o30 : LoOk Tryd.prog EL30 or30 Tryd.f30.ntmps (loopsIn (codeOf Tryd.f30)) :=
  LoOk.mk (m := 1) (by kernel_rfl) fun i hi => match i, hi with
    | 0, _ => ⟨Limpl_lotSum_l0, by kernel_rfl, impl_lotSum_l0o⟩
    | i + 1, hi => absurd hi (by omega)
theorem k30 : CalleeOk Tryd.prog 30 c30 := callee_mk Tryd.func30 (code := codeOf Tryd.f30) (by kernel_rfl) vL30 mixed o30 fun x y h => (e30 x).trans (p30 _ x y h)

/-- impl.putLot -/
def EL25 : Nat → Option Callee := addE 10 c10 (addE 30 c30 (addE 23 c23 env0))
theorem vL25 : EnvOk Tryd.prog EL25 := ((EnvOk.nil.add Tryd.func23 rfl (by kernel_rfl) k23).add Tryd.func30 rfl (by kernel_rfl) k30).add Tryd.func10 rfl (by kernel_rfl) k10
def impl_putLotK {R : Type} (fin : (Bool × Int × (List DLot)) × Bool → Option R) (x0 : DPile) (x1 : DLot) : Option R :=
  (impl_copyPile x0).bind fun y1 =>
  cond (y1.1)
  (cond (decide ((y1.2.2.length : Int) > 0))
    (cond (decide ((0 : Int) < (y1.2.2.length : Int)))
      ((impl_lotSum [((y1.2.2.getD (0 + 0) TLot.dflt).1, (((y1.2.2.getD (0 + 0) TLot.dflt).2).1, ())), x1]).bind fun y2 =>
        cond (decide ((0 : Int) < (y1.2.2.length : Int)))
        ((some (y1.2.2.set (0 + 0) y2)).bind fun v3 =>
          (impl_IsPile (y1.1, (y1.2.1, (v3, ())))).bind fun y4 =>
          cond (!y4)
          (fin ((false, (0, [])), false))
          (fin ((y1.1, (y1.2.1, v3)), true)))
        (none))
      (none))
    (cond (decide (y1.2.2.length + [x1].length ≤ 1099511627776))
      ((some (y1.2.2 ++ [x1])).bind fun v5 =>
        (impl_IsPile (y1.1, (y1.2.1, (v5, ())))).bind fun y6 =>
        cond (!y6)
        (fin ((false, (0, [])), false))
        (fin ((y1.1, (y1.2.1, v5)), true)))
      (none)))
  (cond (decide (y1.2.2.length + [x1].length ≤ 1099511627776))
    ((some (y1.2.2 ++ [x1])).bind fun v7 =>
      (impl_IsPile (y1.1, (y1.2.1, (v7, ())))).bind fun y8 =>
      cond (!y8)
      (fin ((false, (0, [])), false))
      (fin ((y1.1, (y1.2.1, v7)), true)))
    (none))
def impl_putLot (x0 : DPile) (x1 : DLot) : Option ((Bool × Int × (List DLot)) × Bool) := impl_putLotK some x0 x1
theorem p25 {R : Type} (fin : (Bool × Int × (List DLot)) × Bool → Option R) (x0 : DPile) (x1 : DLot) : Par fin (impl_putLotK some x0 x1) (impl_putLotK fin x0 x1) := by
  unfold impl_putLotK
  repeat' (first | exact .fin | exact .none | refine .cond ?_ ?_ | refine .bind fun _ => ?_ | refine .sum (fun _ => ?_) fun _ => ?_)
def or25 : Ora := { lo := lo0, fin := [.own (.cell 4 2) TLot] }
def c25 : Callee := mkC [.agg [.ro TPile], .agg [.ro TLot]] 2 [.agg [.ro .bool, .ro (.int .i64), .sl TLot], .one (.ro .bool)] fun x => impl_putLot x.1 x.2
theorem e25 (x : PK.dens [.agg [.ro TPile], .agg [.ro TLot]]) : evalFn Tryd.prog EL25 or25 Tryd.f25 (PK.outs [.agg [.ro TPile], .agg [.ro TLot]] x) =
    impl_putLotK (fun y => some (tupOf ((PK.outs [.agg [.ro .bool, .ro (.int .i64), .sl TLot], .one (.ro .bool)] y).take 2), (PK.outs [.agg [.ro .bool, .ro (.int .i64), .sl TLot], .one (.ro .bool)] y).drop 2)) x.1 x.2 := by kernel_rfl
theorem k25 : CalleeOk Tryd.prog 25 c25 := callee_mk Tryd.func25 (code := codeOf Tryd.f25) (by kernel_rfl) vL25 mixed (LoOk.nil (by kernel_rfl)) fun x y h => (e25 x).trans (p25 _ x.1 x.2 y h)

/-- impl.splitOff -/
def EL47 : Nat → Option Callee := env0
theorem vL47 : EnvOk Tryd.prog EL47 := EnvOk.nil
def impl_splitOffK {R : Type} (fin : DLot → Option R) (x0 : DLot) (x1 : Int) : Option R :=
  cond (decide (x0.1 = 0))
  (none)
  (fin (x1, (IntKind.i64.wrap ((IntKind.i64.wrap (x0.2.1 * x1)).tdiv x0.1), ())))
def impl_splitOff (x0 : DLot) (x1 : Int) : Option (DLot) := impl_splitOffK some x0 x1
theorem p47 {R : Type} (fin : DLot → Option R) (x0 : DLot) (x1 : Int) : Par fin (impl_splitOffK some x0 x1) (impl_splitOffK fin x0 x1) := by
  unfold impl_splitOffK
  repeat' (first | exact .fin | exact .none | refine .cond ?_ ?_ | refine .bind fun _ => ?_ | refine .sum (fun _ => ?_) fun _ => ?_)
def c47 : Callee := mkC [.agg [.ro TLot], .one (.ro (.int .i64))] 1 [.agg [.ro TLot]] fun x => impl_splitOff x.1 x.2
theorem e47 (x : PK.dens [.agg [.ro TLot], .one (.ro (.int .i64))]) : evalFn Tryd.prog EL47 or0 Tryd.f47 (PK.outs [.agg [.ro TLot], .one (.ro (.int .i64))] x) =
    impl_splitOffK (fun y => some (tupOf ((PK.outs [.agg [.ro TLot]] y).take 1), (PK.outs [.agg [.ro TLot]] y).drop 1)) x.1 x.2 := by kernel_rfl
theorem k47 : CalleeOk Tryd.prog 47 c47 := callee_mk Tryd.func47 (code := codeOf Tryd.f47) (by kernel_rfl) vL47 mixed (LoOk.nil (by kernel_rfl)) fun x y h => (e47 x).trans (p47 _ x.1 x.2 y h)

/-- impl.takeTonnes -/
def EL26 : Nat → Option Callee := addE 24 c24 (addE 47 c47 (addE 30 c30 env0))
theorem vL26 : EnvOk Tryd.prog EL26 := ((EnvOk.nil.add Tryd.func30 rfl (by kernel_rfl) k30).add Tryd.func47 rfl (by kernel_rfl) k47).add Tryd.func24 rfl (by kernel_rfl) k24
def simpl_takeTonnes_l0 : LS := ⟨[(1, .one (.dat (.int .i64))), (4, .one (.fix (.ptr 0 0))), (5, .one (.fix (.ptr 1 0))), (7, .one (.fix (.ptr 2 0))), (8, .one (.fix (.ptr 4 0))), (27, .one (.dat (.slice TLot))), (28, .one (.dat (.int .i64))), (29, .one (.dat (.int .i64)))], [.box [.dat .bool, .dat (.int .i64), .fix .nils], .box [.dat (.int .i64), .dat (.int .i64)], .box [.dat .bool, .dat (.int .i64), .fix (.sref 3)], .sl TLot, .box [.dat (.int .i64), .dat (.int .i64)]], []⟩
def simpl_takeTonnes_l0x0 : LS := ⟨[(4, .one (.fix (.ptr 0 0))), (5, .one (.fix (.ptr 1 0))), (7, .one (.fix (.ptr 2 0))), (8, .one (.fix (.ptr 4 0)))], [.box [.dat .bool, .dat (.int .i64), .fix .nils], .box [.dat (.int .i64), .dat (.int .i64)], .box [.dat .bool, .dat (.int .i64), .fix (.sref 3)], .sl TLot, .box [.dat (.int .i64), .dat (.int .i64)]], []⟩
def ximpl_takeTonnes_l0 : List (XS ((List DLot) × Int × Bool × Int × Int × Int × Bool × Int)) := [⟨.exit 0, ⟨[4, 5, 7, 8], [.slot 4, .slot 5, .slot 7, .cell 7 2, .slot 8], [], []⟩, simpl_takeTonnes_l0x0, (List DLot) × Int × Int, fun i y => (((), ((), ((), ((), ())))), ((i.2.2.1, (i.2.2.2.1, ((), ()))), ((i.2.2.2.2.1, (i.2.2.2.2.2.1, ())), ((i.2.2.2.2.2.2.1, (i.2.2.2.2.2.2.2, ((), ()))), (y.1, ((y.2.1, (y.2.2, ())), ()))))))⟩]
def impl_takeTonnes_l0K {R : Type} (a1 : List DLot) (a2 : Int) (rc : Int → Int → List DLot → Int → Int → Option R) (fin : (List DLot) × Int × Int → Option R) (a0 : Int) (a3 : Int) (a10 : List DLot) (a11 : Int) (a12 : Int) : Option R :=
  cond (decide (a3 < a2))
  ((lat a1 a3).bind fun e1 =>
    (impl_splitOff e1 (if a0 < e1.1 then a0 else e1.1)).bind fun y2 =>
    (impl_lotSum [(a11, (a12, ())), y2]).bind fun y3 =>
    cond (decide (y2.1 < e1.1))
    (cond (decide (a10.length + [(IntKind.i64.wrap (e1.1 - y2.1), (IntKind.i64.wrap (e1.2.1 - y2.2.1), ()))].length ≤ 1099511627776))
      ((some (a10 ++ [(IntKind.i64.wrap (e1.1 - y2.1), (IntKind.i64.wrap (e1.2.1 - y2.2.1), ()))])).bind fun v4 =>
        rc (IntKind.i64.wrap (a0 - y2.1)) (IntKind.i64.wrap (a3 + 1)) v4 y3.1 y3.2.1)
      (none))
    (rc (IntKind.i64.wrap (a0 - y2.1)) (IntKind.i64.wrap (a3 + 1)) a10 y3.1 y3.2.1))
  (fin (a10, (a11, a12)))
def impl_takeTonnes_l0F (a1 : List DLot) (a2 : Int) (r : (Int × Int × (List DLot) × Int × Int) → Option ((List DLot) × Int × Int)) (x : Int × Int × (List DLot) × Int × Int) : Option ((List DLot) × Int × Int) := impl_takeTonnes_l0K a1 a2 (fun a0 a3 a10 a11 a12 => r (a0, (a3, (a10, (a11, a12))))) some x.1 x.2.1 x.2.2.1 x.2.2.2.1 x.2.2.2.2
theorem impl_takeTonnes_l0c (a1 : List DLot) (a2 : Int) (x : Int × Int × (List DLot) × Int × Int) : Ct fun r => impl_takeTonnes_l0F a1 a2 r x := by
  unfold impl_takeTonnes_l0F impl_takeTonnes_l0K
  repeat' (first | exact Ct.const | exact Ct.call | refine Ct.cond ?_ ?_ | refine Ct.bind ?_ fun _ => ?_ | refine Ct.sum (fun _ => ?_) fun _ => ?_)
def impl_takeTonnes_l0 (a1 : List DLot) (a2 : Int) (a0 : Int) (a3 : Int) (a10 : List DLot) (a11 : Int) (a12 : Int) : Option ((List DLot) × Int × Int) := lim (impl_takeTonnes_l0F a1 a2) (a0, (a3, (a10, (a11, a12))))
theorem impl_takeTonnes_l0_eq (a1 : List DLot) (a2 : Int) (a0 : Int) (a3 : Int) (a10 : List DLot) (a11 : Int) (a12 : Int) : impl_takeTonnes_l0 a1 a2 a0 a3 a10 a11 a12 = impl_takeTonnes_l0K a1 a2 (impl_takeTonnes_l0 a1 a2) some a0 a3 a10 a11 a12 := lim_eq (impl_takeTonnes_l0c a1 a2) (a0, (a3, (a10, (a11, a12))))
theorem impl_takeTonnes_l0p {R : Type} (a1 : List DLot) (a2 : Int) {rc : Int → Int → List DLot → Int → Int → Option ((List DLot) × Int × Int)} {rc' : Int → Int → List DLot → Int → Int → Option R} {fin : (List DLot) × Int × Int → Option R} (hr : ∀ a0 a3 a10 a11 a12, Par fin (rc a0 a3 a10 a11 a12) (rc' a0 a3 a10 a11 a12)) (a0 : Int) (a3 : Int) (a10 : List DLot) (a11 : Int) (a12 : Int) : Par fin (impl_takeTonnes_l0K a1 a2 rc some a0 a3 a10 a11 a12) (impl_takeTonnes_l0K a1 a2 rc' fin a0 a3 a10 a11 a12) := by
  unfold impl_takeTonnes_l0K
  repeat' (first | exact .fin | exact .none | exact hr _ _ _ _ _ | refine .cond ?_ ?_ | refine .bind fun _ => ?_ | refine .sum (fun _ => ?_) fun _ => ?_)
def Limpl_takeTonnes_l0 : Loop := mkL ⟨[1, 4, 5, 7, 8, 27, 28, 29], [.slot 4, .slot 5, .slot 7, .cell 7 2, .slot 8], [], [.own (.cell 7 2) TLot]⟩ simpl_takeTonnes_l0 ximpl_takeTonnes_l0 (fun (x : (Int × Unit × Unit × Unit × Unit × (List DLot) × Int × Int × Unit) × ((Bool × Int × Unit × Unit) × (Int × Int × Unit) × (Bool × Int × Unit × Unit) × (List DLot) × (Int × Int × Unit) × Unit)) => (x.1.2.2.2.2.2.1, (x.1.2.2.2.2.2.2.1, (x.2.1.1, (x.2.1.2.1, (x.2.2.1.1, (x.2.2.1.2.1, (x.2.2.2.1.1, x.2.2.2.1.2.1)))))))) fun (x : (Int × Unit × Unit × Unit × Unit × (List DLot) × Int × Int × Unit) × ((Bool × Int × Unit × Unit) × (Int × Int × Unit) × (Bool × Int × Unit × Unit) × (List DLot) × (Int × Int × Unit) × Unit)) => impl_takeTonnes_l0 x.1.2.2.2.2.2.1 x.1.2.2.2.2.2.2.1 x.1.1 x.1.2.2.2.2.2.2.2.1 x.2.2.2.2.1 x.2.2.2.2.2.1.1 x.2.2.2.2.2.1.2.1
def impl_takeTonnesK {R : Type} (fin : (Bool × Int × (List DLot)) × DLot × Bool → Option R) (x0 : DPile) (x1 : Int) : Option R :=
  (impl_lotSum x0.2.2.1).bind fun y1 =>
  cond (decide (y1.1 < x1))
  (fin ((false, (0, [])), ((0, (0, ())), false)))
  ((impl_takeTonnes_l0 x0.2.2.1 (x0.2.2.1.length : Int) x1 0 [] 0 0).bind fun y10 =>
    (impl_isLot (y10.2.1, (y10.2.2, ()))).bind fun y11 =>
    cond (!y11)
    (fin ((false, (0, [])), ((0, (0, ())), false)))
    (fin ((x0.1, (x0.2.1, y10.1)), ((y10.2.1, (y10.2.2, ())), true))))
def impl_takeTonnes (x0 : DPile) (x1 : Int) : Option ((Bool × Int × (List DLot)) × DLot × Bool) := impl_takeTonnesK some x0 x1
theorem p26 {R : Type} (fin : (Bool × Int × (List DLot)) × DLot × Bool → Option R) (x0 : DPile) (x1 : Int) : Par fin (impl_takeTonnesK some x0 x1) (impl_takeTonnesK fin x0 x1) := by
  unfold impl_takeTonnesK
  repeat' (first | exact .fin | exact .none | refine .cond ?_ ?_ | refine .bind fun _ => ?_ | refine .sum (fun _ => ?_) fun _ => ?_)
def or26 : Ora := { lo := addL 6 (Limpl_takeTonnes_l0) lo0, fin := [.own (.cell 4 2) TLot] }
theorem impl_takeTonnes_l0e (a1 : List DLot) (a2 : Int) (a4 : Bool) (a5 : Int) (a6 : Int) (a7 : Int) (a8 : Bool) (a9 : Int) (k : Nat) (a0 : Int) (a3 : Int) (a10 : List DLot) (a11 : Int) (a12 : Int) : loopC Tryd.prog EL26 or26 ((loopsIn (codeOf Tryd.f26)).getD 0 .skip) (Limpl_takeTonnes_l0).h (Limpl_takeTonnes_l0).ho Tryd.f26.ntmps (k + 1) (simpl_takeTonnes_l0.out ((a0, ((), ((), ((), ((), (a1, (a2, (a3, ())))))))), ((a4, (a5, ((), ()))), ((a6, (a7, ())), ((a8, (a9, ((), ()))), (a10, ((a11, (a12, ())), ()))))))) =
    impl_takeTonnes_l0K a1 a2 (fun a0 a3 a10 a11 a12 => loopC Tryd.prog EL26 or26 ((loopsIn (codeOf Tryd.f26)).getD 0 .skip) (Limpl_takeTonnes_l0).h (Limpl_takeTonnes_l0).ho Tryd.f26.ntmps k (simpl_takeTonnes_l0.out ((a0, ((), ((), ((), ((), (a1, (a2, (a3, ())))))))), ((a4, (a5, ((), ()))), ((a6, (a7, ())), ((a8, (a9, ((), ()))), (a10, ((a11, (a12, ())), ())))))))) (fun y => some (XS.out ximpl_takeTonnes_l0 (a1, (a2, (a4, (a5, (a6, (a7, (a8, a9))))))) y)) a0 a3 a10 a11 a12 := by kernel_rfl
theorem impl_takeTonnes_l0o : LoopOk Tryd.prog EL26 or26 Tryd.f26.ntmps ((loopsIn (codeOf Tryd.f26)).getD 0 .skip) (Limpl_takeTonnes_l0) :=
  loop_lim (hs := simpl_takeTonnes_l0) (xs := ximpl_takeTonnes_l0) (ι := fun (x : (Int × Unit × Unit × Unit × Unit × (List DLot) × Int × Int × Unit) × ((Bool × Int × Unit × Unit) × (Int × Int × Unit) × (Bool × Int × Unit × Unit) × (List DLot) × (Int × Int × Unit) × Unit)) => (x.1.2.2.2.2.2.1, (x.1.2.2.2.2.2.2.1, (x.2.1.1, (x.2.1.2.1, (x.2.2.1.1, (x.2.2.1.2.1, (x.2.2.2.1.1, x.2.2.2.1.2.1)))))))) (φ := fun (x : (Int × Unit × Unit × Unit × Unit × (List DLot) × Int × Int × Unit) × ((Bool × Int × Unit × Unit) × (Int × Int × Unit) × (Bool × Int × Unit × Unit) × (List DLot) × (Int × Int × Unit) × Unit)) => (x.1.1, (x.1.2.2.2.2.2.2.2.1, (x.2.2.2.2.1, (x.2.2.2.2.2.1.1, x.2.2.2.2.2.1.2.1))))) (ψ := fun (i : (List DLot) × Int × Bool × Int × Int × Int × Bool × Int) (v : Int × Int × (List DLot) × Int × Int) => ((v.1, ((), ((), ((), ((), (i.1, (i.2.1, (v.2.1, ())))))))), ((i.2.2.1, (i.2.2.2.1, ((), ()))), ((i.2.2.2.2.1, (i.2.2.2.2.2.1, ())), ((i.2.2.2.2.2.2.1, (i.2.2.2.2.2.2.2, ((), ()))), (v.2.2.1, ((v.2.2.2.1, (v.2.2.2.2, ())), ()))))))) (F := fun (i : (List DLot) × Int × Bool × Int × Int × Int × Bool × Int) => impl_takeTonnes_l0F i.1 i.2.1) (fun _ => rfl) fun i k hk v => Par.of_eq (impl_takeTonnes_l0e i.1 i.2.1 i.2.2.1 i.2.2.2.1 i.2.2.2.2.1 i.2.2.2.2.2.1 i.2.2.2.2.2.2.1 i.2.2.2.2.2.2.2 k v.1 v.2.1 v.2.2.1 v.2.2.2.1 v.2.2.2.2) (impl_takeTonnes_l0p i.1 i.2.1 (fun a0 a3 a10 a11 a12 => hk (a0, (a3, (a10, (a11, a12))))) v.1 v.2.1 v.2.2.1 v.2.2.2.1 v.2.2.2.2)
def c26 : Callee := mkC [.agg [.ro TPile], .one (.ro (.int .i64))] 3 [.agg [.ro .bool, .ro (.int .i64), .sl TLot], .agg [.ro TLot], .one (.ro .bool)] fun x => impl_takeTonnes x.1 x.2
theorem e26 (x : PK.dens [.agg [.ro TPile], .one (.ro (.int .i64))]) : evalFn Tryd.prog EL26 or26 Tryd.f26 (PK.outs [.agg [.ro TPile], .one (.ro (.int .i64))] x) =
    impl_takeTonnesK (fun y => some (tupOf ((PK.outs [.agg [.ro .bool, .ro (.int .i64), .sl TLot], .agg [.ro TLot], .one (.ro .bool)] y).take 3), (PK.outs [.agg [.ro .bool, .ro (.int .i64), .sl TLot], .agg [.ro TLot], .one (.ro .bool)] y).drop 3)) x.1 x.2 := by kernel_rfl
theorem o26 : LoOk Tryd.prog EL26 or26 Tryd.f26.ntmps (loopsIn (codeOf Tryd.f26)) :=
  LoOk.mk (m := 1) (by kernel_rfl) fun i hi => match i, hi with
    | 0, _ => ⟨Limpl_takeTonnes_l0, by kernel_rfl, impl_takeTonnes_l0o⟩
    | i + 1, hi => absurd hi (by omega)
theorem k26 : CalleeOk Tryd.prog 26 c26 := callee_mk Tryd.func26 (code := codeOf Tryd.f26) (by kernel_rfl) vL26 mixed o26 fun x y h => (e26 x).trans (p26 _ x.1 x.2 y h)

/-- impl.RunPile -/
def EL6 : Nat → Option Callee := addE 26 c26 (addE 25 c25 (addE 24 c24 (addE 23 c23 (addE 10 c10 env0))))
theorem vL6 : EnvOk Tryd.prog EL6 := ((((EnvOk.nil.add Tryd.func10 rfl (by kernel_rfl) k10).add Tryd.func23 rfl (by kernel_rfl) k23).add Tryd.func24 rfl (by kernel_rfl) k24).add Tryd.func25 rfl (by kernel_rfl) k25).add Tryd.func26 rfl (by kernel_rfl) k26
def simpl_RunPile_l0 : LS := ⟨[(1, .one (.dat (.slice TStir))), (4, .one (.fix (.ptr 0 0))), (8, .one (.fix (.ptr 1 0))), (9, .one (.fix (.sref 3))), (27, .one (.dat (.slice TStir))), (28, .one (.dat (.int .i64))), (29, .one (.dat (.int .i64)))], [.box [.dat .bool, .dat (.int .i64), .fix .nils], .box [.dat .bool, .dat (.int .i64), .fix (.sref 2)], .sl TLot, .sl TLot], []⟩
def simpl_RunPile_l0x0 : LS := ⟨[(4, .one (.fix (.ptr 0 0))), (5, .one (.fix (.sref 2))), (6, .one (.dat (.int .i64))), (7, .one (.dat .bool))], [.box [.dat .bool, .dat (.int .i64), .fix (.sref 1)], .sl TLot, .sl TLot], []⟩
def simpl_RunPile_l0x1 : LS := ⟨[(1, .one (.dat (.slice TStir))), (4, .one (.fix (.ptr 0 0))), (8, .one (.fix (.ptr 1 0))), (9, .one (.fix (.sref 3)))], [.box [.dat .bool, .dat (.int .i64), .fix .nils], .box [.dat .bool, .dat (.int .i64), .fix (.sref 2)], .sl TLot, .sl TLot], []⟩
def ximpl_RunPile_l0 : List (XS ((List DStir) × (List DStir) × Int × Bool × Int)) := [⟨.ret, ⟨[4, 5, 6, 7], [.slot 4, .cell 4 2, .slot 5], [], []⟩, simpl_RunPile_l0x0, Int × Bool × Bool × Int × (List DLot) × (List DLot), fun i y => (((), ((), (y.1, (y.2.1, ())))), ((y.2.2.1, (y.2.2.2.1, ((), ()))), (y.2.2.2.2.1, (y.2.2.2.2.2, ()))))⟩,
  ⟨.exit 0, ⟨[1, 4, 8, 9], [.slot 4, .slot 8, .cell 8 2, .slot 9], [], []⟩, simpl_RunPile_l0x1, Bool × Int × (List DLot) × (List DLot), fun i y => ((i.1, ((), ((), ((), ())))), ((i.2.2.2.1, (i.2.2.2.2, ((), ()))), ((y.1, (y.2.1, ((), ()))), (y.2.2.1, (y.2.2.2, ())))))⟩]
def impl_RunPile_l0K {R : Type} (a1 : List DStir) (a2 : Int) (rc : Int → Bool → Int → List DLot → List DLot → Option R) (fin : ((Int × Bool × Bool × Int × (List DLot) × (List DLot)) ⊕ (Bool × Int × (List DLot) × (List DLot))) → Option R) (a3 : Int) (a6 : Bool) (a7 : Int) (a8 : List DLot) (a9 : List DLot) : Option R :=
  cond (decide (a3 < a2))
  ((lat a1 a3).bind fun e1 =>
    cond (e1.1)
    ((impl_isLot e1.2).bind fun y2 =>
      cond (y2)
      ((impl_putLot (a6, (a7, (a8, ()))) e1.2).bind fun y3 =>
        cond (!y3.2)
        (fin (.inl (a3, (true, (a6, (a7, (a8, a9)))))))
        (cond (!e1.1)
          (cond (decide (a9.length + [e1.2].length ≤ 1099511627776))
            ((some (a9 ++ [e1.2])).bind fun v4 =>
              rc (IntKind.i64.wrap (a3 + 1)) y3.1.1 y3.1.2.1 y3.1.2.2 v4)
            (none))
          (rc (IntKind.i64.wrap (a3 + 1)) y3.1.1 y3.1.2.1 y3.1.2.2 a9)))
      (fin (.inl (a3, (true, (a6, (a7, (a8, a9))))))))
    (cond (decide (e1.2.1 ≥ 1))
      (cond (e1.2.2.1 == 0)
        ((impl_takeTonnes (a6, (a7, (a8, ()))) e1.2.1).bind fun y5 =>
          cond (!y5.2.2)
          (fin (.inl (a3, (true, (a6, (a7, (a8, a9)))))))
          (cond (!e1.1)
            (cond (decide (a9.length + [y5.2.1].length ≤ 1099511627776))
              ((some (a9 ++ [y5.2.1])).bind fun v6 =>
                rc (IntKind.i64.wrap (a3 + 1)) y5.1.1 y5.1.2.1 y5.1.2.2 v6)
              (none))
            (rc (IntKind.i64.wrap (a3 + 1)) y5.1.1 y5.1.2.1 y5.1.2.2 a9)))
        (fin (.inl (a3, (true, (a6, (a7, (a8, a9))))))))
      (fin (.inl (a3, (true, (a6, (a7, (a8, a9)))))))))
  (fin (.inr (a6, (a7, (a8, a9)))))
def impl_RunPile_l0F (a1 : List DStir) (a2 : Int) (r : (Int × Bool × Int × (List DLot) × (List DLot)) → Option ((Int × Bool × Bool × Int × (List DLot) × (List DLot)) ⊕ (Bool × Int × (List DLot) × (List DLot)))) (x : Int × Bool × Int × (List DLot) × (List DLot)) : Option ((Int × Bool × Bool × Int × (List DLot) × (List DLot)) ⊕ (Bool × Int × (List DLot) × (List DLot))) := impl_RunPile_l0K a1 a2 (fun a3 a6 a7 a8 a9 => r (a3, (a6, (a7, (a8, a9))))) some x.1 x.2.1 x.2.2.1 x.2.2.2.1 x.2.2.2.2
theorem impl_RunPile_l0c (a1 : List DStir) (a2 : Int) (x : Int × Bool × Int × (List DLot) × (List DLot)) : Ct fun r => impl_RunPile_l0F a1 a2 r x := by
  unfold impl_RunPile_l0F impl_RunPile_l0K
  repeat' (first | exact Ct.const | exact Ct.call | refine Ct.cond ?_ ?_ | refine Ct.bind ?_ fun _ => ?_ | refine Ct.sum (fun _ => ?_) fun _ => ?_)
def impl_RunPile_l0 (a1 : List DStir) (a2 : Int) (a3 : Int) (a6 : Bool) (a7 : Int) (a8 : List DLot) (a9 : List DLot) : Option ((Int × Bool × Bool × Int × (List DLot) × (List DLot)) ⊕ (Bool × Int × (List DLot) × (List DLot))) := lim (impl_RunPile_l0F a1 a2) (a3, (a6, (a7, (a8, a9))))
theorem impl_RunPile_l0_eq (a1 : List DStir) (a2 : Int) (a3 : Int) (a6 : Bool) (a7 : Int) (a8 : List DLot) (a9 : List DLot) : impl_RunPile_l0 a1 a2 a3 a6 a7 a8 a9 = impl_RunPile_l0K a1 a2 (impl_RunPile_l0 a1 a2) some a3 a6 a7 a8 a9 := lim_eq (impl_RunPile_l0c a1 a2) (a3, (a6, (a7, (a8, a9))))
theorem impl_RunPile_l0p {R : Type} (a1 : List DStir) (a2 : Int) {rc : Int → Bool → Int → List DLot → List DLot → Option ((Int × Bool × Bool × Int × (List DLot) × (List DLot)) ⊕ (Bool × Int × (List DLot) × (List DLot)))} {rc' : Int → Bool → Int → List DLot → List DLot → Option R} {fin : ((Int × Bool × Bool × Int × (List DLot) × (List DLot)) ⊕ (Bool × Int × (List DLot) × (List DLot))) → Option R} (hr : ∀ a3 a6 a7 a8 a9, Par fin (rc a3 a6 a7 a8 a9) (rc' a3 a6 a7 a8 a9)) (a3 : Int) (a6 : Bool) (a7 : Int) (a8 : List DLot) (a9 : List DLot) : Par fin (impl_RunPile_l0K a1 a2 rc some a3 a6 a7 a8 a9) (impl_RunPile_l0K a1 a2 rc' fin a3 a6 a7 a8 a9) := by
  unfold impl_RunPile_l0K
  repeat' (first | exact .fin | exact .none | exact hr _ _ _ _ _ | refine .cond ?_ ?_ | refine .bind fun _ => ?_ | refine .sum (fun _ => ?_) fun _ => ?_)
def Limpl_RunPile_l0 : Loop := mkL ⟨[1, 4, 8, 9, 27, 28, 29], [.slot 4, .slot 8, .cell 8 2, .slot 9], [], []⟩ simpl_RunPile_l0 ximpl_RunPile_l0 (fun (x : ((List DStir) × Unit × Unit × Unit × (List DStir) × Int × Int × Unit) × ((Bool × Int × Unit × Unit) × (Bool × Int × Unit × Unit) × (List DLot) × (List DLot) × Unit)) => (x.1.1, (x.1.2.2.2.2.1, (x.1.2.2.2.2.2.1, (x.2.1.1, x.2.1.2.1))))) fun (x : ((List DStir) × Unit × Unit × Unit × (List DStir) × Int × Int × Unit) × ((Bool × Int × Unit × Unit) × (Bool × Int × Unit × Unit) × (List DLot) × (List DLot) × Unit)) => impl_RunPile_l0 x.1.2.2.2.2.1 x.1.2.2.2.2.2.1 x.1.2.2.2.2.2.2.1 x.2.2.1.1 x.2.2.1.2.1 x.2.2.2.1 x.2.2.2.2.1
def impl_RunPileK {R : Type} (fin : (Bool × Int × (List DLot)) × (List DLot) × Int × Bool → Option R) (x0 : DPile) (x1 : List DStir) : Option R :=
  (impl_IsPile x0).bind fun y1 =>
  cond (!y1)
  (fin ((false, (0, [])), ([], (0, false))))
  (cond (decide ((x1.length : Int) > 60))
    (fin ((false, (0, [])), ([], (0, false))))
    ((impl_copyPile x0).bind fun y2 =>
      (impl_RunPile_l0 x1 (x1.length : Int) 0 y2.1 y2.2.1 y2.2.2 []).bind fun y9 =>
      sumO y9 (fun y10 =>
      fin ((y10.2.2.1, (y10.2.2.2.1, y10.2.2.2.2.1)), (y10.2.2.2.2.2, (y10.1, y10.2.1))))
      (fun y11 =>
      fin ((y11.1, (y11.2.1, y11.2.2.1)), (y11.2.2.2, ((x1.length : Int), true))))))
def impl_RunPile (x0 : DPile) (x1 : List DStir) : Option ((Bool × Int × (List DLot)) × (List DLot) × Int × Bool) := impl_RunPileK some x0 x1
theorem p6 {R : Type} (fin : (Bool × Int × (List DLot)) × (List DLot) × Int × Bool → Option R) (x0 : DPile) (x1 : List DStir) : Par fin (impl_RunPileK some x0 x1) (impl_RunPileK fin x0 x1) := by
  unfold impl_RunPileK
  repeat' (first | exact .fin | exact .none | refine .cond ?_ ?_ | refine .bind fun _ => ?_ | refine .sum (fun _ => ?_) fun _ => ?_)
def or6 : Ora := { lo := addL 6 (Limpl_RunPile_l0) lo0, fin := [.own (.cell 4 2) TLot, .own (.slot 5) TLot] }
theorem impl_RunPile_l0e (a0 : List DStir) (a1 : List DStir) (a2 : Int) (a4 : Bool) (a5 : Int) (k : Nat) (a3 : Int) (a6 : Bool) (a7 : Int) (a8 : List DLot) (a9 : List DLot) : loopC Tryd.prog EL6 or6 ((loopsIn (codeOf Tryd.f6)).getD 0 .skip) (Limpl_RunPile_l0).h (Limpl_RunPile_l0).ho Tryd.f6.ntmps (k + 1) (simpl_RunPile_l0.out ((a0, ((), ((), ((), (a1, (a2, (a3, ()))))))), ((a4, (a5, ((), ()))), ((a6, (a7, ((), ()))), (a8, (a9, ())))))) =
    impl_RunPile_l0K a1 a2 (fun a3 a6 a7 a8 a9 => loopC Tryd.prog EL6 or6 ((loopsIn (codeOf Tryd.f6)).getD 0 .skip) (Limpl_RunPile_l0).h (Limpl_RunPile_l0).ho Tryd.f6.ntmps k (simpl_RunPile_l0.out ((a0, ((), ((), ((), (a1, (a2, (a3, ()))))))), ((a4, (a5, ((), ()))), ((a6, (a7, ((), ()))), (a8, (a9, ()))))))) (fun y => some (XS.out ximpl_RunPile_l0 (a0, (a1, (a2, (a4, a5)))) y)) a3 a6 a7 a8 a9 := by kernel_rfl
theorem impl_RunPile_l0o : LoopOk Tryd.prog EL6 or6 Tryd.f6.ntmps ((loopsIn (codeOf Tryd.f6)).getD 0 .skip) (Limpl_RunPile_l0) :=
  loop_lim (hs := simpl_RunPile_l0) (xs := ximpl_RunPile_l0) (ι := fun (x : ((List DStir) × Unit × Unit × Unit × (List DStir) × Int × Int × Unit) × ((Bool × Int × Unit × Unit) × (Bool × Int × Unit × Unit) × (List DLot) × (List DLot) × Unit)) => (x.1.1, (x.1.2.2.2.2.1, (x.1.2.2.2.2.2.1, (x.2.1.1, x.2.1.2.1))))) (φ := fun (x : ((List DStir) × Unit × Unit × Unit × (List DStir) × Int × Int × Unit) × ((Bool × Int × Unit × Unit) × (Bool × Int × Unit × Unit) × (List DLot) × (List DLot) × Unit)) => (x.1.2.2.2.2.2.2.1, (x.2.2.1.1, (x.2.2.1.2.1, (x.2.2.2.1, x.2.2.2.2.1))))) (ψ := fun (i : (List DStir) × (List DStir) × Int × Bool × Int) (v : Int × Bool × Int × (List DLot) × (List DLot)) => ((i.1, ((), ((), ((), (i.2.1, (i.2.2.1, (v.1, ()))))))), ((i.2.2.2.1, (i.2.2.2.2, ((), ()))), ((v.2.1, (v.2.2.1, ((), ()))), (v.2.2.2.1, (v.2.2.2.2, ())))))) (F := fun (i : (List DStir) × (List DStir) × Int × Bool × Int) => impl_RunPile_l0F i.2.1 i.2.2.1) (fun _ => rfl) fun i k hk v => Par.of_eq (impl_RunPile_l0e i.1 i.2.1 i.2.2.1 i.2.2.2.1 i.2.2.2.2 k v.1 v.2.1 v.2.2.1 v.2.2.2.1 v.2.2.2.2) (impl_RunPile_l0p i.2.1 i.2.2.1 (fun a3 a6 a7 a8 a9 => hk (a3, (a6, (a7, (a8, a9))))) v.1 v.2.1 v.2.2.1 v.2.2.2.1 v.2.2.2.2)
def c6 : Callee := mkC [.agg [.ro TPile], .one (.ro (.slice TStir))] 4 [.agg [.ro .bool, .ro (.int .i64), .sl TLot], .one (.sl TLot), .one (.ro (.int .i64)), .one (.ro .bool)] fun x => impl_RunPile x.1 x.2
theorem e6 (x : PK.dens [.agg [.ro TPile], .one (.ro (.slice TStir))]) : evalFn Tryd.prog EL6 or6 Tryd.f6 (PK.outs [.agg [.ro TPile], .one (.ro (.slice TStir))] x) =
    impl_RunPileK (fun y => some (tupOf ((PK.outs [.agg [.ro .bool, .ro (.int .i64), .sl TLot], .one (.sl TLot), .one (.ro (.int .i64)), .one (.ro .bool)] y).take 4), (PK.outs [.agg [.ro .bool, .ro (.int .i64), .sl TLot], .one (.sl TLot), .one (.ro (.int .i64)), .one (.ro .bool)] y).drop 4)) x.1 x.2 := by kernel_rfl
theorem o6 : LoOk Tryd.prog EL6 or6 Tryd.f6.ntmps (loopsIn (codeOf Tryd.f6)) :=
  LoOk.mk (m := 1) (by kernel_rfl) fun i hi => match i, hi with
    | 0, _ => ⟨Limpl_RunPile_l0, by kernel_rfl, impl_RunPile_l0o⟩
    | i + 1, hi => absurd hi (by omega)
theorem k6 : CalleeOk Tryd.prog 6 c6 := callee_mk Tryd.func6 (code := codeOf Tryd.f6) (by kernel_rfl) vL6 mixed o6 fun x y h => (e6 x).trans (p6 _ x.1 x.2 y h)

/-- spec.spSplit -/
def EL59 : Nat → Option Callee := env0
theorem vL59 : EnvOk Tryd.prog EL59 := EnvOk.nil
def spec_spSplitK {R : Type} (fin : DLot × DLot → Option R) (x0 : DLot) (x1 : Int) : Option R :=
  cond (decide (x0.1 = 0))
  (none)
  ((some (IntKind.i64.wrap (x0.2.1 - (IntKind.i64.wrap ((IntKind.i64.wrap (x0.2.1 * x1)).tdiv x0.1))))).bind fun v1 =>
    fin ((x1, (IntKind.i64.wrap ((IntKind.i64.wrap (x0.2.1 * x1)).tdiv x0.1), ())), (IntKind.i64.wrap (x0.1 - x1), (v1, ()))))
def spec_spSplit (x0 : DLot) (x1 : Int) : Option (DLot × DLot) := spec_spSplitK some x0 x1
theorem p59 {R : Type} (fin : DLot × DLot → Option R) (x0 : DLot) (x1 : Int) : Par fin (spec_spSplitK some x0 x1) (spec_spSplitK fin x0 x1) := by
  unfold spec_spSplitK
  repeat' (first | exact .fin | exact .none | refine .cond ?_ ?_ | refine .bind fun _ => ?_ | refine .sum (fun _ => ?_) fun _ => ?_)
def c59 : Callee := mkC [.agg [.ro TLot], .one (.ro (.int .i64))] 2 [.agg [.ro TLot], .agg [.ro TLot]] fun x => spec_spSplit x.1 x.2
theorem e59 (x : PK.dens [.agg [.ro TLot], .one (.ro (.int .i64))]) : evalFn Tryd.prog EL59 or0 Tryd.f59 (PK.outs [.agg [.ro TLot], .one (.ro (.int .i64))] x) =
    spec_spSplitK (fun y => some (tupOf ((PK.outs [.agg [.ro TLot], .agg [.ro TLot]] y).take 2), (PK.outs [.agg [.ro TLot], .agg [.ro TLot]] y).drop 2)) x.1 x.2 := by kernel_rfl
theorem k59 : CalleeOk Tryd.prog 59 c59 := callee_mk Tryd.func59 (code := codeOf Tryd.f59) (by kernel_rfl) vL59 mixed (LoOk.nil (by kernel_rfl)) fun x y h => (e59 x).trans (p59 _ x.1 x.2 y h)

/-- spec.spTake -/
def EL49 : Nat → Option Callee := addE 27 c27 (addE 43 c43 (addE 28 c28 (addE 59 c59 (addE 44 c44 env0))))
theorem vL49 : EnvOk Tryd.prog EL49 := ((((EnvOk.nil.add Tryd.func44 rfl (by kernel_rfl) k44).add Tryd.func59 rfl (by kernel_rfl) k59).add Tryd.func28 rfl (by kernel_rfl) k28).add Tryd.func43 rfl (by kernel_rfl) k43).add Tryd.func27 rfl (by kernel_rfl) k27
def sspec_spTake_l0 : LS := ⟨[(1, .one (.dat (.int .i64))), (2, .one (.fix (.ptr 0 0))), (4, .one (.fix (.ptr 1 0))), (5, .one (.fix (.ptr 2 0))), (9, .one (.fix (.ptr 3 0))), (10, .one (.win 4))], [.box [.dat .bool, .dat (.int .i64), .dat (.slice TLot)], .box [.dat .bool, .dat (.int .i64), .fix .nils], .box [.dat (.int .i64), .dat (.int .i64)], .box [.dat (.int .i64), .dat (.int .i64)], .sl TLot], []⟩
def sspec_spTake_l0x0 : LS := ⟨[(2, .one (.fix (.ptr 0 0))), (4, .one (.fix (.ptr 1 0))), (5, .one (.fix (.ptr 2 0))), (9, .one (.fix (.ptr 3 0))), (10, .one (.win 4))], [.box [.dat .bool, .dat (.int .i64), .dat (.slice TLot)], .box [.dat .bool, .dat (.int .i64), .fix .nils], .box [.dat (.int .i64), .dat (.int .i64)], .box [.dat (.int .i64), .dat (.int .i64)], .sl TLot], []⟩
def xspec_spTake_l0 : List (XS (Int × Bool × Int × (List DLot) × Bool × Int × Int × Int)) := [⟨.exit 0, ⟨[2, 4, 5, 9, 10], [.slot 2, .slot 4, .slot 5, .slot 9, .slot 10], [], []⟩, sspec_spTake_l0x0, Nat × Nat × Int × Int × (List DLot), fun i y => (((), ((), ((), ((), ((y.1, y.2.1), ()))))), ((i.2.1, (i.2.2.1, (i.2.2.2.1, ()))), ((i.2.2.2.2.1, (i.2.2.2.2.2.1, ((), ()))), ((i.2.2.2.2.2.2.1, (i.2.2.2.2.2.2.2, ())), ((y.2.2.1, (y.2.2.2.1, ())), (y.2.2.2.2, ()))))))⟩]
def spec_spTake_l0K {R : Type} (a0 : Int) (rc : Nat → Nat → Int → Int → List DLot → Option R) (fin : Nat × Nat × Int × Int × (List DLot) → Option R) (a1 : Nat) (a2 : Nat) (a10 : Int) (a11 : Int) (a12 : List DLot) : Option R :=
  cond (decide (a10 < a0))
  (cond (decide ((0 : Int) < (((a12.drop a1).take a2).length : Int)))
    (cond (decide ((1 : Int) ≤ (((a12.drop a1).take a2).length : Int)) && decide ((((a12.drop a1).take a2).length : Int) ≤ (((a12.drop a1).take a2).length : Int)))
      (cond (decide ((IntKind.i64.wrap (a0 - a10)) < ((a12.getD (a1 + 0) TLot.dflt).1)))
        ((spec_spSplit ((a12.getD (a1 + 0) TLot.dflt).1, (((a12.getD (a1 + 0) TLot.dflt).2).1, ())) (IntKind.i64.wrap (a0 - a10))).bind fun y1 =>
          cond (decide ([y1.2].length + ((a12.drop (a1 + 1)).take ((((a12.drop a1).take a2).length : Int).toNat - 1)).length ≤ 1099511627776))
          ((some ([y1.2] ++ ((a12.drop (a1 + 1)).take ((((a12.drop a1).take a2).length : Int).toNat - 1)))).bind fun v2 =>
            rc 0 v2.length (IntKind.i64.wrap (a10 + y1.1.1)) (IntKind.i64.wrap (a11 + y1.1.2.1)) v2)
          (none))
        (rc (a1 + 1) ((((a12.drop a1).take a2).length : Int).toNat - 1) (IntKind.i64.wrap (a10 + ((a12.getD (a1 + 0) TLot.dflt).1))) (IntKind.i64.wrap (a11 + (((a12.getD (a1 + 0) TLot.dflt).2).1))) a12))
      (none))
    (none))
  (fin (a1, (a2, (a10, (a11, a12)))))
def spec_spTake_l0F (a0 : Int) (r : (Nat × Nat × Int × Int × (List DLot)) → Option (Nat × Nat × Int × Int × (List DLot))) (x : Nat × Nat × Int × Int × (List DLot)) : Option (Nat × Nat × Int × Int × (List DLot)) := spec_spTake_l0K a0 (fun a1 a2 a10 a11 a12 => r (a1, (a2, (a10, (a11, a12))))) some x.1 x.2.1 x.2.2.1 x.2.2.2.1 x.2.2.2.2
theorem spec_spTake_l0c (a0 : Int) (x : Nat × Nat × Int × Int × (List DLot)) : Ct fun r => spec_spTake_l0F a0 r x := by
  unfold spec_spTake_l0F spec_spTake_l0K
  repeat' (first | exact Ct.const | exact Ct.call | refine Ct.cond ?_ ?_ | refine Ct.bind ?_ fun _ => ?_ | refine Ct.sum (fun _ => ?_) fun _ => ?_)
def spec_spTake_l0 (a0 : Int) (a1 : Nat) (a2 : Nat) (a10 : Int) (a11 : Int) (a12 : List DLot) : Option (Nat × Nat × Int × Int × (List DLot)) := lim (spec_spTake_l0F a0) (a1, (a2, (a10, (a11, a12))))
theorem spec_spTake_l0_eq (a0 : Int) (a1 : Nat) (a2 : Nat) (a10 : Int) (a11 : Int) (a12 : List DLot) : spec_spTake_l0 a0 a1 a2 a10 a11 a12 = spec_spTake_l0K a0 (spec_spTake_l0 a0) some a1 a2 a10 a11 a12 := lim_eq (spec_spTake_l0c a0) (a1, (a2, (a10, (a11, a12))))
theorem spec_spTake_l0p {R : Type} (a0 : Int) {rc : Nat → Nat → Int → Int → List DLot → Option (Nat × Nat × Int × Int × (List DLot))} {rc' : Nat → Nat → Int → Int → List DLot → Option R} {fin : Nat × Nat × Int × Int × (List DLot) → Option R} (hr : ∀ a1 a2 a10 a11 a12, Par fin (rc a1 a2 a10 a11 a12) (rc' a1 a2 a10 a11 a12)) (a1 : Nat) (a2 : Nat) (a10 : Int) (a11 : Int) (a12 : List DLot) : Par fin (spec_spTake_l0K a0 rc some a1 a2 a10 a11 a12) (spec_spTake_l0K a0 rc' fin a1 a2 a10 a11 a12) := by
  unfold spec_spTake_l0K
  repeat' (first | exact .fin | exact .none | exact hr _ _ _ _ _ | refine .cond ?_ ?_ | refine .bind fun _ => ?_ | refine .sum (fun _ => ?_) fun _ => ?_)
def Lspec_spTake_l0 : Loop := mkL ⟨[1, 2, 4, 5, 9, 10], [.slot 2, .slot 4, .slot 5, .slot 9, .slot 10], [], [.win (.slot 10)]⟩ sspec_spTake_l0 xspec_spTake_l0 (fun (x : (Int × Unit × Unit × Unit × Unit × (Nat × Nat) × Unit) × ((Bool × Int × (List DLot) × Unit) × (Bool × Int × Unit × Unit) × (Int × Int × Unit) × (Int × Int × Unit) × (List DLot) × Unit)) => (x.1.1, (x.2.1.1, (x.2.1.2.1, (x.2.1.2.2.1, (x.2.2.1.1, (x.2.2.1.2.1, (x.2.2.2.1.1, x.2.2.2.1.2.1)))))))) fun (x : (Int × Unit × Unit × Unit × Unit × (Nat × Nat) × Unit) × ((Bool × Int × (List DLot) × Unit) × (Bool × Int × Unit × Unit) × (Int × Int × Unit) × (Int × Int × Unit) × (List DLot) × Unit)) => spec_spTake_l0 x.1.1 x.1.2.2.2.2.2.1.1 x.1.2.2.2.2.2.1.2 x.2.2.2.2.1.1 x.2.2.2.2.1.2.1 x.2.2.2.2.2.1
def spec_spTakeK {R : Type} (fin : (Bool × Int × (List DLot)) × DLot × Bool → Option R) (x0 : DPile) (x1 : Int) : Option R :=
  (spec_spSums x0.2.2.1).bind fun y1 =>
  cond (decide (x1 < 1))
  (fin ((false, (0, [])), ((0, (0, ())), false)))
  (cond (decide (x1 > y1.1))
    (fin ((false, (0, [])), ((0, (0, ())), false)))
    (cond (decide (([] : List DLot).length + x0.2.2.1.length ≤ 1099511627776))
      ((spec_spTake_l0 x1 0 ((([] : List DLot) ++ x0.2.2.1).length) 0 0 (([] : List DLot) ++ x0.2.2.1)).bind fun y6 =>
        (spec_spWith x0 ((y6.2.2.2.2.drop y6.1).take y6.2.1)).bind fun y7 =>
        (spec_spLot (y6.2.2.1, (y6.2.2.2.1, ()))).bind fun y8 =>
        cond (!y8)
        (fin ((false, (0, [])), ((0, (0, ())), false)))
        ((spec_spGood (y7.1, (y7.2.1, (y7.2.2, ())))).bind fun y9 =>
          cond (!y9)
          (fin ((false, (0, [])), ((0, (0, ())), false)))
          (fin (y7, ((y6.2.2.1, (y6.2.2.2.1, ())), true)))))
      (none)))
def spec_spTake (x0 : DPile) (x1 : Int) : Option ((Bool × Int × (List DLot)) × DLot × Bool) := spec_spTakeK some x0 x1
theorem p49 {R : Type} (fin : (Bool × Int × (List DLot)) × DLot × Bool → Option R) (x0 : DPile) (x1 : Int) : Par fin (spec_spTakeK some x0 x1) (spec_spTakeK fin x0 x1) := by
  unfold spec_spTakeK
  repeat' (first | exact .fin | exact .none | refine .cond ?_ ?_ | refine .bind fun _ => ?_ | refine .sum (fun _ => ?_) fun _ => ?_)
def or49 : Ora := { lo := addL 6 (Lspec_spTake_l0) lo0, fin := [.own (.cell 4 2) TLot] }
theorem spec_spTake_l0e (a0 : Int) (a3 : Bool) (a4 : Int) (a5 : List DLot) (a6 : Bool) (a7 : Int) (a8 : Int) (a9 : Int) (k : Nat) (a1 : Nat) (a2 : Nat) (a10 : Int) (a11 : Int) (a12 : List DLot) : loopC Tryd.prog EL49 or49 ((loopsIn (codeOf Tryd.f49)).getD 0 .skip) (Lspec_spTake_l0).h (Lspec_spTake_l0).ho Tryd.f49.ntmps (k + 1) (sspec_spTake_l0.out ((a0, ((), ((), ((), ((), ((a1, a2), ())))))), ((a3, (a4, (a5, ()))), ((a6, (a7, ((), ()))), ((a8, (a9, ())), ((a10, (a11, ())), (a12, ()))))))) =
    spec_spTake_l0K a0 (fun a1 a2 a10 a11 a12 => loopC Tryd.prog EL49 or49 ((loopsIn (codeOf Tryd.f49)).getD 0 .skip) (Lspec_spTake_l0).h (Lspec_spTake_l0).ho Tryd.f49.ntmps k (sspec_spTake_l0.out ((a0, ((), ((), ((), ((), ((a1, a2), ())))))), ((a3, (a4, (a5, ()))), ((a6, (a7, ((), ()))), ((a8, (a9, ())), ((a10, (a11, ())), (a12, ())))))))) (fun y => some (XS.out xspec_spTake_l0 (a0, (a3, (a4, (a5, (a6, (a7, (a8, a9))))))) y)) a1 a2 a10 a11 a12 := by kernel_rfl
theorem spec_spTake_l0o : LoopOk Tryd.prog EL49 or49 Tryd.f49.ntmps ((loopsIn (codeOf Tryd.f49)).getD 0 .skip) (Lspec_spTake_l0) :=
  loop_lim (hs := sspec_spTake_l0) (xs := xspec_spTake_l0) (ι := fun (x : (Int × Unit × Unit × Unit × Unit × (Nat × Nat) × Unit) × ((Bool × Int × (List DLot) × Unit) × (Bool × Int × Unit × Unit) × (Int × Int × Unit) × (Int × Int × Unit) × (List DLot) × Unit)) => (x.1.1, (x.2.1.1, (x.2.1.2.1, (x.2.1.2.2.1, (x.2.2.1.1, (x.2.2.1.2.1, (x.2.2.2.1.1, x.2.2.2.1.2.1)))))))) (φ := fun (x : (Int × Unit × Unit × Unit × Unit × (Nat × Nat) × Unit) × ((Bool × Int × (List DLot) × Unit) × (Bool × Int × Unit × Unit) × (Int × Int × Unit) × (Int × Int × Unit) × (List DLot) × Unit)) => (x.1.2.2.2.2.2.1.1, (x.1.2.2.2.2.2.1.2, (x.2.2.2.2.1.1, (x.2.2.2.2.1.2.1, x.2.2.2.2.2.1))))) (ψ := fun (i : Int × Bool × Int × (List DLot) × Bool × Int × Int × Int) (v : Nat × Nat × Int × Int × (List DLot)) => ((i.1, ((), ((), ((), ((), ((v.1, v.2.1), ())))))), ((i.2.1, (i.2.2.1, (i.2.2.2.1, ()))), ((i.2.2.2.2.1, (i.2.2.2.2.2.1, ((), ()))), ((i.2.2.2.2.2.2.1, (i.2.2.2.2.2.2.2, ())), ((v.2.2.1, (v.2.2.2.1, ())), (v.2.2.2.2, ()))))))) (F := fun (i : Int × Bool × Int × (List DLot) × Bool × Int × Int × Int) => spec_spTake_l0F i.1) (fun _ => rfl) fun i k hk v => Par.of_eq (spec_spTake_l0e i.1 i.2.1 i.2.2.1 i.2.2.2.1 i.2.2.2.2.1 i.2.2.2.2.2.1 i.2.2.2.2.2.2.1 i.2.2.2.2.2.2.2 k v.1 v.2.1 v.2.2.1 v.2.2.2.1 v.2.2.2.2) (spec_spTake_l0p i.1 (fun a1 a2 a10 a11 a12 => hk (a1, (a2, (a10, (a11, a12))))) v.1 v.2.1 v.2.2.1 v.2.2.2.1 v.2.2.2.2)
def c49 : Callee := mkC [.agg [.ro TPile], .one (.ro (.int .i64))] 3 [.agg [.ro .bool, .ro (.int .i64), .sl TLot], .agg [.ro TLot], .one (.ro .bool)] fun x => spec_spTake x.1 x.2
theorem e49 (x : PK.dens [.agg [.ro TPile], .one (.ro (.int .i64))]) : evalFn Tryd.prog EL49 or49 Tryd.f49 (PK.outs [.agg [.ro TPile], .one (.ro (.int .i64))] x) =
    spec_spTakeK (fun y => some (tupOf ((PK.outs [.agg [.ro .bool, .ro (.int .i64), .sl TLot], .agg [.ro TLot], .one (.ro .bool)] y).take 3), (PK.outs [.agg [.ro .bool, .ro (.int .i64), .sl TLot], .agg [.ro TLot], .one (.ro .bool)] y).drop 3)) x.1 x.2 := by kernel_rfl
theorem o49 : LoOk Tryd.prog EL49 or49 Tryd.f49.ntmps (loopsIn (codeOf Tryd.f49)) :=
  LoOk.mk (m := 1) (by kernel_rfl) fun i hi => match i, hi with
    | 0, _ => ⟨Lspec_spTake_l0, by kernel_rfl, spec_spTake_l0o⟩
    | i + 1, hi => absurd hi (by omega)
theorem k49 : CalleeOk Tryd.prog 49 c49 := callee_mk Tryd.func49 (code := codeOf Tryd.f49) (by kernel_rfl) vL49 mixed o49 fun x y h => (e49 x).trans (p49 _ x.1 x.2 y h)

/-- spec.spStir -/
def EL29 : Nat → Option Callee := addE 42 c42 (addE 43 c43 (addE 49 c49 env0))
theorem vL29 : EnvOk Tryd.prog EL29 := ((EnvOk.nil.add Tryd.func49 rfl (by kernel_rfl) k49).add Tryd.func43 rfl (by kernel_rfl) k43).add Tryd.func42 rfl (by kernel_rfl) k42
def spec_spStirK {R : Type} (fin : (Bool × Int × (List DLot)) × DLot × Bool → Option R) (x0 : DPile) (x1 : DStir) : Option R :=
  cond (!x1.1)
  ((spec_spTake x0 x1.2.1).bind fun y1 =>
    fin y1)
  ((spec_spLot x1.2).bind fun y2 =>
    cond (!y2)
    (fin ((false, (0, [])), ((0, (0, ())), false)))
    ((spec_spPut x0 x1.2).bind fun y3 =>
      fin (y3.1, ((0, (0, ())), y3.2))))
def spec_spStir (x0 : DPile) (x1 : DStir) : Option ((Bool × Int × (List DLot)) × DLot × Bool) := spec_spStirK some x0 x1
theorem p29 {R : Type} (fin : (Bool × Int × (List DLot)) × DLot × Bool → Option R) (x0 : DPile) (x1 : DStir) : Par fin (spec_spStirK some x0 x1) (spec_spStirK fin x0 x1) := by
  unfold spec_spStirK
  repeat' (first | exact .fin | exact .none | refine .cond ?_ ?_ | refine .bind fun _ => ?_ | refine .sum (fun _ => ?_) fun _ => ?_)
def or29 : Ora := { lo := lo0, fin := [.own (.cell 4 2) TLot] }
def c29 : Callee := mkC [.agg [.ro TPile], .agg [.ro TStir]] 3 [.agg [.ro .bool, .ro (.int .i64), .sl TLot], .agg [.ro TLot], .one (.ro .bool)] fun x => spec_spStir x.1 x.2
theorem e29 (x : PK.dens [.agg [.ro TPile], .agg [.ro TStir]]) : evalFn Tryd.prog EL29 or29 Tryd.f29 (PK.outs [.agg [.ro TPile], .agg [.ro TStir]] x) =
    spec_spStirK (fun y => some (tupOf ((PK.outs [.agg [.ro .bool, .ro (.int .i64), .sl TLot], .agg [.ro TLot], .one (.ro .bool)] y).take 3), (PK.outs [.agg [.ro .bool, .ro (.int .i64), .sl TLot], .agg [.ro TLot], .one (.ro .bool)] y).drop 3)) x.1 x.2 := by kernel_rfl
theorem k29 : CalleeOk Tryd.prog 29 c29 := callee_mk Tryd.func29 (code := codeOf Tryd.f29) (by kernel_rfl) vL29 mixed (LoOk.nil (by kernel_rfl)) fun x y h => (e29 x).trans (p29 _ x.1 x.2 y h)

/-- spec.RunPile -/
def EL7 : Nat → Option Callee := addE 29 c29 (addE 28 c28 (addE 27 c27 env0))
theorem vL7 : EnvOk Tryd.prog EL7 := ((EnvOk.nil.add Tryd.func27 rfl (by kernel_rfl) k27).add Tryd.func28 rfl (by kernel_rfl) k28).add Tryd.func29 rfl (by kernel_rfl) k29
def sspec_RunPile_l0 : LS := ⟨[(1, .one (.dat (.slice TStir))), (4, .one (.fix (.ptr 0 0))), (8, .one (.fix (.ptr 1 0))), (9, .one (.fix (.sref 3))), (28, .one (.dat (.slice TStir))), (29, .one (.dat (.int .i64))), (30, .one (.dat (.int .i64)))], [.box [.dat .bool, .dat (.int .i64), .fix .nils], .box [.dat .bool, .dat (.int .i64), .fix (.sref 2)], .sl TLot, .sl TLot], []⟩
def sspec_RunPile_l0x0 : LS := ⟨[(4, .one (.fix (.ptr 0 0))), (5, .one (.fix (.sref 2))), (6, .one (.dat (.int .i64))), (7, .one (.dat .bool))], [.box [.dat .bool, .dat (.int .i64), .fix (.sref 1)], .sl TLot, .sl TLot], []⟩
def sspec_RunPile_l0x1 : LS := ⟨[(1, .one (.dat (.slice TStir))), (4, .one (.fix (.ptr 0 0))), (8, .one (.fix (.ptr 1 0))), (9, .one (.fix (.sref 3)))], [.box [.dat .bool, .dat (.int .i64), .fix .nils], .box [.dat .bool, .dat (.int .i64), .fix (.sref 2)], .sl TLot, .sl TLot], []⟩
def xspec_RunPile_l0 : List (XS ((List DStir) × (List DStir) × Int × Bool × Int)) := [⟨.ret, ⟨[4, 5, 6, 7], [.slot 4, .cell 4 2, .slot 5], [], []⟩, sspec_RunPile_l0x0, Int × Bool × Bool × Int × (List DLot) × (List DLot), fun i y => (((), ((), (y.1, (y.2.1, ())))), ((y.2.2.1, (y.2.2.2.1, ((), ()))), (y.2.2.2.2.1, (y.2.2.2.2.2, ()))))⟩,
  ⟨.exit 0, ⟨[1, 4, 8, 9], [.slot 4, .slot 8, .cell 8 2, .slot 9], [], []⟩, sspec_RunPile_l0x1, Bool × Int × (List DLot) × (List DLot), fun i y => ((i.1, ((), ((), ((), ())))), ((i.2.2.2.1, (i.2.2.2.2, ((), ()))), ((y.1, (y.2.1, ((), ()))), (y.2.2.1, (y.2.2.2, ())))))⟩]
def spec_RunPile_l0K {R : Type} (a1 : List DStir) (a2 : Int) (rc : Int → Bool → Int → List DLot → List DLot → Option R) (fin : ((Int × Bool × Bool × Int × (List DLot) × (List DLot)) ⊕ (Bool × Int × (List DLot) × (List DLot))) → Option R) (a3 : Int) (a6 : Bool) (a7 : Int) (a8 : List DLot) (a9 : List DLot) : Option R :=
  cond (decide (a3 < a2))
  ((lat a1 a3).bind fun e1 =>
    (spec_spStir (a6, (a7, (a8, ()))) e1).bind fun y2 =>
    cond (!y2.2.2)
    (fin (.inl (a3, (true, (a6, (a7, (a8, a9)))))))
    (cond (!e1.1)
      (cond (e1.2.2.1 != 0)
        (fin (.inl (a3, (true, (a6, (a7, (a8, a9)))))))
        (cond (!e1.1)
          (cond (decide (a9.length + [y2.2.1].length ≤ 1099511627776))
            ((some (a9 ++ [y2.2.1])).bind fun v3 =>
              rc (IntKind.i64.wrap (a3 + 1)) y2.1.1 y2.1.2.1 y2.1.2.2 v3)
            (none))
          (rc (IntKind.i64.wrap (a3 + 1)) y2.1.1 y2.1.2.1 y2.1.2.2 a9)))
      (cond (!e1.1)
        (cond (decide (a9.length + [y2.2.1].length ≤ 1099511627776))
          ((some (a9 ++ [y2.2.1])).bind fun v4 =>
            rc (IntKind.i64.wrap (a3 + 1)) y2.1.1 y2.1.2.1 y2.1.2.2 v4)
          (none))
        (rc (IntKind.i64.wrap (a3 + 1)) y2.1.1 y2.1.2.1 y2.1.2.2 a9))))
  (fin (.inr (a6, (a7, (a8, a9)))))
def spec_RunPile_l0F (a1 : List DStir) (a2 : Int) (r : (Int × Bool × Int × (List DLot) × (List DLot)) → Option ((Int × Bool × Bool × Int × (List DLot) × (List DLot)) ⊕ (Bool × Int × (List DLot) × (List DLot)))) (x : Int × Bool × Int × (List DLot) × (List DLot)) : Option ((Int × Bool × Bool × Int × (List DLot) × (List DLot)) ⊕ (Bool × Int × (List DLot) × (List DLot))) := spec_RunPile_l0K a1 a2 (fun a3 a6 a7 a8 a9 => r (a3, (a6, (a7, (a8, a9))))) some x.1 x.2.1 x.2.2.1 x.2.2.2.1 x.2.2.2.2
theorem spec_RunPile_l0c (a1 : List DStir) (a2 : Int) (x : Int × Bool × Int × (List DLot) × (List DLot)) : Ct fun r => spec_RunPile_l0F a1 a2 r x := by
  unfold spec_RunPile_l0F spec_RunPile_l0K
  repeat' (first | exact Ct.const | exact Ct.call | refine Ct.cond ?_ ?_ | refine Ct.bind ?_ fun _ => ?_ | refine Ct.sum (fun _ => ?_) fun _ => ?_)
def spec_RunPile_l0 (a1 : List DStir) (a2 : Int) (a3 : Int) (a6 : Bool) (a7 : Int) (a8 : List DLot) (a9 : List DLot) : Option ((Int × Bool × Bool × Int × (List DLot) × (List DLot)) ⊕ (Bool × Int × (List DLot) × (List DLot))) := lim (spec_RunPile_l0F a1 a2) (a3, (a6, (a7, (a8, a9))))
theorem spec_RunPile_l0_eq (a1 : List DStir) (a2 : Int) (a3 : Int) (a6 : Bool) (a7 : Int) (a8 : List DLot) (a9 : List DLot) : spec_RunPile_l0 a1 a2 a3 a6 a7 a8 a9 = spec_RunPile_l0K a1 a2 (spec_RunPile_l0 a1 a2) some a3 a6 a7 a8 a9 := lim_eq (spec_RunPile_l0c a1 a2) (a3, (a6, (a7, (a8, a9))))
theorem spec_RunPile_l0p {R : Type} (a1 : List DStir) (a2 : Int) {rc : Int → Bool → Int → List DLot → List DLot → Option ((Int × Bool × Bool × Int × (List DLot) × (List DLot)) ⊕ (Bool × Int × (List DLot) × (List DLot)))} {rc' : Int → Bool → Int → List DLot → List DLot → Option R} {fin : ((Int × Bool × Bool × Int × (List DLot) × (List DLot)) ⊕ (Bool × Int × (List DLot) × (List DLot))) → Option R} (hr : ∀ a3 a6 a7 a8 a9, Par fin (rc a3 a6 a7 a8 a9) (rc' a3 a6 a7 a8 a9)) (a3 : Int) (a6 : Bool) (a7 : Int) (a8 : List DLot) (a9 : List DLot) : Par fin (spec_RunPile_l0K a1 a2 rc some a3 a6 a7 a8 a9) (spec_RunPile_l0K a1 a2 rc' fin a3 a6 a7 a8 a9) := by
  unfold spec_RunPile_l0K
  repeat' (first | exact .fin | exact .none | exact hr _ _ _ _ _ | refine .cond ?_ ?_ | refine .bind fun _ => ?_ | refine .sum (fun _ => ?_) fun _ => ?_)
def Lspec_RunPile_l0 : Loop := mkL ⟨[1, 4, 8, 9, 28, 29, 30], [.slot 4, .slot 8, .cell 8 2, .slot 9], [], [.own (.slot 9) TLot]⟩ sspec_RunPile_l0 xspec_RunPile_l0 (fun (x : ((List DStir) × Unit × Unit × Unit × (List DStir) × Int × Int × Unit) × ((Bool × Int × Unit × Unit) × (Bool × Int × Unit × Unit) × (List DLot) × (List DLot) × Unit)) => (x.1.1, (x.1.2.2.2.2.1, (x.1.2.2.2.2.2.1, (x.2.1.1, x.2.1.2.1))))) fun (x : ((List DStir) × Unit × Unit × Unit × (List DStir) × Int × Int × Unit) × ((Bool × Int × Unit × Unit) × (Bool × Int × Unit × Unit) × (List DLot) × (List DLot) × Unit)) => spec_RunPile_l0 x.1.2.2.2.2.1 x.1.2.2.2.2.2.1 x.1.2.2.2.2.2.2.1 x.2.2.1.1 x.2.2.1.2.1 x.2.2.2.1 x.2.2.2.2.1
def spec_RunPileK {R : Type} (fin : (Bool × Int × (List DLot)) × (List DLot) × Int × Bool → Option R) (x0 : DPile) (x1 : List DStir) : Option R :=
  (spec_spGood x0).bind fun y1 =>
  cond (!y1)
  (fin ((false, (0, [])), ([], (0, false))))
  (cond (decide ((x1.length : Int) > 60))
    (fin ((false, (0, [])), ([], (0, false))))
    ((spec_spWith x0 x0.2.2.1).bind fun y2 =>
      (spec_RunPile_l0 x1 (x1.length : Int) 0 y2.1 y2.2.1 y2.2.2 []).bind fun y9 =>
      sumO y9 (fun y10 =>
      fin ((y10.2.2.1, (y10.2.2.2.1, y10.2.2.2.2.1)), (y10.2.2.2.2.2, (y10.1, y10.2.1))))
      (fun y11 =>
      fin ((y11.1, (y11.2.1, y11.2.2.1)), (y11.2.2.2, ((x1.length : Int), true))))))
def spec_RunPile (x0 : DPile) (x1 : List DStir) : Option ((Bool × Int × (List DLot)) × (List DLot) × Int × Bool) := spec_RunPileK some x0 x1
theorem p7 {R : Type} (fin : (Bool × Int × (List DLot)) × (List DLot) × Int × Bool → Option R) (x0 : DPile) (x1 : List DStir) : Par fin (spec_RunPileK some x0 x1) (spec_RunPileK fin x0 x1) := by
  unfold spec_RunPileK
  repeat' (first | exact .fin | exact .none | refine .cond ?_ ?_ | refine .bind fun _ => ?_ | refine .sum (fun _ => ?_) fun _ => ?_)
def or7 : Ora := { lo := addL 6 (Lspec_RunPile_l0) lo0, fin := [.own (.cell 4 2) TLot, .own (.slot 5) TLot] }
theorem spec_RunPile_l0e (a0 : List DStir) (a1 : List DStir) (a2 : Int) (a4 : Bool) (a5 : Int) (k : Nat) (a3 : Int) (a6 : Bool) (a7 : Int) (a8 : List DLot) (a9 : List DLot) : loopC Tryd.prog EL7 or7 ((loopsIn (codeOf Tryd.f7)).getD 0 .skip) (Lspec_RunPile_l0).h (Lspec_RunPile_l0).ho Tryd.f7.ntmps (k + 1) (sspec_RunPile_l0.out ((a0, ((), ((), ((), (a1, (a2, (a3, ()))))))), ((a4, (a5, ((), ()))), ((a6, (a7, ((), ()))), (a8, (a9, ())))))) =
    spec_RunPile_l0K a1 a2 (fun a3 a6 a7 a8 a9 => loopC Tryd.prog EL7 or7 ((loopsIn (codeOf Tryd.f7)).getD 0 .skip) (Lspec_RunPile_l0).h (Lspec_RunPile_l0).ho Tryd.f7.ntmps k (sspec_RunPile_l0.out ((a0, ((), ((), ((), (a1, (a2, (a3, ()))))))), ((a4, (a5, ((), ()))), ((a6, (a7, ((), ()))), (a8, (a9, ()))))))) (fun y => some (XS.out xspec_RunPile_l0 (a0, (a1, (a2, (a4, a5)))) y)) a3 a6 a7 a8 a9 := by kernel_rfl
theorem spec_RunPile_l0o : LoopOk Tryd.prog EL7 or7 Tryd.f7.ntmps ((loopsIn (codeOf Tryd.f7)).getD 0 .skip) (Lspec_RunPile_l0) :=
  loop_lim (hs := sspec_RunPile_l0) (xs := xspec_RunPile_l0) (ι := fun (x : ((List DStir) × Unit × Unit × Unit × (List DStir) × Int × Int × Unit) × ((Bool × Int × Unit × Unit) × (Bool × Int × Unit × Unit) × (List DLot) × (List DLot) × Unit)) => (x.1.1, (x.1.2.2.2.2.1, (x.1.2.2.2.2.2.1, (x.2.1.1, x.2.1.2.1))))) (φ := fun (x : ((List DStir) × Unit × Unit × Unit × (List DStir) × Int × Int × Unit) × ((Bool × Int × Unit × Unit) × (Bool × Int × Unit × Unit) × (List DLot) × (List DLot) × Unit)) => (x.1.2.2.2.2.2.2.1, (x.2.2.1.1, (x.2.2.1.2.1, (x.2.2.2.1, x.2.2.2.2.1))))) (ψ := fun (i : (List DStir) × (List DStir) × Int × Bool × Int) (v : Int × Bool × Int × (List DLot) × (List DLot)) => ((i.1, ((), ((), ((), (i.2.1, (i.2.2.1, (v.1, ()))))))), ((i.2.2.2.1, (i.2.2.2.2, ((), ()))), ((v.2.1, (v.2.2.1, ((), ()))), (v.2.2.2.1, (v.2.2.2.2, ())))))) (F := fun (i : (List DStir) × (List DStir) × Int × Bool × Int) => spec_RunPile_l0F i.2.1 i.2.2.1) (fun _ => rfl) fun i k hk v => Par.of_eq (spec_RunPile_l0e i.1 i.2.1 i.2.2.1 i.2.2.2.1 i.2.2.2.2 k v.1 v.2.1 v.2.2.1 v.2.2.2.1 v.2.2.2.2) (spec_RunPile_l0p i.2.1 i.2.2.1 (fun a3 a6 a7 a8 a9 => hk (a3, (a6, (a7, (a8, a9))))) v.1 v.2.1 v.2.2.1 v.2.2.2.1 v.2.2.2.2)
def c7 : Callee := mkC [.agg [.ro TPile], .one (.ro (.slice TStir))] 4 [.agg [.ro .bool, .ro (.int .i64), .sl TLot], .one (.sl TLot), .one (.ro (.int .i64)), .one (.ro .bool)] fun x => spec_RunPile x.1 x.2
theorem e7 (x : PK.dens [.agg [.ro TPile], .one (.ro (.slice TStir))]) : evalFn Tryd.prog EL7 or7 Tryd.f7 (PK.outs [.agg [.ro TPile], .one (.ro (.slice TStir))] x) =
    spec_RunPileK (fun y => some (tupOf ((PK.outs [.agg [.ro .bool, .ro (.int .i64), .sl TLot], .one (.sl TLot), .one (.ro (.int .i64)), .one (.ro .bool)] y).take 4), (PK.outs [.agg [.ro .bool, .ro (.int .i64), .sl TLot], .one (.sl TLot), .one (.ro (.int .i64)), .one (.ro .bool)] y).drop 4)) x.1 x.2 := by kernel_rfl
theorem o7 : LoOk Tryd.prog EL7 or7 Tryd.f7.ntmps (loopsIn (codeOf Tryd.f7)) :=
  LoOk.mk (m := 1) (by kernel_rfl) fun i hi => match i, hi with
    | 0, _ => ⟨Lspec_RunPile_l0, by kernel_rfl, spec_RunPile_l0o⟩
    | i + 1, hi => absurd hi (by omega)
theorem k7 : CalleeOk Tryd.prog 7 c7 := callee_mk Tryd.func7 (code := codeOf Tryd.f7) (by kernel_rfl) vL7 mixed o7 fun x y h => (e7 x).trans (p7 _ x.1 x.2 y h)

/-- laws.pSameLots -/
def EL9 : Nat → Option Callee := env0
theorem vL9 : EnvOk Tryd.prog EL9 := EnvOk.nil
def slaws_pSameLots_l0 : LS := ⟨[(0, .one (.dat (.slice TLot))), (1, .one (.dat (.slice TLot))), (12, .one (.dat (.int .i64))), (13, .one (.dat (.int .i64)))], [], []⟩
def slaws_pSameLots_l0x0 : LS := ⟨[(4, .one (.dat .bool))], [], []⟩
def slaws_pSameLots_l0x1 : LS := ⟨[], [], []⟩
def xlaws_pSameLots_l0 : List (XS ((List DLot) × (List DLot) × Int)) := [⟨.ret, ⟨[4], [], [], []⟩, slaws_pSameLots_l0x0, Bool, fun i y => ((y, ()), ())⟩,
  ⟨.exit 0, ⟨[], [], [], []⟩, slaws_pSameLots_l0x1, Unit, fun i y => ((), ())⟩]
def laws_pSameLots_l0K {R : Type} (a0 : List DLot) (a1 : List DLot) (a2 : Int) (rc : Int → Option R) (fin : (Bool ⊕ Unit) → Option R) (a3 : Int) : Option R :=
  cond (decide (a3 < a2))
  ((lat a0 a3).bind fun e1 =>
    (lat a1 a3).bind fun e2 =>
    cond (!(e1.1 == e2.1 && (e1.2.1 == e2.2.1 && true)))
    (fin (.inl false))
    (rc (IntKind.i64.wrap (a3 + 1))))
  (fin (.inr ()))
def laws_pSameLots_l0F (a0 : List DLot) (a1 : List DLot) (a2 : Int) (r : Int → Option (Bool ⊕ Unit)) (x : Int) : Option (Bool ⊕ Unit) := laws_pSameLots_l0K a0 a1 a2 (fun a3 => r a3) some x
theorem laws_pSameLots_l0c (a0 : List DLot) (a1 : List DLot) (a2 : Int) (x : Int) : Ct fun r => laws_pSameLots_l0F a0 a1 a2 r x := by
  unfold laws_pSameLots_l0F laws_pSameLots_l0K
  repeat' (first | exact Ct.const | exact Ct.call | refine Ct.cond ?_ ?_ | refine Ct.bind ?_ fun _ => ?_ | refine Ct.sum (fun _ => ?_) fun _ => ?_)
def laws_pSameLots_l0 (a0 : List DLot) (a1 : List DLot) (a2 : Int) (a3 : Int) : Option (Bool ⊕ Unit) := lim (laws_pSameLots_l0F a0 a1 a2) a3
theorem laws_pSameLots_l0_eq (a0 : List DLot) (a1 : List DLot) (a2 : Int) (a3 : Int) : laws_pSameLots_l0 a0 a1 a2 a3 = laws_pSameLots_l0K a0 a1 a2 (laws_pSameLots_l0 a0 a1 a2) some a3 := lim_eq (laws_pSameLots_l0c a0 a1 a2) a3
theorem laws_pSameLots_l0p {R : Type} (a0 : List DLot) (a1 : List DLot) (a2 : Int) {rc : Int → Option (Bool ⊕ Unit)} {rc' : Int → Option R} {fin : (Bool ⊕ Unit) → Option R} (hr : ∀ a3, Par fin (rc a3) (rc' a3)) (a3 : Int) : Par fin (laws_pSameLots_l0K a0 a1 a2 rc some a3) (laws_pSameLots_l0K a0 a1 a2 rc' fin a3) := by
  unfold laws_pSameLots_l0K
  repeat' (first | exact .fin | exact .none | exact hr _ | refine .cond ?_ ?_ | refine .bind fun _ => ?_ | refine .sum (fun _ => ?_) fun _ => ?_)
def Llaws_pSameLots_l0 : Loop := mkL ⟨[0, 1, 12, 13], [], [], []⟩ slaws_pSameLots_l0 xlaws_pSameLots_l0 (fun (x : ((List DLot) × (List DLot) × Int × Int × Unit) × (Unit)) => (x.1.1, (x.1.2.1, x.1.2.2.1))) fun (x : ((List DLot) × (List DLot) × Int × Int × Unit) × (Unit)) => laws_pSameLots_l0 x.1.1 x.1.2.1 x.1.2.2.1 x.1.2.2.2.1
def laws_pSameLotsK {R : Type} (fin : Bool → Option R) (x0 : List DLot) (x1 : List DLot) : Option R :=
  cond ((x0.length : Int) != (x1.length : Int))
  (fin false)
  ((laws_pSameLots_l0 x0 x1 (x0.length : Int) 0).bind fun y3 =>
    sumO y3 (fun y4 =>
    fin y4)
    (fun y5 =>
    fin true))
def laws_pSameLots (x0 : List DLot) (x1 : List DLot) : Option (Bool) := laws_pSameLotsK some x0 x1
theorem p9 {R : Type} (fin : Bool → Option R) (x0 : List DLot) (x1 : List DLot) : Par fin (laws_pSameLotsK some x0 x1) (laws_pSameLotsK fin x0 x1) := by
  unfold laws_pSameLotsK
  repeat' (first | exact .fin | exact .none | refine .cond ?_ ?_ | refine .bind fun _ => ?_ | refine .sum (fun _ => ?_) fun _ => ?_)
def or9 : Ora := { lo := addL 4 (Llaws_pSameLots_l0) lo0, fin := [] }
theorem laws_pSameLots_l0e (a0 : List DLot) (a1 : List DLot) (a2 : Int) (k : Nat) (a3 : Int) : loopC Tryd.prog EL9 or9 ((loopsIn (codeOf Tryd.f9)).getD 0 .skip) (Llaws_pSameLots_l0).h (Llaws_pSameLots_l0).ho Tryd.f9.ntmps (k + 1) (slaws_pSameLots_l0.out ((a0, (a1, (a2, (a3, ())))), ())) =
    laws_pSameLots_l0K a0 a1 a2 (fun a3 => loopC Tryd.prog EL9 or9 ((loopsIn (codeOf Tryd.f9)).getD 0 .skip) (Llaws_pSameLots_l0).h (Llaws_pSameLots_l0).ho Tryd.f9.ntmps k (slaws_pSameLots_l0.out ((a0, (a1, (a2, (a3, ())))), ()))) (fun y => some (XS.out xlaws_pSameLots_l0 (a0, (a1, a2)) y)) a3 := by kernel_rfl
theorem laws_pSameLots_l0o : LoopOk Tryd.prog EL9 or9 Tryd.f9.ntmps ((loopsIn (codeOf Tryd.f9)).getD 0 .skip) (Llaws_pSameLots_l0) :=
  loop_lim (hs := slaws_pSameLots_l0) (xs := xlaws_pSameLots_l0) (ι := fun (x : ((List DLot) × (List DLot) × Int × Int × Unit) × (Unit)) => (x.1.1, (x.1.2.1, x.1.2.2.1))) (φ := fun (x : ((List DLot) × (List DLot) × Int × Int × Unit) × (Unit)) => x.1.2.2.2.1) (ψ := fun (i : (List DLot) × (List DLot) × Int) (v : Int) => ((i.1, (i.2.1, (i.2.2, (v, ())))), ())) (F := fun (i : (List DLot) × (List DLot) × Int) => laws_pSameLots_l0F i.1 i.2.1 i.2.2) (fun _ => rfl) fun i k hk v => Par.of_eq (laws_pSameLots_l0e i.1 i.2.1 i.2.2 k v) (laws_pSameLots_l0p i.1 i.2.1 i.2.2 (fun a3 => hk a3) v)
def c9 : Callee := mkC [.one (.ro (.slice TLot)), .one (.ro (.slice TLot))] 1 [.one (.ro .bool)] fun x => laws_pSameLots x.1 x.2
theorem e9 (x : PK.dens [.one (.ro (.slice TLot)), .one (.ro (.slice TLot))]) : evalFn Tryd.prog EL9 or9 Tryd.f9 (PK.outs [.one (.ro (.slice TLot)), .one (.ro (.slice TLot))] x) =
    laws_pSameLotsK (fun y => some (tupOf ((PK.outs [.one (.ro .bool)] y).take 1), (PK.outs [.one (.ro .bool)] y).drop 1)) x.1 x.2 := by kernel_rfl
theorem o9 : LoOk Tryd.prog EL9 or9 Tryd.f9.ntmps (loopsIn (codeOf Tryd.f9)) :=
  LoOk.mk (m := 1) (by kernel_rfl) fun i hi => match i, hi with
    | 0, _ => ⟨Llaws_pSameLots_l0, by kernel_rfl, laws_pSameLots_l0o⟩
    | i + 1, hi => absurd hi (by omega)
theorem k9 : CalleeOk Tryd.prog 9 c9 := callee_mk Tryd.func9 (code := codeOf Tryd.f9) (by kernel_rfl) vL9 mixed o9 fun x y h => (e9 x).trans (p9 _ x.1 x.2 y h)

/-- laws.pSamePile -/
def EL8 : Nat → Option Callee := addE 9 c9 env0
theorem vL8 : EnvOk Tryd.prog EL8 := EnvOk.nil.add Tryd.func9 rfl (by kernel_rfl) k9
def laws_pSamePileK {R : Type} (fin : Bool → Option R) (x0 : DPile) (x1 : DPile) : Option R :=
  cond (x0.1 == x1.1)
  (cond (x0.2.1 == x1.2.1)
    ((laws_pSameLots x0.2.2.1 x1.2.2.1).bind fun y1 =>
      fin y1)
    (fin false))
  (fin false)
def laws_pSamePile (x0 : DPile) (x1 : DPile) : Option (Bool) := laws_pSamePileK some x0 x1
theorem p8 {R : Type} (fin : Bool → Option R) (x0 : DPile) (x1 : DPile) : Par fin (laws_pSamePileK some x0 x1) (laws_pSamePileK fin x0 x1) := by
  unfold laws_pSamePileK
  repeat' (first | exact .fin | exact .none | refine .cond ?_ ?_ | refine .bind fun _ => ?_ | refine .sum (fun _ => ?_) fun _ => ?_)
def c8 : Callee := mkC [.agg [.ro TPile], .agg [.ro TPile]] 1 [.one (.ro .bool)] fun x => laws_pSamePile x.1 x.2
theorem e8 (x : PK.dens [.agg [.ro TPile], .agg [.ro TPile]]) : evalFn Tryd.prog EL8 or0 Tryd.f8 (PK.outs [.agg [.ro TPile], .agg [.ro TPile]] x) =
    laws_pSamePileK (fun y => some (tupOf ((PK.outs [.one (.ro .bool)] y).take 1), (PK.outs [.one (.ro .bool)] y).drop 1)) x.1 x.2 := by kernel_rfl
theorem k8 : CalleeOk Tryd.prog 8 c8 := callee_mk Tryd.func8 (code := codeOf Tryd.f8) (by kernel_rfl) vL8 mixed (LoOk.nil (by kernel_rfl)) fun x y h => (e8 x).trans (p8 _ x.1 x.2 y h)

/-- spec.IsPile -/
def EL11 : Nat → Option Callee := addE 27 c27 env0
theorem vL11 : EnvOk Tryd.prog EL11 := EnvOk.nil.add Tryd.func27 rfl (by kernel_rfl) k27
def spec_IsPileK {R : Type} (fin : Bool → Option R) (x0 : DPile) : Option R :=
  (spec_spGood x0).bind fun y1 =>
  fin y1
def spec_IsPile (x0 : DPile) : Option (Bool) := spec_IsPileK some x0
theorem p11 {R : Type} (fin : Bool → Option R) (x0 : DPile) : Par fin (spec_IsPileK some x0) (spec_IsPileK fin x0) := by
  unfold spec_IsPileK
  repeat' (first | exact .fin | exact .none | refine .cond ?_ ?_ | refine .bind fun _ => ?_ | refine .sum (fun _ => ?_) fun _ => ?_)
def c11 : Callee := mkC [.agg [.ro TPile]] 1 [.one (.ro .bool)] fun x => spec_IsPile x
theorem e11 (x : PK.dens [.agg [.ro TPile]]) : evalFn Tryd.prog EL11 or0 Tryd.f11 (PK.outs [.agg [.ro TPile]] x) =
    spec_IsPileK (fun y => some (tupOf ((PK.outs [.one (.ro .bool)] y).take 1), (PK.outs [.one (.ro .bool)] y).drop 1)) x := by kernel_rfl
theorem k11 : CalleeOk Tryd.prog 11 c11 := callee_mk Tryd.func11 (code := codeOf Tryd.f11) (by kernel_rfl) vL11 mixed (LoOk.nil (by kernel_rfl)) fun x y h => (e11 x).trans (p11 _ x y h)

/-- impl.PileSums -/
def EL12 : Nat → Option Callee := addE 30 c30 (addE 10 c10 env0)
theorem vL12 : EnvOk Tryd.prog EL12 := (EnvOk.nil.add Tryd.func10 rfl (by kernel_rfl) k10).add Tryd.func30 rfl (by kernel_rfl) k30
def impl_PileSumsK {R : Type} (fin : Int × Int × Bool → Option R) (x0 : DPile) : Option R :=
  (impl_IsPile x0).bind fun y1 =>
  cond (!y1)
  (fin (0, (0, false)))
  ((impl_lotSum x0.2.2.1).bind fun y2 =>
    fin (y2.1, (y2.2.1, true)))
def impl_PileSums (x0 : DPile) : Option (Int × Int × Bool) := impl_PileSumsK some x0
theorem p12 {R : Type} (fin : Int × Int × Bool → Option R) (x0 : DPile) : Par fin (impl_PileSumsK some x0) (impl_PileSumsK fin x0) := by
  unfold impl_PileSumsK
  repeat' (first | exact .fin | exact .none | refine .cond ?_ ?_ | refine .bind fun _ => ?_ | refine .sum (fun _ => ?_) fun _ => ?_)
def c12 : Callee := mkC [.agg [.ro TPile]] 3 [.one (.ro (.int .i64)), .one (.ro (.int .i64)), .one (.ro .bool)] fun x => impl_PileSums x
theorem e12 (x : PK.dens [.agg [.ro TPile]]) : evalFn Tryd.prog EL12 or0 Tryd.f12 (PK.outs [.agg [.ro TPile]] x) =
    impl_PileSumsK (fun y => some (tupOf ((PK.outs [.one (.ro (.int .i64)), .one (.ro (.int .i64)), .one (.ro .bool)] y).take 3), (PK.outs [.one (.ro (.int .i64)), .one (.ro (.int .i64)), .one (.ro .bool)] y).drop 3)) x := by kernel_rfl
theorem k12 : CalleeOk Tryd.prog 12 c12 := callee_mk Tryd.func12 (code := codeOf Tryd.f12) (by kernel_rfl) vL12 mixed (LoOk.nil (by kernel_rfl)) fun x y h => (e12 x).trans (p12 _ x y h)

/-- spec.DrawIsPile -/
def EL31 : Nat → Option Callee := addE 19 c19 env0
theorem vL31 : EnvOk Tryd.prog EL31 := EnvOk.nil.add Tryd.func19 rfl (by kernel_rfl) k19
def spec_DrawIsPileK {R : Type} (fin : Bool × Int × (List DLot) → Option R) (x0 : List Int) : Option R :=
  (spec_l1Cur_pile (x0, (0, 0))).bind fun y1 =>
  fin y1.1
def spec_DrawIsPile (x0 : List Int) : Option (Bool × Int × (List DLot)) := spec_DrawIsPileK some x0
theorem p31 {R : Type} (fin : Bool × Int × (List DLot) → Option R) (x0 : List Int) : Par fin (spec_DrawIsPileK some x0) (spec_DrawIsPileK fin x0) := by
  unfold spec_DrawIsPileK
  repeat' (first | exact .fin | exact .none | refine .cond ?_ ?_ | refine .bind fun _ => ?_ | refine .sum (fun _ => ?_) fun _ => ?_)
def c31 : Callee := mkC [.one (.ro (.slice (.int .u8)))] 1 [.agg [.ro .bool, .ro (.int .i64), .sl TLot]] fun x => spec_DrawIsPile x
theorem e31 (x : PK.dens [.one (.ro (.slice (.int .u8)))]) : evalFn Tryd.prog EL31 or0 Tryd.f31 (PK.outs [.one (.ro (.slice (.int .u8)))] x) =
    spec_DrawIsPileK (fun y => some (tupOf ((PK.outs [.agg [.ro .bool, .ro (.int .i64), .sl TLot]] y).take 1), (PK.outs [.agg [.ro .bool, .ro (.int .i64), .sl TLot]] y).drop 1)) x := by kernel_rfl
theorem k31 : CalleeOk Tryd.prog 31 c31 := callee_mk Tryd.func31 (code := codeOf Tryd.f31) (by kernel_rfl) vL31 mixed (LoOk.nil (by kernel_rfl)) fun x y h => (e31 x).trans (p31 _ x y h)

/-- spec.DrawPileText -/
def EL13 : Nat → Option Callee := addE 31 c31 env0
theorem vL13 : EnvOk Tryd.prog EL13 := EnvOk.nil.add Tryd.func31 rfl (by kernel_rfl) k31
def spec_DrawPileTextK {R : Type} (fin : Bool × Int × (List DLot) → Option R) (x0 : List Int) : Option R :=
  (spec_DrawIsPile x0).bind fun y1 =>
  fin y1
def spec_DrawPileText (x0 : List Int) : Option (Bool × Int × (List DLot)) := spec_DrawPileTextK some x0
theorem p13 {R : Type} (fin : Bool × Int × (List DLot) → Option R) (x0 : List Int) : Par fin (spec_DrawPileTextK some x0) (spec_DrawPileTextK fin x0) := by
  unfold spec_DrawPileTextK
  repeat' (first | exact .fin | exact .none | refine .cond ?_ ?_ | refine .bind fun _ => ?_ | refine .sum (fun _ => ?_) fun _ => ?_)
def c13 : Callee := mkC [.one (.ro (.slice (.int .u8)))] 1 [.agg [.ro .bool, .ro (.int .i64), .sl TLot]] fun x => spec_DrawPileText x
theorem e13 (x : PK.dens [.one (.ro (.slice (.int .u8)))]) : evalFn Tryd.prog EL13 or0 Tryd.f13 (PK.outs [.one (.ro (.slice (.int .u8)))] x) =
    spec_DrawPileTextK (fun y => some (tupOf ((PK.outs [.agg [.ro .bool, .ro (.int .i64), .sl TLot]] y).take 1), (PK.outs [.agg [.ro .bool, .ro (.int .i64), .sl TLot]] y).drop 1)) x := by kernel_rfl
theorem k13 : CalleeOk Tryd.prog 13 c13 := callee_mk Tryd.func13 (code := codeOf Tryd.f13) (by kernel_rfl) vL13 mixed (LoOk.nil (by kernel_rfl)) fun x y h => (e13 x).trans (p13 _ x y h)

/-- impl.numbersText -/
def EL32 : Nat → Option Callee := addE 51 c51 (addE 50 c50 env0)
theorem vL32 : EnvOk Tryd.prog EL32 := (EnvOk.nil.add Tryd.func50 rfl (by kernel_rfl) k50).add Tryd.func51 rfl (by kernel_rfl) k51
def simpl_numbersText_l0 : LS := ⟨[(3, .one (.fix (.sref 0))), (7, .one (.dat (.slice (.int .i64)))), (8, .one (.dat (.int .i64))), (9, .one (.dat (.int .i64)))], [.sl .str], []⟩
def simpl_numbersText_l0x0 : LS := ⟨[(3, .one (.fix (.sref 0)))], [.sl .str], []⟩
def ximpl_numbersText_l0 : List (XS ((List Int) × Int)) := [⟨.exit 0, ⟨[3], [.slot 3], [], []⟩, simpl_numbersText_l0x0, List ByteArray, fun i y => (((), ()), (y, ()))⟩]
def impl_numbersText_l0K {R : Type} (a0 : List Int) (a1 : Int) (rc : Int → List ByteArray → Option R) (fin : List ByteArray → Option R) (a2 : Int) (a3 : List ByteArray) : Option R :=
  cond (decide (a2 < a1))
  ((lat a0 a2).bind fun e1 =>
    (lib_Itoa e1).bind fun y2 =>
    cond (decide (a3.length + [y2].length ≤ 1099511627776))
    (rc (IntKind.i64.wrap (a2 + 1)) (a3 ++ [y2]))
    (none))
  (fin a3)
def impl_numbersText_l0F (a0 : List Int) (a1 : Int) (r : (Int × (List ByteArray)) → Option (List ByteArray)) (x : Int × (List ByteArray)) : Option (List ByteArray) := impl_numbersText_l0K a0 a1 (fun a2 a3 => r (a2, a3)) some x.1 x.2
theorem impl_numbersText_l0c (a0 : List Int) (a1 : Int) (x : Int × (List ByteArray)) : Ct fun r => impl_numbersText_l0F a0 a1 r x := by
  unfold impl_numbersText_l0F impl_numbersText_l0K
  repeat' (first | exact Ct.const | exact Ct.call | refine Ct.cond ?_ ?_ | refine Ct.bind ?_ fun _ => ?_ | refine Ct.sum (fun _ => ?_) fun _ => ?_)
def impl_numbersText_l0 (a0 : List Int) (a1 : Int) (a2 : Int) (a3 : List ByteArray) : Option (List ByteArray) := lim (impl_numbersText_l0F a0 a1) (a2, a3)
theorem impl_numbersText_l0_eq (a0 : List Int) (a1 : Int) (a2 : Int) (a3 : List ByteArray) : impl_numbersText_l0 a0 a1 a2 a3 = impl_numbersText_l0K a0 a1 (impl_numbersText_l0 a0 a1) some a2 a3 := lim_eq (impl_numbersText_l0c a0 a1) (a2, a3)
theorem impl_numbersText_l0p {R : Type} (a0 : List Int) (a1 : Int) {rc : Int → List ByteArray → Option (List ByteArray)} {rc' : Int → List ByteArray → Option R} {fin : List ByteArray → Option R} (hr : ∀ a2 a3, Par fin (rc a2 a3) (rc' a2 a3)) (a2 : Int) (a3 : List ByteArray) : Par fin (impl_numbersText_l0K a0 a1 rc some a2 a3) (impl_numbersText_l0K a0 a1 rc' fin a2 a3) := by
  unfold impl_numbersText_l0K
  repeat' (first | exact .fin | exact .none | exact hr _ _ | refine .cond ?_ ?_ | refine .bind fun _ => ?_ | refine .sum (fun _ => ?_) fun _ => ?_)
def Limpl_numbersText_l0 : Loop := mkL ⟨[3, 7, 8, 9], [.slot 3], [], []⟩ simpl_numbersText_l0 ximpl_numbersText_l0 (fun (x : (Unit × (List Int) × Int × Int × Unit) × ((List ByteArray) × Unit)) => (x.1.2.1, x.1.2.2.1)) fun (x : (Unit × (List Int) × Int × Int × Unit) × ((List ByteArray) × Unit)) => impl_numbersText_l0 x.1.2.1 x.1.2.2.1 x.1.2.2.2.1 x.2.1
def impl_numbersTextK {R : Type} (fin : ByteArray → Option R) (x0 : List Int) : Option R :=
  (impl_numbersText_l0 x0 (x0.length : Int) 0 []).bind fun y3 =>
  (lib_Join y3 (⟨#[32]⟩ : ByteArray)).bind fun y4 =>
  fin y4
def impl_numbersText (x0 : List Int) : Option (ByteArray) := impl_numbersTextK some x0
theorem p32 {R : Type} (fin : ByteArray → Option R) (x0 : List Int) : Par fin (impl_numbersTextK some x0) (impl_numbersTextK fin x0) := by
  unfold impl_numbersTextK
  repeat' (first | exact .fin | exact .none | refine .cond ?_ ?_ | refine .bind fun _ => ?_ | refine .sum (fun _ => ?_) fun _ => ?_)
def or32 : Ora := { lo := addL 3 (Limpl_numbersText_l0) lo0, fin := [] }
theorem impl_numbersText_l0e (a0 : List Int) (a1 : Int) (k : Nat) (a2 : Int) (a3 : List ByteArray) : loopC Tryd.prog EL32 or32 ((loopsIn (codeOf Tryd.f32)).getD 0 .skip) (Limpl_numbersText_l0).h (Limpl_numbersText_l0).ho Tryd.f32.ntmps (k + 1) (simpl_numbersText_l0.out (((), (a0, (a1, (a2, ())))), (a3, ()))) =
    impl_numbersText_l0K a0 a1 (fun a2 a3 => loopC Tryd.prog EL32 or32 ((loopsIn (codeOf Tryd.f32)).getD 0 .skip) (Limpl_numbersText_l0).h (Limpl_numbersText_l0).ho Tryd.f32.ntmps k (simpl_numbersText_l0.out (((), (a0, (a1, (a2, ())))), (a3, ())))) (fun y => some (XS.out ximpl_numbersText_l0 (a0, a1) y)) a2 a3 := by kernel_rfl
theorem impl_numbersText_l0o : LoopOk Tryd.prog EL32 or32 Tryd.f32.ntmps ((loopsIn (codeOf Tryd.f32)).getD 0 .skip) (Limpl_numbersText_l0) :=
  loop_lim (hs := simpl_numbersText_l0) (xs := ximpl_numbersText_l0) (ι := fun (x : (Unit × (List Int) × Int × Int × Unit) × ((List ByteArray) × Unit)) => (x.1.2.1, x.1.2.2.1)) (φ := fun (x : (Unit × (List Int) × Int × Int × Unit) × ((List ByteArray) × Unit)) => (x.1.2.2.2.1, x.2.1)) (ψ := fun (i : (List Int) × Int) (v : Int × (List ByteArray)) => (((), (i.1, (i.2, (v.1, ())))), (v.2, ()))) (F := fun (i : (List Int) × Int) => impl_numbersText_l0F i.1 i.2) (fun _ => rfl) fun i k hk v => Par.of_eq (impl_numbersText_l0e i.1 i.2 k v.1 v.2) (impl_numbersText_l0p i.1 i.2 (fun a2 a3 => hk (a2, a3)) v.1 v.2)
def c32 : Callee := mkC [.one (.ro (.slice (.int .i64)))] 1 [.one (.ro .str)] fun x => impl_numbersText x
theorem e32 (x : PK.dens [.one (.ro (.slice (.int .i64)))]) : evalFn Tryd.prog EL32 or32 Tryd.f32 (PK.outs [.one (.ro (.slice (.int .i64)))] x) =
    impl_numbersTextK (fun y => some (tupOf ((PK.outs [.one (.ro .str)] y).take 1), (PK.outs [.one (.ro .str)] y).drop 1)) x := by kernel_rfl
theorem o32 : LoOk Tryd.prog EL32 or32 Tryd.f32.ntmps (loopsIn (codeOf Tryd.f32)) :=
  LoOk.mk (m := 1) (by kernel_rfl) fun i hi => match i, hi with
    | 0, _ => ⟨Limpl_numbersText_l0, by kernel_rfl, impl_numbersText_l0o⟩
    | i + 1, hi => absurd hi (by omega)
theorem k32 : CalleeOk Tryd.prog 32 c32 := callee_mk Tryd.func32 (code := codeOf Tryd.f32) (by kernel_rfl) vL32 mixed o32 fun x y h => (e32 x).trans (p32 _ x y h)

/-- impl.PileText -/
def EL14 : Nat → Option Callee := addE 32 c32 (addE 10 c10 env0)
theorem vL14 : EnvOk Tryd.prog EL14 := (EnvOk.nil.add Tryd.func10 rfl (by kernel_rfl) k10).add Tryd.func32 rfl (by kernel_rfl) k32
def simpl_PileText_l0 : LS := ⟨[(4, .one (.dat .str)), (5, .one (.fix (.sref 0))), (17, .one (.dat (.slice TLot))), (18, .one (.dat (.int .i64))), (19, .one (.dat (.int .i64)))], [.sl (.int .i64)], []⟩
def simpl_PileText_l0x0 : LS := ⟨[(4, .one (.dat .str)), (5, .one (.fix (.sref 0)))], [.sl (.int .i64)], []⟩
def ximpl_PileText_l0 : List (XS (ByteArray × (List DLot) × Int)) := [⟨.exit 0, ⟨[4, 5], [.slot 5], [], []⟩, simpl_PileText_l0x0, List Int, fun i y => ((i.1, ((), ())), (y, ()))⟩]
def impl_PileText_l0K {R : Type} (a1 : List DLot) (a2 : Int) (rc : Int → List Int → Option R) (fin : List Int → Option R) (a3 : Int) (a4 : List Int) : Option R :=
  cond (decide (a3 < a2))
  ((lat a1 a3).bind fun e1 =>
    cond (decide (a4.length + [e1.1, e1.2.1].length ≤ 1099511627776))
    ((some (a4 ++ [e1.1, e1.2.1])).bind fun v2 =>
      rc (IntKind.i64.wrap (a3 + 1)) v2)
    (none))
  (fin a4)
def impl_PileText_l0F (a1 : List DLot) (a2 : Int) (r : (Int × (List Int)) → Option (List Int)) (x : Int × (List Int)) : Option (List Int) := impl_PileText_l0K a1 a2 (fun a3 a4 => r (a3, a4)) some x.1 x.2
theorem impl_PileText_l0c (a1 : List DLot) (a2 : Int) (x : Int × (List Int)) : Ct fun r => impl_PileText_l0F a1 a2 r x := by
  unfold impl_PileText_l0F impl_PileText_l0K
  repeat' (first | exact Ct.const | exact Ct.call | refine Ct.cond ?_ ?_ | refine Ct.bind ?_ fun _ => ?_ | refine Ct.sum (fun _ => ?_) fun _ => ?_)
def impl_PileText_l0 (a1 : List DLot) (a2 : Int) (a3 : Int) (a4 : List Int) : Option (List Int) := lim (impl_PileText_l0F a1 a2) (a3, a4)
theorem impl_PileText_l0_eq (a1 : List DLot) (a2 : Int) (a3 : Int) (a4 : List Int) : impl_PileText_l0 a1 a2 a3 a4 = impl_PileText_l0K a1 a2 (impl_PileText_l0 a1 a2) some a3 a4 := lim_eq (impl_PileText_l0c a1 a2) (a3, a4)
theorem impl_PileText_l0p {R : Type} (a1 : List DLot) (a2 : Int) {rc : Int → List Int → Option (List Int)} {rc' : Int → List Int → Option R} {fin : List Int → Option R} (hr : ∀ a3 a4, Par fin (rc a3 a4) (rc' a3 a4)) (a3 : Int) (a4 : List Int) : Par fin (impl_PileText_l0K a1 a2 rc some a3 a4) (impl_PileText_l0K a1 a2 rc' fin a3 a4) := by
  unfold impl_PileText_l0K
  repeat' (first | exact .fin | exact .none | exact hr _ _ | refine .cond ?_ ?_ | refine .bind fun _ => ?_ | refine .sum (fun _ => ?_) fun _ => ?_)
def Limpl_PileText_l0 : Loop := mkL ⟨[4, 5, 17, 18, 19], [.slot 5], [], []⟩ simpl_PileText_l0 ximpl_PileText_l0 (fun (x : (ByteArray × Unit × (List DLot) × Int × Int × Unit) × ((List Int) × Unit)) => (x.1.1, (x.1.2.2.1, x.1.2.2.2.1))) fun (x : (ByteArray × Unit × (List DLot) × Int × Int × Unit) × ((List Int) × Unit)) => impl_PileText_l0 x.1.2.2.1 x.1.2.2.2.1 x.1.2.2.2.2.1 x.2.1
def impl_PileTextK {R : Type} (fin : ByteArray × Bool → Option R) (x0 : DPile) : Option R :=
  (impl_IsPile x0).bind fun y1 =>
  cond (!y1)
  (fin ((⟨#[]⟩ : ByteArray), false))
  (cond (x0.1)
    ((impl_PileText_l0 x0.2.2.1 (x0.2.2.1.length : Int) 0 [x0.2.1]).bind fun y4 =>
      cond (decide ((⟨#[109, 105, 120, 101, 100]⟩ : ByteArray).size + (⟨#[32]⟩ : ByteArray).size ≤ 9223372036854775807))
      ((some ((⟨#[109, 105, 120, 101, 100]⟩ : ByteArray) ++ (⟨#[32]⟩ : ByteArray))).bind fun v5 =>
        (impl_numbersText y4).bind fun y6 =>
        cond (decide (v5.size + y6.size ≤ 9223372036854775807))
        (fin (v5 ++ y6, true))
        (none))
      (none))
    ((impl_PileText_l0 x0.2.2.1 (x0.2.2.1.length : Int) 0 [x0.2.1]).bind fun y7 =>
      cond (decide ((⟨#[111, 114, 100, 101, 114]⟩ : ByteArray).size + (⟨#[32]⟩ : ByteArray).size ≤ 9223372036854775807))
      ((some ((⟨#[111, 114, 100, 101, 114]⟩ : ByteArray) ++ (⟨#[32]⟩ : ByteArray))).bind fun v8 =>
        (impl_numbersText y7).bind fun y9 =>
        cond (decide (v8.size + y9.size ≤ 9223372036854775807))
        (fin (v8 ++ y9, true))
        (none))
      (none)))
def impl_PileText (x0 : DPile) : Option (ByteArray × Bool) := impl_PileTextK some x0
theorem p14 {R : Type} (fin : ByteArray × Bool → Option R) (x0 : DPile) : Par fin (impl_PileTextK some x0) (impl_PileTextK fin x0) := by
  unfold impl_PileTextK
  repeat' (first | exact .fin | exact .none | refine .cond ?_ ?_ | refine .bind fun _ => ?_ | refine .sum (fun _ => ?_) fun _ => ?_)
def or14 : Ora := { lo := addL 8 (Limpl_PileText_l0) lo0, fin := [] }
theorem impl_PileText_l0e (a0 : ByteArray) (a1 : List DLot) (a2 : Int) (k : Nat) (a3 : Int) (a4 : List Int) : loopC Tryd.prog EL14 or14 ((loopsIn (codeOf Tryd.f14)).getD 0 .skip) (Limpl_PileText_l0).h (Limpl_PileText_l0).ho Tryd.f14.ntmps (k + 1) (simpl_PileText_l0.out ((a0, ((), (a1, (a2, (a3, ()))))), (a4, ()))) =
    impl_PileText_l0K a1 a2 (fun a3 a4 => loopC Tryd.prog EL14 or14 ((loopsIn (codeOf Tryd.f14)).getD 0 .skip) (Limpl_PileText_l0).h (Limpl_PileText_l0).ho Tryd.f14.ntmps k (simpl_PileText_l0.out ((a0, ((), (a1, (a2, (a3, ()))))), (a4, ())))) (fun y => some (XS.out ximpl_PileText_l0 (a0, (a1, a2)) y)) a3 a4 := by kernel_rfl
theorem impl_PileText_l0o : LoopOk Tryd.prog EL14 or14 Tryd.f14.ntmps ((loopsIn (codeOf Tryd.f14)).getD 0 .skip) (Limpl_PileText_l0) :=
  loop_lim (hs := simpl_PileText_l0) (xs := ximpl_PileText_l0) (ι := fun (x : (ByteArray × Unit × (List DLot) × Int × Int × Unit) × ((List Int) × Unit)) => (x.1.1, (x.1.2.2.1, x.1.2.2.2.1))) (φ := fun (x : (ByteArray × Unit × (List DLot) × Int × Int × Unit) × ((List Int) × Unit)) => (x.1.2.2.2.2.1, x.2.1)) (ψ := fun (i : ByteArray × (List DLot) × Int) (v : Int × (List Int)) => ((i.1, ((), (i.2.1, (i.2.2, (v.1, ()))))), (v.2, ()))) (F := fun (i : ByteArray × (List DLot) × Int) => impl_PileText_l0F i.2.1 i.2.2) (fun _ => rfl) fun i k hk v => Par.of_eq (impl_PileText_l0e i.1 i.2.1 i.2.2 k v.1 v.2) (impl_PileText_l0p i.2.1 i.2.2 (fun a3 a4 => hk (a3, a4)) v.1 v.2)
def c14 : Callee := mkC [.agg [.ro TPile]] 2 [.one (.ro .str), .one (.ro .bool)] fun x => impl_PileText x
theorem e14 (x : PK.dens [.agg [.ro TPile]]) : evalFn Tryd.prog EL14 or14 Tryd.f14 (PK.outs [.agg [.ro TPile]] x) =
    impl_PileTextK (fun y => some (tupOf ((PK.outs [.one (.ro .str), .one (.ro .bool)] y).take 2), (PK.outs [.one (.ro .str), .one (.ro .bool)] y).drop 2)) x := by kernel_rfl
theorem o14 : LoOk Tryd.prog EL14 or14 Tryd.f14.ntmps (loopsIn (codeOf Tryd.f14)) :=
  LoOk.mk (m := 1) (by kernel_rfl) fun i hi => match i, hi with
    | 0, _ => ⟨Limpl_PileText_l0, by kernel_rfl, impl_PileText_l0o⟩
    | i + 1, hi => absurd hi (by omega)
theorem k14 : CalleeOk Tryd.prog 14 c14 := callee_mk Tryd.func14 (code := codeOf Tryd.f14) (by kernel_rfl) vL14 mixed o14 fun x y h => (e14 x).trans (p14 _ x y h)

/-- spec.l1Num -/
def EL52 : Nat → Option Callee := env0
theorem vL52 : EnvOk Tryd.prog EL52 := EnvOk.nil
def spec_l1NumK {R : Type} (slf : Int → Option (ByteArray)) (fin : ByteArray → Option R) (x0 : Int) : Option R :=
  cond (decide (x0 < 10))
  ((some (strOfNums [IntKind.u8.wrap (IntKind.i64.wrap (48 + x0))])).bind fun v1 =>
    fin v1)
  ((slf (IntKind.i64.wrap (x0.tdiv 10))).bind fun y2 =>
    (some (strOfNums [IntKind.u8.wrap (IntKind.i64.wrap (48 + (x0.tmod 10)))])).bind fun v3 =>
    cond (decide (y2.size + v3.size ≤ 9223372036854775807))
    (fin (y2 ++ v3))
    (none))
def spec_l1NumF (slf : Int → Option (ByteArray)) (x : Int) : Option (ByteArray) := spec_l1NumK slf some x
theorem spec_l1Numc (x : Int) : Ct fun slf => spec_l1NumF slf x := by
  unfold spec_l1NumF spec_l1NumK
  repeat' (first | exact Ct.const | exact Ct.call | refine Ct.cond ?_ ?_ | refine Ct.bind ?_ fun _ => ?_ | refine Ct.sum (fun _ => ?_) fun _ => ?_)
def spec_l1Num (x0 : Int) : Option (ByteArray) := lim spec_l1NumF x0
theorem spec_l1Num_eq (x0 : Int) : spec_l1Num x0 = spec_l1NumK (fun x => spec_l1Num x) some x0 := lim_eq spec_l1Numc x0
theorem p52 {R : Type} (slf : Int → Option (ByteArray)) (fin : ByteArray → Option R) (x0 : Int) : Par fin (spec_l1NumK slf some x0) (spec_l1NumK slf fin x0) := by
  unfold spec_l1NumK
  repeat' (first | exact .fin | exact .none | refine .cond ?_ ?_ | refine .bind fun _ => ?_ | refine .sum (fun _ => ?_) fun _ => ?_)
def c52 : Callee := mkC [.one (.ro (.int .i64))] 1 [.one (.ro .str)] fun x => spec_l1Num x
theorem e52 (slf : Int → Option (ByteArray)) (x : PK.dens [.one (.ro (.int .i64))]) : evalFn Tryd.prog (addE 52 (mkC [.one (.ro (.int .i64))] 1 [.one (.ro .str)] slf) EL52) or0 Tryd.f52 (PK.outs [.one (.ro (.int .i64))] x) =
    spec_l1NumK slf (fun y => some (tupOf ((PK.outs [.one (.ro .str)] y).take 1), (PK.outs [.one (.ro .str)] y).drop 1)) x := by kernel_rfl
theorem k52 : CalleeOk Tryd.prog 52 c52 := callee_rec (ps := [.one (.ro (.int .i64))]) (rs := [.one (.ro .str)]) (F := spec_l1NumF) fun slf hs => callee_mk Tryd.func52 (code := codeOf Tryd.f52) (by kernel_rfl) (vL52.add Tryd.func52 rfl (by kernel_rfl) hs) mixed (LoOk.nil (by kernel_rfl)) fun x y h => (e52 slf x).trans (p52 slf _ x y h)

/-- spec.spText -/
def EL33 : Nat → Option Callee := addE 52 c52 env0
theorem vL33 : EnvOk Tryd.prog EL33 := EnvOk.nil.add Tryd.func52 rfl (by kernel_rfl) k52
def sspec_spText_l0 : LS := ⟨[(3, .one (.dat .str)), (14, .one (.dat (.slice TLot))), (15, .one (.dat (.int .i64))), (16, .one (.dat (.int .i64)))], [], []⟩
def sspec_spText_l0x0 : LS := ⟨[(3, .one (.dat .str))], [], []⟩
def xspec_spText_l0 : List (XS ((List DLot) × Int)) := [⟨.exit 0, ⟨[3], [], [], []⟩, sspec_spText_l0x0, ByteArray, fun i y => ((y, ()), ())⟩]
def spec_spText_l0K {R : Type} (a1 : List DLot) (a2 : Int) (rc : ByteArray → Int → Option R) (fin : ByteArray → Option R) (a0 : ByteArray) (a3 : Int) : Option R :=
  cond (decide (a3 < a2))
  ((lat a1 a3).bind fun e1 =>
    (spec_l1Num e1.1).bind fun y2 =>
    cond (decide ((⟨#[32]⟩ : ByteArray).size + y2.size ≤ 9223372036854775807))
    ((some ((⟨#[32]⟩ : ByteArray) ++ y2)).bind fun v3 =>
      cond (decide (v3.size + (⟨#[32]⟩ : ByteArray).size ≤ 9223372036854775807))
      ((some (v3 ++ (⟨#[32]⟩ : ByteArray))).bind fun v4 =>
        (spec_l1Num e1.2.1).bind fun y5 =>
        cond (decide (v4.size + y5.size ≤ 9223372036854775807))
        (cond (decide (a0.size + (v4 ++ y5).size ≤ 9223372036854775807))
          ((some (a0 ++ (v4 ++ y5))).bind fun v6 =>
            rc v6 (IntKind.i64.wrap (a3 + 1)))
          (none))
        (none))
      (none))
    (none))
  (fin a0)
def spec_spText_l0F (a1 : List DLot) (a2 : Int) (r : (ByteArray × Int) → Option (ByteArray)) (x : ByteArray × Int) : Option (ByteArray) := spec_spText_l0K a1 a2 (fun a0 a3 => r (a0, a3)) some x.1 x.2
theorem spec_spText_l0c (a1 : List DLot) (a2 : Int) (x : ByteArray × Int) : Ct fun r => spec_spText_l0F a1 a2 r x := by
  unfold spec_spText_l0F spec_spText_l0K
  repeat' (first | exact Ct.const | exact Ct.call | refine Ct.cond ?_ ?_ | refine Ct.bind ?_ fun _ => ?_ | refine Ct.sum (fun _ => ?_) fun _ => ?_)
def spec_spText_l0 (a1 : List DLot) (a2 : Int) (a0 : ByteArray) (a3 : Int) : Option (ByteArray) := lim (spec_spText_l0F a1 a2) (a0, a3)
theorem spec_spText_l0_eq (a1 : List DLot) (a2 : Int) (a0 : ByteArray) (a3 : Int) : spec_spText_l0 a1 a2 a0 a3 = spec_spText_l0K a1 a2 (spec_spText_l0 a1 a2) some a0 a3 := lim_eq (spec_spText_l0c a1 a2) (a0, a3)
theorem spec_spText_l0p {R : Type} (a1 : List DLot) (a2 : Int) {rc : ByteArray → Int → Option (ByteArray)} {rc' : ByteArray → Int → Option R} {fin : ByteArray → Option R} (hr : ∀ a0 a3, Par fin (rc a0 a3) (rc' a0 a3)) (a0 : ByteArray) (a3 : Int) : Par fin (spec_spText_l0K a1 a2 rc some a0 a3) (spec_spText_l0K a1 a2 rc' fin a0 a3) := by
  unfold spec_spText_l0K
  repeat' (first | exact .fin | exact .none | exact hr _ _ | refine .cond ?_ ?_ | refine .bind fun _ => ?_ | refine .sum (fun _ => ?_) fun _ => ?_)
def Lspec_spText_l0 : Loop := mkL ⟨[3, 14, 15, 16], [], [], []⟩ sspec_spText_l0 xspec_spText_l0 (fun (x : (ByteArray × (List DLot) × Int × Int × Unit) × (Unit)) => (x.1.2.1, x.1.2.2.1)) fun (x : (ByteArray × (List DLot) × Int × Int × Unit) × (Unit)) => spec_spText_l0 x.1.2.1 x.1.2.2.1 x.1.1 x.1.2.2.2.1
def spec_spTextK {R : Type} (fin : ByteArray → Option R) (x0 : DPile) : Option R :=
  cond (x0.1)
  ((spec_l1Num x0.2.1).bind fun y1 =>
    cond (decide ((⟨#[109, 105, 120, 101, 100, 32]⟩ : ByteArray).size + y1.size ≤ 9223372036854775807))
    ((some ((⟨#[109, 105, 120, 101, 100, 32]⟩ : ByteArray) ++ y1)).bind fun v2 =>
      (spec_spText_l0 x0.2.2.1 (x0.2.2.1.length : Int) v2 0).bind fun y9 =>
      fin y9)
    (none))
  ((spec_l1Num x0.2.1).bind fun y10 =>
    cond (decide ((⟨#[111, 114, 100, 101, 114, 32]⟩ : ByteArray).size + y10.size ≤ 9223372036854775807))
    ((some ((⟨#[111, 114, 100, 101, 114, 32]⟩ : ByteArray) ++ y10)).bind fun v11 =>
      (spec_spText_l0 x0.2.2.1 (x0.2.2.1.length : Int) v11 0).bind fun y12 =>
      fin y12)
    (none))
def spec_spText (x0 : DPile) : Option (ByteArray) := spec_spTextK some x0
theorem p33 {R : Type} (fin : ByteArray → Option R) (x0 : DPile) : Par fin (spec_spTextK some x0) (spec_spTextK fin x0) := by
  unfold spec_spTextK
  repeat' (first | exact .fin | exact .none | refine .cond ?_ ?_ | refine .bind fun _ => ?_ | refine .sum (fun _ => ?_) fun _ => ?_)
def or33 : Ora := { lo := addL 6 (Lspec_spText_l0) lo0, fin := [] }
theorem spec_spText_l0e (a1 : List DLot) (a2 : Int) (k : Nat) (a0 : ByteArray) (a3 : Int) : loopC Tryd.prog EL33 or33 ((loopsIn (codeOf Tryd.f33)).getD 0 .skip) (Lspec_spText_l0).h (Lspec_spText_l0).ho Tryd.f33.ntmps (k + 1) (sspec_spText_l0.out ((a0, (a1, (a2, (a3, ())))), ())) =
    spec_spText_l0K a1 a2 (fun a0 a3 => loopC Tryd.prog EL33 or33 ((loopsIn (codeOf Tryd.f33)).getD 0 .skip) (Lspec_spText_l0).h (Lspec_spText_l0).ho Tryd.f33.ntmps k (sspec_spText_l0.out ((a0, (a1, (a2, (a3, ())))), ()))) (fun y => some (XS.out xspec_spText_l0 (a1, a2) y)) a0 a3 := by kernel_rfl
theorem spec_spText_l0o : LoopOk Tryd.prog EL33 or33 Tryd.f33.ntmps ((loopsIn (codeOf Tryd.f33)).getD 0 .skip) (Lspec_spText_l0) :=
  loop_lim (hs := sspec_spText_l0) (xs := xspec_spText_l0) (ι := fun (x : (ByteArray × (List DLot) × Int × Int × Unit) × (Unit)) => (x.1.2.1, x.1.2.2.1)) (φ := fun (x : (ByteArray × (List DLot) × Int × Int × Unit) × (Unit)) => (x.1.1, x.1.2.2.2.1)) (ψ := fun (i : (List DLot) × Int) (v : ByteArray × Int) => ((v.1, (i.1, (i.2, (v.2, ())))), ())) (F := fun (i : (List DLot) × Int) => spec_spText_l0F i.1 i.2) (fun _ => rfl) fun i k hk v => Par.of_eq (spec_spText_l0e i.1 i.2 k v.1 v.2) (spec_spText_l0p i.1 i.2 (fun a0 a3 => hk (a0, a3)) v.1 v.2)
def c33 : Callee := mkC [.agg [.ro TPile]] 1 [.one (.ro .str)] fun x => spec_spText x
theorem e33 (x : PK.dens [.agg [.ro TPile]]) : evalFn Tryd.prog EL33 or33 Tryd.f33 (PK.outs [.agg [.ro TPile]] x) =
    spec_spTextK (fun y => some (tupOf ((PK.outs [.one (.ro .str)] y).take 1), (PK.outs [.one (.ro .str)] y).drop 1)) x := by kernel_rfl
theorem o33 : LoOk Tryd.prog EL33 or33 Tryd.f33.ntmps (loopsIn (codeOf Tryd.f33)) :=
  LoOk.mk (m := 1) (by kernel_rfl) fun i hi => match i, hi with
    | 0, _ => ⟨Lspec_spText_l0, by kernel_rfl, spec_spText_l0o⟩
    | i + 1, hi => absurd hi (by omega)
theorem k33 : CalleeOk Tryd.prog 33 c33 := callee_mk Tryd.func33 (code := codeOf Tryd.f33) (by kernel_rfl) vL33 mixed o33 fun x y h => (e33 x).trans (p33 _ x y h)

/-- spec.PileText -/
def EL15 : Nat → Option Callee := addE 33 c33 (addE 27 c27 env0)
theorem vL15 : EnvOk Tryd.prog EL15 := (EnvOk.nil.add Tryd.func27 rfl (by kernel_rfl) k27).add Tryd.func33 rfl (by kernel_rfl) k33
def spec_PileTextK {R : Type} (fin : ByteArray × Bool → Option R) (x0 : DPile) : Option R :=
  (spec_spGood x0).bind fun y1 =>
  cond (!y1)
  (fin ((⟨#[]⟩ : ByteArray), false))
  ((spec_spText x0).bind fun y2 =>
    fin (y2, true))
def spec_PileText (x0 : DPile) : Option (ByteArray × Bool) := spec_PileTextK some x0
theorem p15 {R : Type} (fin : ByteArray × Bool → Option R) (x0 : DPile) : Par fin (spec_PileTextK some x0) (spec_PileTextK fin x0) := by
  unfold spec_PileTextK
  repeat' (first | exact .fin | exact .none | refine .cond ?_ ?_ | refine .bind fun _ => ?_ | refine .sum (fun _ => ?_) fun _ => ?_)
def c15 : Callee := mkC [.agg [.ro TPile]] 2 [.one (.ro .str), .one (.ro .bool)] fun x => spec_PileText x
theorem e15 (x : PK.dens [.agg [.ro TPile]]) : evalFn Tryd.prog EL15 or0 Tryd.f15 (PK.outs [.agg [.ro TPile]] x) =
    spec_PileTextK (fun y => some (tupOf ((PK.outs [.one (.ro .str), .one (.ro .bool)] y).take 2), (PK.outs [.one (.ro .str), .one (.ro .bool)] y).drop 2)) x := by kernel_rfl
theorem k15 : CalleeOk Tryd.prog 15 c15 := callee_mk Tryd.func15 (code := codeOf Tryd.f15) (by kernel_rfl) vL15 mixed (LoOk.nil (by kernel_rfl)) fun x y h => (e15 x).trans (p15 _ x y h)

/-- impl.decimal -/
def EL55 : Nat → Option Callee := env0
theorem vL55 : EnvOk Tryd.prog EL55 := EnvOk.nil
def simpl_decimal_l0 : LS := ⟨[(0, .one (.dat .str)), (4, .one (.dat (.int .i64))), (5, .one (.dat (.int .i64)))], [], []⟩
def simpl_decimal_l0x0 : LS := ⟨[(2, .one (.dat (.int .i64))), (3, .one (.dat .bool))], [], []⟩
def simpl_decimal_l0x1 : LS := ⟨[(4, .one (.dat (.int .i64)))], [], []⟩
def ximpl_decimal_l0 : List (XS (ByteArray)) := [⟨.ret, ⟨[2, 3], [], [], []⟩, simpl_decimal_l0x0, Int × Bool, fun i y => ((y.1, (y.2, ())), ())⟩,
  ⟨.exit 0, ⟨[4], [], [], []⟩, simpl_decimal_l0x1, Int, fun i y => ((y, ()), ())⟩]
def impl_decimal_l0K {R : Type} (a0 : ByteArray) (rc : Int → Int → Option R) (fin : ((Int × Bool) ⊕ Int) → Option R) (a1 : Int) (a2 : Int) : Option R :=
  cond (decide (a2 < (a0.size : Int)))
  ((bat a0 a2).bind fun e1 =>
    cond (decide (e1 < 48))
    (fin (.inl (0, false)))
    ((bat a0 a2).bind fun e2 =>
      cond (decide (e2 > 57))
      (fin (.inl (0, false)))
      ((bat a0 a2).bind fun e3 =>
        (some (IntKind.i64.wrap ((IntKind.i64.wrap (10 * a1)) + (IntKind.i64.wrap (IntKind.u8.wrap (e3 - 48)))))).bind fun v4 =>
        rc v4 (IntKind.i64.wrap (a2 + 1)))))
  (fin (.inr a1))
def impl_decimal_l0F (a0 : ByteArray) (r : (Int × Int) → Option ((Int × Bool) ⊕ Int)) (x : Int × Int) : Option ((Int × Bool) ⊕ Int) := impl_decimal_l0K a0 (fun a1 a2 => r (a1, a2)) some x.1 x.2
theorem impl_decimal_l0c (a0 : ByteArray) (x : Int × Int) : Ct fun r => impl_decimal_l0F a0 r x := by
  unfold impl_decimal_l0F impl_decimal_l0K
  repeat' (first | exact Ct.const | exact Ct.call | refine Ct.cond ?_ ?_ | refine Ct.bind ?_ fun _ => ?_ | refine Ct.sum (fun _ => ?_) fun _ => ?_)
def impl_decimal_l0 (a0 : ByteArray) (a1 : Int) (a2 : Int) : Option ((Int × Bool) ⊕ Int) := lim (impl_decimal_l0F a0) (a1, a2)
theorem impl_decimal_l0_eq (a0 : ByteArray) (a1 : Int) (a2 : Int) : impl_decimal_l0 a0 a1 a2 = impl_decimal_l0K a0 (impl_decimal_l0 a0) some a1 a2 := lim_eq (impl_decimal_l0c a0) (a1, a2)
theorem impl_decimal_l0p {R : Type} (a0 : ByteArray) {rc : Int → Int → Option ((Int × Bool) ⊕ Int)} {rc' : Int → Int → Option R} {fin : ((Int × Bool) ⊕ Int) → Option R} (hr : ∀ a1 a2, Par fin (rc a1 a2) (rc' a1 a2)) (a1 : Int) (a2 : Int) : Par fin (impl_decimal_l0K a0 rc some a1 a2) (impl_decimal_l0K a0 rc' fin a1 a2) := by
  unfold impl_decimal_l0K
  repeat' (first | exact .fin | exact .none | exact hr _ _ | refine .cond ?_ ?_ | refine .bind fun _ => ?_ | refine .sum (fun _ => ?_) fun _ => ?_)
def Limpl_decimal_l0 : Loop := mkL ⟨[0, 4, 5], [], [], []⟩ simpl_decimal_l0 ximpl_decimal_l0 (fun (x : (ByteArray × Int × Int × Unit) × (Unit)) => x.1.1) fun (x : (ByteArray × Int × Int × Unit) × (Unit)) => impl_decimal_l0 x.1.1 x.1.2.1 x.1.2.2.1
def impl_decimalK {R : Type} (fin : Int × Bool → Option R) (x0 : ByteArray) : Option R :=
  cond (eqS x0 (⟨#[]⟩ : ByteArray))
  (fin (0, false))
  (cond (decide ((x0.size : Int) > 15))
    (fin (0, false))
    ((bat x0 0).bind fun e1 =>
      cond (e1 == 48)
      (cond (decide ((x0.size : Int) > 1))
        (fin (0, false))
        ((impl_decimal_l0 x0 0 0).bind fun y6 =>
          sumO y6 (fun y7 =>
          fin y7)
          (fun y8 =>
          fin (y8, true))))
      ((impl_decimal_l0 x0 0 0).bind fun y9 =>
        sumO y9 (fun y10 =>
        fin y10)
        (fun y11 =>
        fin (y11, true)))))
def impl_decimal (x0 : ByteArray) : Option (Int × Bool) := impl_decimalK some x0
theorem p55 {R : Type} (fin : Int × Bool → Option R) (x0 : ByteArray) : Par fin (impl_decimalK some x0) (impl_decimalK fin x0) := by
  unfold impl_decimalK
  repeat' (first | exact .fin | exact .none | refine .cond ?_ ?_ | refine .bind fun _ => ?_ | refine .sum (fun _ => ?_) fun _ => ?_)
def or55 : Ora := { lo := addL 5 (Limpl_decimal_l0) lo0, fin := [] }
theorem impl_decimal_l0e (a0 : ByteArray) (k : Nat) (a1 : Int) (a2 : Int) : loopC Tryd.prog EL55 or55 ((loopsIn (codeOf Tryd.f55)).getD 0 .skip) (Limpl_decimal_l0).h (Limpl_decimal_l0).ho Tryd.f55.ntmps (k + 1) (simpl_decimal_l0.out ((a0, (a1, (a2, ()))), ())) =
    impl_decimal_l0K a0 (fun a1 a2 => loopC Tryd.prog EL55 or55 ((loopsIn (codeOf Tryd.f55)).getD 0 .skip) (Limpl_decimal_l0).h (Limpl_decimal_l0).ho Tryd.f55.ntmps k (simpl_decimal_l0.out ((a0, (a1, (a2, ()))), ()))) (fun y => some (XS.out ximpl_decimal_l0 a0 y)) a1 a2 := by kernel_rfl
theorem impl_decimal_l0o : LoopOk Tryd.prog EL55 or55 Tryd.f55.ntmps ((loopsIn (codeOf Tryd.f55)).getD 0 .skip) (Limpl_decimal_l0) :=
  loop_lim (hs := simpl_decimal_l0) (xs := ximpl_decimal_l0) (ι := fun (x : (ByteArray × Int × Int × Unit) × (Unit)) => x.1.1) (φ := fun (x : (ByteArray × Int × Int × Unit) × (Unit)) => (x.1.2.1, x.1.2.2.1)) (ψ := fun (i : ByteArray) (v : Int × Int) => ((i, (v.1, (v.2, ()))), ())) (F := fun (i : ByteArray) => impl_decimal_l0F i) (fun _ => rfl) fun i k hk v => Par.of_eq (impl_decimal_l0e i k v.1 v.2) (impl_decimal_l0p i (fun a1 a2 => hk (a1, a2)) v.1 v.2)
def c55 : Callee := mkC [.one (.ro .str)] 2 [.one (.ro (.int .i64)), .one (.ro .bool)] fun x => impl_decimal x
theorem e55 (x : PK.dens [.one (.ro .str)]) : evalFn Tryd.prog EL55 or55 Tryd.f55 (PK.outs [.one (.ro .str)] x) =
    impl_decimalK (fun y => some (tupOf ((PK.outs [.one (.ro (.int .i64)), .one (.ro .bool)] y).take 2), (PK.outs [.one (.ro (.int .i64)), .one (.ro .bool)] y).drop 2)) x := by kernel_rfl
theorem o55 : LoOk Tryd.prog EL55 or55 Tryd.f55.ntmps (loopsIn (codeOf Tryd.f55)) :=
  LoOk.mk (m := 1) (by kernel_rfl) fun i hi => match i, hi with
    | 0, _ => ⟨Limpl_decimal_l0, by kernel_rfl, impl_decimal_l0o⟩
    | i + 1, hi => absurd hi (by omega)
theorem k55 : CalleeOk Tryd.prog 55 c55 := callee_mk Tryd.func55 (code := codeOf Tryd.f55) (by kernel_rfl) vL55 mixed o55 fun x y h => (e55 x).trans (p55 _ x y h)

/-- impl.decimals -/
def EL35 : Nat → Option Callee := addE 55 c55 (addE 54 c54 env0)
theorem vL35 : EnvOk Tryd.prog EL35 := (EnvOk.nil.add Tryd.func54 rfl (by kernel_rfl) k54).add Tryd.func55 rfl (by kernel_rfl) k55
def simpl_decimals_l0 : LS := ⟨[(7, .one (.fix (.sref 0))), (19, .one (.fix (.sref 1))), (20, .one (.dat (.int .i64))), (21, .one (.dat (.int .i64)))], [.sl (.int .i64), .sl .str], []⟩
def simpl_decimals_l0x0 : LS := ⟨[(4, .one (.fix .nils)), (5, .one (.dat .bool))], [], []⟩
def simpl_decimals_l0x1 : LS := ⟨[(7, .one (.fix (.sref 0)))], [.sl (.int .i64)], []⟩
def ximpl_decimals_l0 : List (XS (Int × (List ByteArray))) := [⟨.ret, ⟨[4, 5], [], [], []⟩, simpl_decimals_l0x0, Bool, fun i y => (((), (y, ())), ())⟩,
  ⟨.exit 0, ⟨[7], [.slot 7], [], []⟩, simpl_decimals_l0x1, List Int, fun i y => (((), ()), (y, ()))⟩]
def impl_decimals_l0K {R : Type} (a0 : Int) (a3 : List ByteArray) (rc : Int → List Int → Option R) (fin : (Bool ⊕ (List Int)) → Option R) (a1 : Int) (a2 : List Int) : Option R :=
  cond (decide (a1 < a0))
  (cond (decide ((0 : Int) ≤ a1) && decide (a1 < (a3.length : Int)))
    ((impl_decimal (a3.getD (0 + a1.toNat) ByteArray.empty)).bind fun y1 =>
      cond (!y1.2)
      (fin (.inl false))
      (cond (decide (a2.length + [y1.1].length ≤ 1099511627776))
        ((some (a2 ++ [y1.1])).bind fun v2 =>
          rc (IntKind.i64.wrap (a1 + 1)) v2)
        (none)))
    (none))
  (fin (.inr a2))
def impl_decimals_l0F (a0 : Int) (a3 : List ByteArray) (r : (Int × (List Int)) → Option (Bool ⊕ (List Int))) (x : Int × (List Int)) : Option (Bool ⊕ (List Int)) := impl_decimals_l0K a0 a3 (fun a1 a2 => r (a1, a2)) some x.1 x.2
theorem impl_decimals_l0c (a0 : Int) (a3 : List ByteArray) (x : Int × (List Int)) : Ct fun r => impl_decimals_l0F a0 a3 r x := by
  unfold impl_decimals_l0F impl_decimals_l0K
  repeat' (first | exact Ct.const | exact Ct.call | refine Ct.cond ?_ ?_ | refine Ct.bind ?_ fun _ => ?_ | refine Ct.sum (fun _ => ?_) fun _ => ?_)
def impl_decimals_l0 (a0 : Int) (a3 : List ByteArray) (a1 : Int) (a2 : List Int) : Option (Bool ⊕ (List Int)) := lim (impl_decimals_l0F a0 a3) (a1, a2)
theorem impl_decimals_l0_eq (a0 : Int) (a3 : List ByteArray) (a1 : Int) (a2 : List Int) : impl_decimals_l0 a0 a3 a1 a2 = impl_decimals_l0K a0 a3 (impl_decimals_l0 a0 a3) some a1 a2 := lim_eq (impl_decimals_l0c a0 a3) (a1, a2)
theorem impl_decimals_l0p {R : Type} (a0 : Int) (a3 : List ByteArray) {rc : Int → List Int → Option (Bool ⊕ (List Int))} {rc' : Int → List Int → Option R} {fin : (Bool ⊕ (List Int)) → Option R} (hr : ∀ a1 a2, Par fin (rc a1 a2) (rc' a1 a2)) (a1 : Int) (a2 : List Int) : Par fin (impl_decimals_l0K a0 a3 rc some a1 a2) (impl_decimals_l0K a0 a3 rc' fin a1 a2) := by
  unfold impl_decimals_l0K
  repeat' (first | exact .fin | exact .none | exact hr _ _ | refine .cond ?_ ?_ | refine .bind fun _ => ?_ | refine .sum (fun _ => ?_) fun _ => ?_)
def Limpl_decimals_l0 : Loop := mkL ⟨[7, 19, 20, 21], [.slot 7, .slot 19], [], []⟩ simpl_decimals_l0 ximpl_decimals_l0 (fun (x : (Unit × Unit × Int × Int × Unit) × ((List Int) × (List ByteArray) × Unit)) => (x.1.2.2.1, x.2.2.1)) fun (x : (Unit × Unit × Int × Int × Unit) × ((List Int) × (List ByteArray) × Unit)) => impl_decimals_l0 x.1.2.2.1 x.2.2.1 x.1.2.2.2.1 x.2.1
def impl_decimalsK {R : Type} (fin : (List Int) × Bool → Option R) (x0 : ByteArray) (x1 : Int) : Option R :=
  (lib_Split x0 (⟨#[32]⟩ : ByteArray)).bind fun y1 =>
  cond ((y1.length : Int) != x1)
  (fin ([], false))
  ((impl_decimals_l0 (y1.length : Int) y1 0 []).bind fun y4 =>
    sumO y4 (fun y5 =>
    fin ([], y5))
    (fun y6 =>
    fin (y6, true)))
def impl_decimals (x0 : ByteArray) (x1 : Int) : Option ((List Int) × Bool) := impl_decimalsK some x0 x1
theorem p35 {R : Type} (fin : (List Int) × Bool → Option R) (x0 : ByteArray) (x1 : Int) : Par fin (impl_decimalsK some x0 x1) (impl_decimalsK fin x0 x1) := by
  unfold impl_decimalsK
  repeat' (first | exact .fin | exact .none | refine .cond ?_ ?_ | refine .bind fun _ => ?_ | refine .sum (fun _ => ?_) fun _ => ?_)
def or35 : Ora := { lo := addL 6 (Limpl_decimals_l0) lo0, fin := [.own (.slot 4) (.int .i64)] }
theorem impl_decimals_l0e (a0 : Int) (a3 : List ByteArray) (k : Nat) (a1 : Int) (a2 : List Int) : loopC Tryd.prog EL35 or35 ((loopsIn (codeOf Tryd.f35)).getD 0 .skip) (Limpl_decimals_l0).h (Limpl_decimals_l0).ho Tryd.f35.ntmps (k + 1) (simpl_decimals_l0.out (((), ((), (a0, (a1, ())))), (a2, (a3, ())))) =
    impl_decimals_l0K a0 a3 (fun a1 a2 => loopC Tryd.prog EL35 or35 ((loopsIn (codeOf Tryd.f35)).getD 0 .skip) (Limpl_decimals_l0).h (Limpl_decimals_l0).ho Tryd.f35.ntmps k (simpl_decimals_l0.out (((), ((), (a0, (a1, ())))), (a2, (a3, ()))))) (fun y => some (XS.out ximpl_decimals_l0 (a0, a3) y)) a1 a2 := by kernel_rfl
theorem impl_decimals_l0o : LoopOk Tryd.prog EL35 or35 Tryd.f35.ntmps ((loopsIn (codeOf Tryd.f35)).getD 0 .skip) (Limpl_decimals_l0) :=
  loop_lim (hs := simpl_decimals_l0) (xs := ximpl_decimals_l0) (ι := fun (x : (Unit × Unit × Int × Int × Unit) × ((List Int) × (List ByteArray) × Unit)) => (x.1.2.2.1, x.2.2.1)) (φ := fun (x : (Unit × Unit × Int × Int × Unit) × ((List Int) × (List ByteArray) × Unit)) => (x.1.2.2.2.1, x.2.1)) (ψ := fun (i : Int × (List ByteArray)) (v : Int × (List Int)) => (((), ((), (i.1, (v.1, ())))), (v.2, (i.2, ())))) (F := fun (i : Int × (List ByteArray)) => impl_decimals_l0F i.1 i.2) (fun _ => rfl) fun i k hk v => Par.of_eq (impl_decimals_l0e i.1 i.2 k v.1 v.2) (impl_decimals_l0p i.1 i.2 (fun a1 a2 => hk (a1, a2)) v.1 v.2)
def c35 : Callee := mkC [.one (.ro .str), .one (.ro (.int .i64))] 2 [.one (.sl (.int .i64)), .one (.ro .bool)] fun x => impl_decimals x.1 x.2
theorem e35 (x : PK.dens [.one (.ro .str), .one (.ro (.int .i64))]) : evalFn Tryd.prog EL35 or35 Tryd.f35 (PK.outs [.one (.ro .str), .one (.ro (.int .i64))] x) =
    impl_decimalsK (fun y => some (tupOf ((PK.outs [.one (.sl (.int .i64)), .one (.ro .bool)] y).take 2), (PK.outs [.one (.sl (.int .i64)), .one (.ro .bool)] y).drop 2)) x.1 x.2 := by kernel_rfl
theorem o35 : LoOk Tryd.prog EL35 or35 Tryd.f35.ntmps (loopsIn (codeOf Tryd.f35)) :=
  LoOk.mk (m := 1) (by kernel_rfl) fun i hi => match i, hi with
    | 0, _ => ⟨Limpl_decimals_l0, by kernel_rfl, impl_decimals_l0o⟩
    | i + 1, hi => absurd hi (by omega)
theorem k35 : CalleeOk Tryd.prog 35 c35 := callee_mk Tryd.func35 (code := codeOf Tryd.f35) (by kernel_rfl) vL35 mixed o35 fun x y h => (e35 x).trans (p35 _ x.1 x.2 y h)

/-- impl.ParsePile -/
def EL16 : Nat → Option Callee := addE 10 c10 (addE 35 c35 (addE 36 c36 (addE 34 c34 env0)))
theorem vL16 : EnvOk Tryd.prog EL16 := (((EnvOk.nil.add Tryd.func34 rfl (by kernel_rfl) k34).add Tryd.func36 rfl (by kernel_rfl) k36).add Tryd.func35 rfl (by kernel_rfl) k35).add Tryd.func10 rfl (by kernel_rfl) k10
def simpl_ParsePile_l0 : LS := ⟨[(2, .one (.fix (.ptr 0 0))), (4, .one (.fix (.ptr 1 0))), (7, .one (.fix (.sref 3))), (9, .one (.dat (.int .i64)))], [.box [.dat .bool, .dat (.int .i64), .fix .nils], .box [.dat .bool, .dat (.int .i64), .fix (.sref 2)], .sl TLot, .sl (.int .i64)], []⟩
def simpl_ParsePile_l0x0 : LS := ⟨[(2, .one (.fix (.ptr 0 0))), (4, .one (.fix (.ptr 1 0)))], [.box [.dat .bool, .dat (.int .i64), .fix .nils], .box [.dat .bool, .dat (.int .i64), .fix (.sref 2)], .sl TLot], []⟩
def ximpl_ParsePile_l0 : List (XS (Bool × Int × Bool × Int × (List Int))) := [⟨.exit 0, ⟨[2, 4], [.slot 2, .slot 4, .cell 4 2], [], []⟩, simpl_ParsePile_l0x0, List DLot, fun i y => (((), ((), ())), ((i.1, (i.2.1, ((), ()))), ((i.2.2.1, (i.2.2.2.1, ((), ()))), (y, ()))))⟩]
def impl_ParsePile_l0K {R : Type} (a6 : List Int) (rc : Int → List DLot → Option R) (fin : List DLot → Option R) (a0 : Int) (a5 : List DLot) : Option R :=
  cond (decide (a0 < (a6.length : Int)))
  (cond (decide ((0 : Int) ≤ a0) && decide (a0 < (a6.length : Int)))
    (cond (decide ((0 : Int) ≤ IntKind.i64.wrap (a0 + 1)) && decide (IntKind.i64.wrap (a0 + 1) < (a6.length : Int)))
      (cond (decide (a5.length + [(a6.getD (0 + a0.toNat) 0, (a6.getD (0 + (IntKind.i64.wrap (a0 + 1)).toNat) 0, ()))].length ≤ 1099511627776))
        ((some (a5 ++ [(a6.getD (0 + a0.toNat) 0, (a6.getD (0 + (IntKind.i64.wrap (a0 + 1)).toNat) 0, ()))])).bind fun v1 =>
          rc (IntKind.i64.wrap (a0 + 2)) v1)
        (none))
      (none))
    (none))
  (fin a5)
def impl_ParsePile_l0F (a6 : List Int) (r : (Int × (List DLot)) → Option (List DLot)) (x : Int × (List DLot)) : Option (List DLot) := impl_ParsePile_l0K a6 (fun a0 a5 => r (a0, a5)) some x.1 x.2
theorem impl_ParsePile_l0c (a6 : List Int) (x : Int × (List DLot)) : Ct fun r => impl_ParsePile_l0F a6 r x := by
  unfold impl_ParsePile_l0F impl_ParsePile_l0K
  repeat' (first | exact Ct.const | exact Ct.call | refine Ct.cond ?_ ?_ | refine Ct.bind ?_ fun _ => ?_ | refine Ct.sum (fun _ => ?_) fun _ => ?_)
def impl_ParsePile_l0 (a6 : List Int) (a0 : Int) (a5 : List DLot) : Option (List DLot) := lim (impl_ParsePile_l0F a6) (a0, a5)
theorem impl_ParsePile_l0_eq (a6 : List Int) (a0 : Int) (a5 : List DLot) : impl_ParsePile_l0 a6 a0 a5 = impl_ParsePile_l0K a6 (impl_ParsePile_l0 a6) some a0 a5 := lim_eq (impl_ParsePile_l0c a6) (a0, a5)
theorem impl_ParsePile_l0p {R : Type} (a6 : List Int) {rc : Int → List DLot → Option (List DLot)} {rc' : Int → List DLot → Option R} {fin : List DLot → Option R} (hr : ∀ a0 a5, Par fin (rc a0 a5) (rc' a0 a5)) (a0 : Int) (a5 : List DLot) : Par fin (impl_ParsePile_l0K a6 rc some a0 a5) (impl_ParsePile_l0K a6 rc' fin a0 a5) := by
  unfold impl_ParsePile_l0K
  repeat' (first | exact .fin | exact .none | exact hr _ _ | refine .cond ?_ ?_ | refine .bind fun _ => ?_ | refine .sum (fun _ => ?_) fun _ => ?_)
def Limpl_ParsePile_l0 : Loop := mkL ⟨[2, 4, 7, 9], [.slot 2, .slot 4, .cell 4 2, .slot 7], [], [.own (.cell 4 2) TLot]⟩ simpl_ParsePile_l0 ximpl_ParsePile_l0 (fun (x : (Unit × Unit × Unit × Int × Unit) × ((Bool × Int × Unit × Unit) × (Bool × Int × Unit × Unit) × (List DLot) × (List Int) × Unit)) => (x.2.1.1, (x.2.1.2.1, (x.2.2.1.1, (x.2.2.1.2.1, x.2.2.2.2.1))))) fun (x : (Unit × Unit × Unit × Int × Unit) × ((Bool × Int × Unit × Unit) × (Bool × Int × Unit × Unit) × (List DLot) × (List Int) × Unit)) => impl_ParsePile_l0 x.2.2.2.2.1 x.1.2.2.2.1 x.2.2.2.1
def impl_ParsePileK {R : Type} (fin : (Bool × Int × (List DLot)) × Bool → Option R) (x0 : ByteArray) : Option R :=
  (lib_CutPrefix x0 (⟨#[111, 114, 100, 101, 114, 32]⟩ : ByteArray)).bind fun y1 =>
  cond (!y1.2)
  ((lib_CutPrefix x0 (⟨#[109, 105, 120, 101, 100, 32]⟩ : ByteArray)).bind fun y2 =>
    (lib_Count y2.1 (⟨#[32]⟩ : ByteArray)).bind fun y3 =>
    (impl_decimals y2.1 (IntKind.i64.wrap (y3 + 1))).bind fun y4 =>
    cond (!y2.2)
    (fin ((false, (0, [])), false))
    (cond (!y4.2)
      (fin ((false, (0, [])), false))
      (cond (((y4.1.length : Int).tmod 2) == 0)
        (fin ((false, (0, [])), false))
        (cond (decide ((0 : Int) < (y4.1.length : Int)))
          ((impl_ParsePile_l0 y4.1 1 []).bind fun y7 =>
            (impl_IsPile (true, (y4.1.getD (0 + 0) 0, (y7, ())))).bind fun y8 =>
            cond (!y8)
            (fin ((false, (0, [])), false))
            (fin ((true, (y4.1.getD (0 + 0) 0, y7)), true)))
          (none)))))
  ((lib_Count y1.1 (⟨#[32]⟩ : ByteArray)).bind fun y9 =>
    (impl_decimals y1.1 (IntKind.i64.wrap (y9 + 1))).bind fun y10 =>
    cond (!y1.2)
    (fin ((false, (0, [])), false))
    (cond (!y10.2)
      (fin ((false, (0, [])), false))
      (cond (((y10.1.length : Int).tmod 2) == 0)
        (fin ((false, (0, [])), false))
        (cond (decide ((0 : Int) < (y10.1.length : Int)))
          ((impl_ParsePile_l0 y10.1 1 []).bind fun y11 =>
            (impl_IsPile (false, (y10.1.getD (0 + 0) 0, (y11, ())))).bind fun y12 =>
            cond (!y12)
            (fin ((false, (0, [])), false))
            (fin ((false, (y10.1.getD (0 + 0) 0, y11)), true)))
          (none)))))
def impl_ParsePile (x0 : ByteArray) : Option ((Bool × Int × (List DLot)) × Bool) := impl_ParsePileK some x0
theorem p16 {R : Type} (fin : (Bool × Int × (List DLot)) × Bool → Option R) (x0 : ByteArray) : Par fin (impl_ParsePileK some x0) (impl_ParsePileK fin x0) := by
  unfold impl_ParsePileK
  repeat' (first | exact .fin | exact .none | refine .cond ?_ ?_ | refine .bind fun _ => ?_ | refine .sum (fun _ => ?_) fun _ => ?_)
def or16 : Ora := { lo := addL 11 (Limpl_ParsePile_l0) lo0, fin := [.own (.cell 2 2) TLot] }
theorem impl_ParsePile_l0e (a1 : Bool) (a2 : Int) (a3 : Bool) (a4 : Int) (a6 : List Int) (k : Nat) (a0 : Int) (a5 : List DLot) : loopC Tryd.prog EL16 or16 ((loopsIn (codeOf Tryd.f16)).getD 0 .skip) (Limpl_ParsePile_l0).h (Limpl_ParsePile_l0).ho Tryd.f16.ntmps (k + 1) (simpl_ParsePile_l0.out (((), ((), ((), (a0, ())))), ((a1, (a2, ((), ()))), ((a3, (a4, ((), ()))), (a5, (a6, ())))))) =
    impl_ParsePile_l0K a6 (fun a0 a5 => loopC Tryd.prog EL16 or16 ((loopsIn (codeOf Tryd.f16)).getD 0 .skip) (Limpl_ParsePile_l0).h (Limpl_ParsePile_l0).ho Tryd.f16.ntmps k (simpl_ParsePile_l0.out (((), ((), ((), (a0, ())))), ((a1, (a2, ((), ()))), ((a3, (a4, ((), ()))), (a5, (a6, ()))))))) (fun y => some (XS.out ximpl_ParsePile_l0 (a1, (a2, (a3, (a4, a6)))) y)) a0 a5 := by kernel_rfl
theorem impl_ParsePile_l0o : LoopOk Tryd.prog EL16 or16 Tryd.f16.ntmps ((loopsIn (codeOf Tryd.f16)).getD 0 .skip) (Limpl_ParsePile_l0) :=
  loop_lim (hs := simpl_ParsePile_l0) (xs := ximpl_ParsePile_l0) (ι := fun (x : (Unit × Unit × Unit × Int × Unit) × ((Bool × Int × Unit × Unit) × (Bool × Int × Unit × Unit) × (List DLot) × (List Int) × Unit)) => (x.2.1.1, (x.2.1.2.1, (x.2.2.1.1, (x.2.2.1.2.1, x.2.2.2.2.1))))) (φ := fun (x : (Unit × Unit × Unit × Int × Unit) × ((Bool × Int × Unit × Unit) × (Bool × Int × Unit × Unit) × (List DLot) × (List Int) × Unit)) => (x.1.2.2.2.1, x.2.2.2.1)) (ψ := fun (i : Bool × Int × Bool × Int × (List Int)) (v : Int × (List DLot)) => (((), ((), ((), (v.1, ())))), ((i.1, (i.2.1, ((), ()))), ((i.2.2.1, (i.2.2.2.1, ((), ()))), (v.2, (i.2.2.2.2, ())))))) (F := fun (i : Bool × Int × Bool × Int × (List Int)) => impl_ParsePile_l0F i.2.2.2.2) (fun _ => rfl) fun i k hk v => Par.of_eq (impl_ParsePile_l0e i.1 i.2.1 i.2.2.1 i.2.2.2.1 i.2.2.2.2 k v.1 v.2) (impl_ParsePile_l0p i.2.2.2.2 (fun a0 a5 => hk (a0, a5)) v.1 v.2)
def c16 : Callee := mkC [.one (.ro .str)] 2 [.agg [.ro .bool, .ro (.int .i64), .sl TLot], .one (.ro .bool)] fun x => impl_ParsePile x
theorem e16 (x : PK.dens [.one (.ro .str)]) : evalFn Tryd.prog EL16 or16 Tryd.f16 (PK.outs [.one (.ro .str)] x) =
    impl_ParsePileK (fun y => some (tupOf ((PK.outs [.agg [.ro .bool, .ro (.int .i64), .sl TLot], .one (.ro .bool)] y).take 2), (PK.outs [.agg [.ro .bool, .ro (.int .i64), .sl TLot], .one (.ro .bool)] y).drop 2)) x := by kernel_rfl
theorem o16 : LoOk Tryd.prog EL16 or16 Tryd.f16.ntmps (loopsIn (codeOf Tryd.f16)) :=
  LoOk.mk (m := 1) (by kernel_rfl) fun i hi => match i, hi with
    | 0, _ => ⟨Limpl_ParsePile_l0, by kernel_rfl, impl_ParsePile_l0o⟩
    | i + 1, hi => absurd hi (by omega)
theorem k16 : CalleeOk Tryd.prog 16 c16 := callee_mk Tryd.func16 (code := codeOf Tryd.f16) (by kernel_rfl) vL16 mixed o16 fun x y h => (e16 x).trans (p16 _ x y h)

/-- spec.l1Cur).of -/
def EL37 : Nat → Option Callee := addE 20 c20 env0
theorem vL37 : EnvOk Tryd.prog EL37 := EnvOk.nil.add Tryd.func20 rfl (by kernel_rfl) k20
def spec_l1Cur_ofK {R : Type} (fin : ByteArray × ((List Int) × Int × Int) → Option R) (x0 : (List Int) × Int × Int) (x1 : List ByteArray) : Option R :=
  (spec_l1Cur_pick x0 (x1.length : Int)).bind fun y1 =>
  (lat x1 y1.1).bind fun e2 =>
  fin (e2, y1.2)
def spec_l1Cur_of (x0 : (List Int) × Int × Int) (x1 : List ByteArray) : Option (ByteArray × ((List Int) × Int × Int)) := spec_l1Cur_ofK some x0 x1
theorem p37 {R : Type} (fin : ByteArray × ((List Int) × Int × Int) → Option R) (x0 : (List Int) × Int × Int) (x1 : List ByteArray) : Par fin (spec_l1Cur_ofK some x0 x1) (spec_l1Cur_ofK fin x0 x1) := by
  unfold spec_l1Cur_ofK
  repeat' (first | exact .fin | exact .none | refine .cond ?_ ?_ | refine .bind fun _ => ?_ | refine .sum (fun _ => ?_) fun _ => ?_)
def c37 : Callee := mkC [.box [.ro (.slice (.int .u8)), .ro (.int .i64), .ro (.int .u64)], .one (.ro (.slice .str))] 1 [.one (.ro .str), .box [.ro (.slice (.int .u8)), .ro (.int .i64), .ro (.int .u64)]] fun x => spec_l1Cur_of x.1 x.2
theorem e37 (x : PK.dens [.box [.ro (.slice (.int .u8)), .ro (.int .i64), .ro (.int .u64)], .one (.ro (.slice .str))]) : evalFn Tryd.prog EL37 or0 Tryd.f37 (PK.outs [.box [.ro (.slice (.int .u8)), .ro (.int .i64), .ro (.int .u64)], .one (.ro (.slice .str))] x) =
    spec_l1Cur_ofK (fun y => some (tupOf ((PK.outs [.one (.ro .str), .box [.ro (.slice (.int .u8)), .ro (.int .i64), .ro (.int .u64)]] y).take 1), (PK.outs [.one (.ro .str), .box [.ro (.slice (.int .u8)), .ro (.int .i64), .ro (.int .u64)]] y).drop 1)) x.1 x.2 := by kernel_rfl
theorem k37 : CalleeOk Tryd.prog 37 c37 := callee_mk Tryd.func37 (code := codeOf Tryd.f37) (by kernel_rfl) vL37 mixed (LoOk.nil (by kernel_rfl)) fun x y h => (e37 x).trans (p37 _ x.1 x.2 y h)

/-- spec.l1Cur).spoilt -/
def EL38 : Nat → Option Callee := addE 20 c20 env0
theorem vL38 : EnvOk Tryd.prog EL38 := EnvOk.nil.add Tryd.func20 rfl (by kernel_rfl) k20
def sspec_l1Cur_spoilt_l0 : LS := ⟨[(0, .one (.fix (.ptr 0 0))), (1, .one (.dat .str)), (2, .one (.dat .str)), (7, .one (.dat (.int .i64)))], [.box [.dat (.slice (.int .u8)), .dat (.int .i64), .dat (.int .u64)]], [0]⟩
def sspec_l1Cur_spoilt_l0x0 : LS := ⟨[(0, .one (.fix (.ptr 0 0))), (1, .one (.dat .str))], [.box [.dat (.slice (.int .u8)), .dat (.int .i64), .dat (.int .u64)]], [0]⟩
def xspec_l1Cur_spoilt_l0 : List (XS (ByteArray)) := [⟨.exit 0, ⟨[0, 1], [.slot 0], [0], []⟩, sspec_l1Cur_spoilt_l0x0, ByteArray × (List Int) × Int × Int, fun i y => (((), (y.1, ())), ((y.2.1, (y.2.2.1, (y.2.2.2, ()))), ()))⟩]
def spec_l1Cur_spoilt_l0K {R : Type} (a1 : ByteArray) (rc : ByteArray → Int → List Int → Int → Int → Option R) (fin : ByteArray × (List Int) × Int × Int → Option R) (a0 : ByteArray) (a2 : Int) (a3 : List Int) (a4 : Int) (a5 : Int) : Option R :=
  cond (decide (a2 > 0))
  (cond (decide ((a0.size : Int) > 0))
    ((spec_l1Cur_pick (a3, (a4, a5)) (a0.size : Int)).bind fun y1 =>
      (spec_l1Cur_pick y1.2 (a1.size : Int)).bind fun y2 =>
      (bat a1 y2.1).bind fun e3 =>
      (some (strOfNums [e3])).bind fun v4 =>
      (spec_l1Cur_pick y2.2 3).bind fun y5 =>
      cond (y5.1 == 0)
      (cond (decide ((0 : Int) ≤ y1.1) && decide (y1.1 ≤ (a0.size : Int)))
        ((some (a0.extract 0 y1.1.toNat)).bind fun v6 =>
          cond (decide (v6.size + v4.size ≤ 9223372036854775807))
          (cond (decide ((0 : Int) ≤ y1.1) && (decide (y1.1 ≤ (a0.size : Int)) && decide ((a0.size : Int) ≤ (a0.size : Int))))
            ((some (a0.extract y1.1.toNat ((a0.size : Int).toNat))).bind fun v7 =>
              cond (decide ((v6 ++ v4).size + v7.size ≤ 9223372036854775807))
              ((some ((v6 ++ v4) ++ v7)).bind fun v8 =>
                rc v8 (IntKind.i64.wrap (a2 - 1)) y5.2.1 y5.2.2.1 y5.2.2.2)
              (none))
            (none))
          (none))
        (none))
      (cond (y5.1 == 1)
        (cond (decide ((0 : Int) ≤ y1.1) && decide (y1.1 ≤ (a0.size : Int)))
          ((some (a0.extract 0 y1.1.toNat)).bind fun v9 =>
            cond (decide (v9.size + v4.size ≤ 9223372036854775807))
            (cond (decide ((0 : Int) ≤ IntKind.i64.wrap (y1.1 + 1)) && (decide (IntKind.i64.wrap (y1.1 + 1) ≤ (a0.size : Int)) && decide ((a0.size : Int) ≤ (a0.size : Int))))
              ((some (a0.extract ((IntKind.i64.wrap (y1.1 + 1)).toNat) ((a0.size : Int).toNat))).bind fun v10 =>
                cond (decide ((v9 ++ v4).size + v10.size ≤ 9223372036854775807))
                ((some ((v9 ++ v4) ++ v10)).bind fun v11 =>
                  rc v11 (IntKind.i64.wrap (a2 - 1)) y5.2.1 y5.2.2.1 y5.2.2.2)
                (none))
              (none))
            (none))
          (none))
        (cond (decide ((0 : Int) ≤ y1.1) && decide (y1.1 ≤ (a0.size : Int)))
          ((some (a0.extract 0 y1.1.toNat)).bind fun v12 =>
            cond (decide ((0 : Int) ≤ IntKind.i64.wrap (y1.1 + 1)) && (decide (IntKind.i64.wrap (y1.1 + 1) ≤ (a0.size : Int)) && decide ((a0.size : Int) ≤ (a0.size : Int))))
            ((some (a0.extract ((IntKind.i64.wrap (y1.1 + 1)).toNat) ((a0.size : Int).toNat))).bind fun v13 =>
              cond (decide (v12.size + v13.size ≤ 9223372036854775807))
              (rc (v12 ++ v13) (IntKind.i64.wrap (a2 - 1)) y5.2.1 y5.2.2.1 y5.2.2.2)
              (none))
            (none))
          (none))))
    (fin (a0, (a3, (a4, a5)))))
  (fin (a0, (a3, (a4, a5))))
def spec_l1Cur_spoilt_l0F (a1 : ByteArray) (r : (ByteArray × Int × (List Int) × Int × Int) → Option (ByteArray × (List Int) × Int × Int)) (x : ByteArray × Int × (List Int) × Int × Int) : Option (ByteArray × (List Int) × Int × Int) := spec_l1Cur_spoilt_l0K a1 (fun a0 a2 a3 a4 a5 => r (a0, (a2, (a3, (a4, a5))))) some x.1 x.2.1 x.2.2.1 x.2.2.2.1 x.2.2.2.2
set_option maxHeartbeats 4000000 in
theorem spec_l1Cur_spoilt_l0c (a1 : ByteArray) (x : ByteArray × Int × (List Int) × Int × Int) : Ct fun r => spec_l1Cur_spoilt_l0F a1 r x := by
  unfold spec_l1Cur_spoilt_l0F spec_l1Cur_spoilt_l0K
  repeat' (first | exact Ct.const | exact Ct.call | refine Ct.cond ?_ ?_ | refine Ct.bind ?_ fun _ => ?_ | refine Ct.sum (fun _ => ?_) fun _ => ?_)
def spec_l1Cur_spoilt_l0 (a1 : ByteArray) (a0 : ByteArray) (a2 : Int) (a3 : List Int) (a4 : Int) (a5 : Int) : Option (ByteArray × (List Int) × Int × Int) := lim (spec_l1Cur_spoilt_l0F a1) (a0, (a2, (a3, (a4, a5))))
theorem spec_l1Cur_spoilt_l0_eq (a1 : ByteArray) (a0 : ByteArray) (a2 : Int) (a3 : List Int) (a4 : Int) (a5 : Int) : spec_l1Cur_spoilt_l0 a1 a0 a2 a3 a4 a5 = spec_l1Cur_spoilt_l0K a1 (spec_l1Cur_spoilt_l0 a1) some a0 a2 a3 a4 a5 := lim_eq (spec_l1Cur_spoilt_l0c a1) (a0, (a2, (a3, (a4, a5))))
set_option maxHeartbeats 4000000 in
theorem spec_l1Cur_spoilt_l0p {R : Type} (a1 : ByteArray) {rc : ByteArray → Int → List Int → Int → Int → Option (ByteArray × (List Int) × Int × Int)} {rc' : ByteArray → Int → List Int → Int → Int → Option R} {fin : ByteArray × (List Int) × Int × Int → Option R} (hr : ∀ a0 a2 a3 a4 a5, Par fin (rc a0 a2 a3 a4 a5) (rc' a0 a2 a3 a4 a5)) (a0 : ByteArray) (a2 : Int) (a3 : List Int) (a4 : Int) (a5 : Int) : Par fin (spec_l1Cur_spoilt_l0K a1 rc some a0 a2 a3 a4 a5) (spec_l1Cur_spoilt_l0K a1 rc' fin a0 a2 a3 a4 a5) := by
  unfold spec_l1Cur_spoilt_l0K
  repeat' (first | exact .fin | exact .none | exact hr _ _ _ _ _ | refine .cond ?_ ?_ | refine .bind fun _ => ?_ | refine .sum (fun _ => ?_) fun _ => ?_)
def Lspec_l1Cur_spoilt_l0 : Loop := mkL ⟨[0, 1, 2, 7], [.slot 0], [0], []⟩ sspec_l1Cur_spoilt_l0 xspec_l1Cur_spoilt_l0 (fun (x : (Unit × ByteArray × ByteArray × Int × Unit) × (((List Int) × Int × Int × Unit) × Unit)) => x.1.2.2.1) fun (x : (Unit × ByteArray × ByteArray × Int × Unit) × (((List Int) × Int × Int × Unit) × Unit)) => spec_l1Cur_spoilt_l0 x.1.2.2.1 x.1.2.1 x.1.2.2.2.1 x.2.1.1 x.2.1.2.1 x.2.1.2.2.1
def spec_l1Cur_spoiltK {R : Type} (fin : ByteArray × ((List Int) × Int × Int) → Option R) (x0 : (List Int) × Int × Int) (x1 : ByteArray) (x2 : ByteArray) : Option R :=
  (spec_l1Cur_pick x0 2).bind fun y1 =>
  (spec_l1Cur_spoilt_l0 x2 x1 (IntKind.i64.wrap (1 + y1.1)) y1.2.1 y1.2.2.1 y1.2.2.2).bind fun y15 =>
  fin y15
def spec_l1Cur_spoilt (x0 : (List Int) × Int × Int) (x1 : ByteArray) (x2 : ByteArray) : Option (ByteArray × ((List Int) × Int × Int)) := spec_l1Cur_spoiltK some x0 x1 x2
theorem p38 {R : Type} (fin : ByteArray × ((List Int) × Int × Int) → Option R) (x0 : (List Int) × Int × Int) (x1 : ByteArray) (x2 : ByteArray) : Par fin (spec_l1Cur_spoiltK some x0 x1 x2) (spec_l1Cur_spoiltK fin x0 x1 x2) := by
  unfold spec_l1Cur_spoiltK
  repeat' (first | exact .fin | exact .none | refine .cond ?_ ?_ | refine .bind fun _ => ?_ | refine .sum (fun _ => ?_) fun _ => ?_)
def or38 : Ora := { lo := addL 2 (Lspec_l1Cur_spoilt_l0) lo0, fin := [] }
theorem spec_l1Cur_spoilt_l0e (a1 : ByteArray) (k : Nat) (a0 : ByteArray) (a2 : Int) (a3 : List Int) (a4 : Int) (a5 : Int) : loopC Tryd.prog EL38 or38 ((loopsIn (codeOf Tryd.f38)).getD 0 .skip) (Lspec_l1Cur_spoilt_l0).h (Lspec_l1Cur_spoilt_l0).ho Tryd.f38.ntmps (k + 1) (sspec_l1Cur_spoilt_l0.out (((), (a0, (a1, (a2, ())))), ((a3, (a4, (a5, ()))), ()))) =
    spec_l1Cur_spoilt_l0K a1 (fun a0 a2 a3 a4 a5 => loopC Tryd.prog EL38 or38 ((loopsIn (codeOf Tryd.f38)).getD 0 .skip) (Lspec_l1Cur_spoilt_l0).h (Lspec_l1Cur_spoilt_l0).ho Tryd.f38.ntmps k (sspec_l1Cur_spoilt_l0.out (((), (a0, (a1, (a2, ())))), ((a3, (a4, (a5, ()))), ())))) (fun y => some (XS.out xspec_l1Cur_spoilt_l0 a1 y)) a0 a2 a3 a4 a5 := by kernel_rfl
theorem spec_l1Cur_spoilt_l0o : LoopOk Tryd.prog EL38 or38 Tryd.f38.ntmps ((loopsIn (codeOf Tryd.f38)).getD 0 .skip) (Lspec_l1Cur_spoilt_l0) :=
  loop_lim (hs := sspec_l1Cur_spoilt_l0) (xs := xspec_l1Cur_spoilt_l0) (ι := fun (x : (Unit × ByteArray × ByteArray × Int × Unit) × (((List Int) × Int × Int × Unit) × Unit)) => x.1.2.2.1) (φ := fun (x : (Unit × ByteArray × ByteArray × Int × Unit) × (((List Int) × Int × Int × Unit) × Unit)) => (x.1.2.1, (x.1.2.2.2.1, (x.2.1.1, (x.2.1.2.1, x.2.1.2.2.1))))) (ψ := fun (i : ByteArray) (v : ByteArray × Int × (List Int) × Int × Int) => (((), (v.1, (i, (v.2.1, ())))), ((v.2.2.1, (v.2.2.2.1, (v.2.2.2.2, ()))), ()))) (F := fun (i : ByteArray) => spec_l1Cur_spoilt_l0F i) (fun _ => rfl) fun i k hk v => Par.of_eq (spec_l1Cur_spoilt_l0e i k v.1 v.2.1 v.2.2.1 v.2.2.2.1 v.2.2.2.2) (spec_l1Cur_spoilt_l0p i (fun a0 a2 a3 a4 a5 => hk (a0, (a2, (a3, (a4, a5))))) v.1 v.2.1 v.2.2.1 v.2.2.2.1 v.2.2.2.2)
def c38 : Callee := mkC [.box [.ro (.slice (.int .u8)), .ro (.int .i64), .ro (.int .u64)], .one (.ro .str), .one (.ro .str)] 1 [.one (.ro .str), .box [.ro (.slice (.int .u8)), .ro (.int .i64), .ro (.int .u64)]] fun x => spec_l1Cur_spoilt x.1 x.2.1 x.2.2
theorem e38 (x : PK.dens [.box [.ro (.slice (.int .u8)), .ro (.int .i64), .ro (.int .u64)], .one (.ro .str), .one (.ro .str)]) : evalFn Tryd.prog EL38 or38 Tryd.f38 (PK.outs [.box [.ro (.slice (.int .u8)), .ro (.int .i64), .ro (.int .u64)], .one (.ro .str), .one (.ro .str)] x) =
    spec_l1Cur_spoiltK (fun y => some (tupOf ((PK.outs [.one (.ro .str), .box [.ro (.slice (.int .u8)), .ro (.int .i64), .ro (.int .u64)]] y).take 1), (PK.outs [.one (.ro .str), .box [.ro (.slice (.int .u8)), .ro (.int .i64), .ro (.int .u64)]] y).drop 1)) x.1 x.2.1 x.2.2 := by kernel_rfl
theorem o38 : LoOk Tryd.prog EL38 or38 Tryd.f38.ntmps (loopsIn (codeOf Tryd.f38)) :=
  LoOk.mk (m := 1) (by kernel_rfl) fun i hi => match i, hi with
    | 0, _ => ⟨Lspec_l1Cur_spoilt_l0, by kernel_rfl, spec_l1Cur_spoilt_l0o⟩
    | i + 1, hi => absurd hi (by omega)
theorem k38 : CalleeOk Tryd.prog 38 c38 := callee_mk Tryd.func38 (code := codeOf Tryd.f38) (by kernel_rfl) vL38 mixed o38 fun x y h => (e38 x).trans (p38 _ x.1 x.2.1 x.2.2 y h)

/-- spec.DrawParsePile -/
def EL17 : Nat → Option Callee := addE 38 c38 (addE 21 c21 (addE 33 c33 (addE 37 c37 (addE 27 c27 (addE 19 c19 env0)))))
theorem vL17 : EnvOk Tryd.prog EL17 := (((((EnvOk.nil.add Tryd.func19 rfl (by kernel_rfl) k19).add Tryd.func27 rfl (by kernel_rfl) k27).add Tryd.func37 rfl (by kernel_rfl) k37).add Tryd.func33 rfl (by kernel_rfl) k33).add Tryd.func21 rfl (by kernel_rfl) k21).add Tryd.func38 rfl (by kernel_rfl) k38
def spec_DrawParsePileK {R : Type} (fin : ByteArray → Option R) (x0 : List Int) : Option R :=
  (spec_l1Cur_pile (x0, (0, 0))).bind fun y1 =>
  (spec_spGood (y1.1.1, (y1.1.2.1, (y1.1.2.2, ())))).bind fun y2 =>
  cond (!y2)
  ((spec_l1Cur_of y1.2 [(⟨#[111, 114, 100, 101, 114, 32, 48]⟩ : ByteArray), (⟨#[109, 105, 120, 101, 100, 32, 48, 49, 48]⟩ : ByteArray), (⟨#[111, 114, 100, 101, 114]⟩ : ByteArray), (⟨#[]⟩ : ByteArray), (⟨#[111, 114, 100, 101, 114, 32, 49, 48, 48, 48, 48, 48, 48, 49]⟩ : ByteArray)]).bind fun y3 =>
    fin y3.1)
  ((spec_spText (y1.1.1, (y1.1.2.1, (y1.1.2.2, ())))).bind fun y4 =>
    (spec_l1Cur_one y1.2 3).bind fun y5 =>
    cond (y5.1)
    ((spec_l1Cur_spoilt y5.2 y4 (⟨#[48, 49, 32, 109, 111]⟩ : ByteArray)).bind fun y6 =>
      fin y6.1)
    (fin y4))
def spec_DrawParsePile (x0 : List Int) : Option (ByteArray) := spec_DrawParsePileK some x0
theorem p17 {R : Type} (fin : ByteArray → Option R) (x0 : List Int) : Par fin (spec_DrawParsePileK some x0) (spec_DrawParsePileK fin x0) := by
  unfold spec_DrawParsePileK
  repeat' (first | exact .fin | exact .none | refine .cond ?_ ?_ | refine .bind fun _ => ?_ | refine .sum (fun _ => ?_) fun _ => ?_)
def c17 : Callee := mkC [.one (.ro (.slice (.int .u8)))] 1 [.one (.ro .str)] fun x => spec_DrawParsePile x
theorem e17 (x : PK.dens [.one (.ro (.slice (.int .u8)))]) : evalFn Tryd.prog EL17 or0 Tryd.f17 (PK.outs [.one (.ro (.slice (.int .u8)))] x) =
    spec_DrawParsePileK (fun y => some (tupOf ((PK.outs [.one (.ro .str)] y).take 1), (PK.outs [.one (.ro .str)] y).drop 1)) x := by kernel_rfl
theorem k17 : CalleeOk Tryd.prog 17 c17 := callee_mk Tryd.func17 (code := codeOf Tryd.f17) (by kernel_rfl) vL17 mixed (LoOk.nil (by kernel_rfl)) fun x y h => (e17 x).trans (p17 _ x y h)

/-- spec.l1Split -/
def EL39 : Nat → Option Callee := env0
theorem vL39 : EnvOk Tryd.prog EL39 := EnvOk.nil
def sspec_l1Split_l0 : LS := ⟨[(0, .one (.dat .str)), (1, .one (.dat (.int .u8))), (5, .one (.fix (.sref 0))), (6, .one (.dat (.int .i64))), (7, .one (.dat (.int .i64)))], [.sl .str], []⟩
def sspec_l1Split_l0x0 : LS := ⟨[(0, .one (.dat .str)), (5, .one (.fix (.sref 0))), (6, .one (.dat (.int .i64)))], [.sl .str], []⟩
def xspec_l1Split_l0 : List (XS (ByteArray × Int)) := [⟨.exit 0, ⟨[0, 5, 6], [.slot 5], [], []⟩, sspec_l1Split_l0x0, Int × (List ByteArray), fun i y => ((i.1, ((), (y.1, ()))), (y.2, ()))⟩]
def spec_l1Split_l0K {R : Type} (a0 : ByteArray) (a1 : Int) (rc : Int → Int → List ByteArray → Option R) (fin : Int × (List ByteArray) → Option R) (a2 : Int) (a3 : Int) (a4 : List ByteArray) : Option R :=
  cond (decide (a3 < (a0.size : Int)))
  ((bat a0 a3).bind fun e1 =>
    cond (e1 == a1)
    (cond (decide ((0 : Int) ≤ a2) && (decide (a2 ≤ a3) && decide (a3 ≤ (a0.size : Int))))
      ((some (a0.extract a2.toNat a3.toNat)).bind fun v2 =>
        cond (decide (a4.length + [v2].length ≤ 1099511627776))
        (rc (IntKind.i64.wrap (a3 + 1)) (IntKind.i64.wrap (a3 + 1)) (a4 ++ [v2]))
        (none))
      (none))
    (rc a2 (IntKind.i64.wrap (a3 + 1)) a4))
  (fin (a2, a4))
def spec_l1Split_l0F (a0 : ByteArray) (a1 : Int) (r : (Int × Int × (List ByteArray)) → Option (Int × (List ByteArray))) (x : Int × Int × (List ByteArray)) : Option (Int × (List ByteArray)) := spec_l1Split_l0K a0 a1 (fun a2 a3 a4 => r (a2, (a3, a4))) some x.1 x.2.1 x.2.2
theorem spec_l1Split_l0c (a0 : ByteArray) (a1 : Int) (x : Int × Int × (List ByteArray)) : Ct fun r => spec_l1Split_l0F a0 a1 r x := by
  unfold spec_l1Split_l0F spec_l1Split_l0K
  repeat' (first | exact Ct.const | exact Ct.call | refine Ct.cond ?_ ?_ | refine Ct.bind ?_ fun _ => ?_ | refine Ct.sum (fun _ => ?_) fun _ => ?_)
def spec_l1Split_l0 (a0 : ByteArray) (a1 : Int) (a2 : Int) (a3 : Int) (a4 : List ByteArray) : Option (Int × (List ByteArray)) := lim (spec_l1Split_l0F a0 a1) (a2, (a3, a4))
theorem spec_l1Split_l0_eq (a0 : ByteArray) (a1 : Int) (a2 : Int) (a3 : Int) (a4 : List ByteArray) : spec_l1Split_l0 a0 a1 a2 a3 a4 = spec_l1Split_l0K a0 a1 (spec_l1Split_l0 a0 a1) some a2 a3 a4 := lim_eq (spec_l1Split_l0c a0 a1) (a2, (a3, a4))
theorem spec_l1Split_l0p {R : Type} (a0 : ByteArray) (a1 : Int) {rc : Int → Int → List ByteArray → Option (Int × (List ByteArray))} {rc' : Int → Int → List ByteArray → Option R} {fin : Int × (List ByteArray) → Option R} (hr : ∀ a2 a3 a4, Par fin (rc a2 a3 a4) (rc' a2 a3 a4)) (a2 : Int) (a3 : Int) (a4 : List ByteArray) : Par fin (spec_l1Split_l0K a0 a1 rc some a2 a3 a4) (spec_l1Split_l0K a0 a1 rc' fin a2 a3 a4) := by
  unfold spec_l1Split_l0K
  repeat' (first | exact .fin | exact .none | exact hr _ _ _ | refine .cond ?_ ?_ | refine .bind fun _ => ?_ | refine .sum (fun _ => ?_) fun _ => ?_)
def Lspec_l1Split_l0 : Loop := mkL ⟨[0, 1, 5, 6, 7], [.slot 5], [], [.own (.slot 5) .str]⟩ sspec_l1Split_l0 xspec_l1Split_l0 (fun (x : (ByteArray × Int × Unit × Int × Int × Unit) × ((List ByteArray) × Unit)) => (x.1.1, x.1.2.1)) fun (x : (ByteArray × Int × Unit × Int × Int × Unit) × ((List ByteArray) × Unit)) => spec_l1Split_l0 x.1.1 x.1.2.1 x.1.2.2.2.1 x.1.2.2.2.2.1 x.2.1
def spec_l1SplitK {R : Type} (fin : List ByteArray → Option R) (x0 : ByteArray) (x1 : Int) : Option R :=
  (spec_l1Split_l0 x0 x1 0 0 []).bind fun y5 =>
  cond (decide ((0 : Int) ≤ y5.1) && (decide (y5.1 ≤ (x0.size : Int)) && decide ((x0.size : Int) ≤ (x0.size : Int))))
  ((some (x0.extract y5.1.toNat ((x0.size : Int).toNat))).bind fun v6 =>
    cond (decide (y5.2.length + [v6].length ≤ 1099511627776))
    ((some (y5.2 ++ [v6])).bind fun v7 =>
      fin v7)
    (none))
  (none)
def spec_l1Split (x0 : ByteArray) (x1 : Int) : Option (List ByteArray) := spec_l1SplitK some x0 x1
theorem p39 {R : Type} (fin : List ByteArray → Option R) (x0 : ByteArray) (x1 : Int) : Par fin (spec_l1SplitK some x0 x1) (spec_l1SplitK fin x0 x1) := by
  unfold spec_l1SplitK
  repeat' (first | exact .fin | exact .none | refine .cond ?_ ?_ | refine .bind fun _ => ?_ | refine .sum (fun _ => ?_) fun _ => ?_)
def or39 : Ora := { lo := addL 4 (Lspec_l1Split_l0) lo0, fin := [] }
theorem spec_l1Split_l0e (a0 : ByteArray) (a1 : Int) (k : Nat) (a2 : Int) (a3 : Int) (a4 : List ByteArray) : loopC Tryd.prog EL39 or39 ((loopsIn (codeOf Tryd.f39)).getD 0 .skip) (Lspec_l1Split_l0).h (Lspec_l1Split_l0).ho Tryd.f39.ntmps (k + 1) (sspec_l1Split_l0.out ((a0, (a1, ((), (a2, (a3, ()))))), (a4, ()))) =
    spec_l1Split_l0K a0 a1 (fun a2 a3 a4 => loopC Tryd.prog EL39 or39 ((loopsIn (codeOf Tryd.f39)).getD 0 .skip) (Lspec_l1Split_l0).h (Lspec_l1Split_l0).ho Tryd.f39.ntmps k (sspec_l1Split_l0.out ((a0, (a1, ((), (a2, (a3, ()))))), (a4, ())))) (fun y => some (XS.out xspec_l1Split_l0 (a0, a1) y)) a2 a3 a4 := by kernel_rfl
theorem spec_l1Split_l0o : LoopOk Tryd.prog EL39 or39 Tryd.f39.ntmps ((loopsIn (codeOf Tryd.f39)).getD 0 .skip) (Lspec_l1Split_l0) :=
  loop_lim (hs := sspec_l1Split_l0) (xs := xspec_l1Split_l0) (ι := fun (x : (ByteArray × Int × Unit × Int × Int × Unit) × ((List ByteArray) × Unit)) => (x.1.1, x.1.2.1)) (φ := fun (x : (ByteArray × Int × Unit × Int × Int × Unit) × ((List ByteArray) × Unit)) => (x.1.2.2.2.1, (x.1.2.2.2.2.1, x.2.1))) (ψ := fun (i : ByteArray × Int) (v : Int × Int × (List ByteArray)) => ((i.1, (i.2, ((), (v.1, (v.2.1, ()))))), (v.2.2, ()))) (F := fun (i : ByteArray × Int) => spec_l1Split_l0F i.1 i.2) (fun _ => rfl) fun i k hk v => Par.of_eq (spec_l1Split_l0e i.1 i.2 k v.1 v.2.1 v.2.2) (spec_l1Split_l0p i.1 i.2 (fun a2 a3 a4 => hk (a2, (a3, a4))) v.1 v.2.1 v.2.2)
def c39 : Callee := mkC [.one (.ro .str), .one (.ro (.int .u8))] 1 [.one (.sl .str)] fun x => spec_l1Split x.1 x.2
theorem e39 (x : PK.dens [.one (.ro .str), .one (.ro (.int .u8))]) : evalFn Tryd.prog EL39 or39 Tryd.f39 (PK.outs [.one (.ro .str), .one (.ro (.int .u8))] x) =
    spec_l1SplitK (fun y => some (tupOf ((PK.outs [.one (.sl .str)] y).take 1), (PK.outs [.one (.sl .str)] y).drop 1)) x.1 x.2 := by kernel_rfl
theorem o39 : LoOk Tryd.prog EL39 or39 Tryd.f39.ntmps (loopsIn (codeOf Tryd.f39)) :=
  LoOk.mk (m := 1) (by kernel_rfl) fun i hi => match i, hi with
    | 0, _ => ⟨Lspec_l1Split_l0, by kernel_rfl, spec_l1Split_l0o⟩
    | i + 1, hi => absurd hi (by omega)
theorem k39 : CalleeOk Tryd.prog 39 c39 := callee_mk Tryd.func39 (code := codeOf Tryd.f39) (by kernel_rfl) vL39 mixed o39 fun x y h => (e39 x).trans (p39 _ x.1 x.2 y h)

/-- spec.spNumber -/
def EL40 : Nat → Option Callee := addE 48 c48 env0
theorem vL40 : EnvOk Tryd.prog EL40 := EnvOk.nil.add Tryd.func48 rfl (by kernel_rfl) k48
def sspec_spNumber_l0 : LS := ⟨[(0, .one (.dat .str)), (3, .one (.dat (.int .i64))), (4, .one (.dat (.int .i64)))], [], []⟩
def sspec_spNumber_l0x0 : LS := ⟨[(2, .one (.dat (.int .i64)))], [], []⟩
def sspec_spNumber_l0x1 : LS := ⟨[(3, .one (.dat (.int .i64)))], [], []⟩
def xspec_spNumber_l0 : List (XS (ByteArray)) := [⟨.ret, ⟨[2], [], [], []⟩, sspec_spNumber_l0x0, Int, fun i y => ((y, ()), ())⟩,
  ⟨.exit 0, ⟨[3], [], [], []⟩, sspec_spNumber_l0x1, Int, fun i y => ((y, ()), ())⟩]
def spec_spNumber_l0K {R : Type} (a0 : ByteArray) (rc : Int → Int → Option R) (fin : (Int ⊕ Int) → Option R) (a1 : Int) (a2 : Int) : Option R :=
  cond (decide (a2 < (a0.size : Int)))
  ((bat a0 a2).bind fun e1 =>
    cond (decide (e1 < 48))
    (fin (.inl (-1)))
    ((bat a0 a2).bind fun e2 =>
      cond (decide (e2 > 57))
      (fin (.inl (-1)))
      ((bat a0 a2).bind fun e3 =>
        (some (IntKind.i64.wrap ((IntKind.i64.wrap (10 * a1)) + (IntKind.i64.wrap (IntKind.u8.wrap (e3 - 48)))))).bind fun v4 =>
        rc v4 (IntKind.i64.wrap (a2 + 1)))))
  (fin (.inr a1))
def spec_spNumber_l0F (a0 : ByteArray) (r : (Int × Int) → Option (Int ⊕ Int)) (x : Int × Int) : Option (Int ⊕ Int) := spec_spNumber_l0K a0 (fun a1 a2 => r (a1, a2)) some x.1 x.2
theorem spec_spNumber_l0c (a0 : ByteArray) (x : Int × Int) : Ct fun r => spec_spNumber_l0F a0 r x := by
  unfold spec_spNumber_l0F spec_spNumber_l0K
  repeat' (first | exact Ct.const | exact Ct.call | refine Ct.cond ?_ ?_ | refine Ct.bind ?_ fun _ => ?_ | refine Ct.sum (fun _ => ?_) fun _ => ?_)
def spec_spNumber_l0 (a0 : ByteArray) (a1 : Int) (a2 : Int) : Option (Int ⊕ Int) := lim (spec_spNumber_l0F a0) (a1, a2)
theorem spec_spNumber_l0_eq (a0 : ByteArray) (a1 : Int) (a2 : Int) : spec_spNumber_l0 a0 a1 a2 = spec_spNumber_l0K a0 (spec_spNumber_l0 a0) some a1 a2 := lim_eq (spec_spNumber_l0c a0) (a1, a2)
theorem spec_spNumber_l0p {R : Type} (a0 : ByteArray) {rc : Int → Int → Option (Int ⊕ Int)} {rc' : Int → Int → Option R} {fin : (Int ⊕ Int) → Option R} (hr : ∀ a1 a2, Par fin (rc a1 a2) (rc' a1 a2)) (a1 : Int) (a2 : Int) : Par fin (spec_spNumber_l0K a0 rc some a1 a2) (spec_spNumber_l0K a0 rc' fin a1 a2) := by
  unfold spec_spNumber_l0K
  repeat' (first | exact .fin | exact .none | exact hr _ _ | refine .cond ?_ ?_ | refine .bind fun _ => ?_ | refine .sum (fun _ => ?_) fun _ => ?_)
def Lspec_spNumber_l0 : Loop := mkL ⟨[0, 3, 4], [], [], []⟩ sspec_spNumber_l0 xspec_spNumber_l0 (fun (x : (ByteArray × Int × Int × Unit) × (Unit)) => x.1.1) fun (x : (ByteArray × Int × Int × Unit) × (Unit)) => spec_spNumber_l0 x.1.1 x.1.2.1 x.1.2.2.1
def spec_spNumberK {R : Type} (fin : Int → Option R) (x0 : ByteArray) : Option R :=
  (spec_l1In (x0.size : Int) 1 10).bind fun y1 =>
  cond (!y1)
  (fin (-1))
  ((spec_spNumber_l0 x0 0 0).bind fun y6 =>
    sumO y6 (fun y7 =>
    fin y7)
    (fun y8 =>
    fin y8))
def spec_spNumber (x0 : ByteArray) : Option (Int) := spec_spNumberK some x0
theorem p40 {R : Type} (fin : Int → Option R) (x0 : ByteArray) : Par fin (spec_spNumberK some x0) (spec_spNumberK fin x0) := by
  unfold spec_spNumberK
  repeat' (first | exact .fin | exact .none | refine .cond ?_ ?_ | refine .bind fun _ => ?_ | refine .sum (fun _ => ?_) fun _ => ?_)
def or40 : Ora := { lo := addL 5 (Lspec_spNumber_l0) lo0, fin := [] }
theorem spec_spNumber_l0e (a0 : ByteArray) (k : Nat) (a1 : Int) (a2 : Int) : loopC Tryd.prog EL40 or40 ((loopsIn (codeOf Tryd.f40)).getD 0 .skip) (Lspec_spNumber_l0).h (Lspec_spNumber_l0).ho Tryd.f40.ntmps (k + 1) (sspec_spNumber_l0.out ((a0, (a1, (a2, ()))), ())) =
    spec_spNumber_l0K a0 (fun a1 a2 => loopC Tryd.prog EL40 or40 ((loopsIn (codeOf Tryd.f40)).getD 0 .skip) (Lspec_spNumber_l0).h (Lspec_spNumber_l0).ho Tryd.f40.ntmps k (sspec_spNumber_l0.out ((a0, (a1, (a2, ()))), ()))) (fun y => some (XS.out xspec_spNumber_l0 a0 y)) a1 a2 := by kernel_rfl
theorem spec_spNumber_l0o : LoopOk Tryd.prog EL40 or40 Tryd.f40.ntmps ((loopsIn (codeOf Tryd.f40)).getD 0 .skip) (Lspec_spNumber_l0) :=
  loop_lim (hs := sspec_spNumber_l0) (xs := xspec_spNumber_l0) (ι := fun (x : (ByteArray × Int × Int × Unit) × (Unit)) => x.1.1) (φ := fun (x : (ByteArray × Int × Int × Unit) × (Unit)) => (x.1.2.1, x.1.2.2.1)) (ψ := fun (i : ByteArray) (v : Int × Int) => ((i, (v.1, (v.2, ()))), ())) (F := fun (i : ByteArray) => spec_spNumber_l0F i) (fun _ => rfl) fun i k hk v => Par.of_eq (spec_spNumber_l0e i k v.1 v.2) (spec_spNumber_l0p i (fun a1 a2 => hk (a1, a2)) v.1 v.2)
def c40 : Callee := mkC [.one (.ro .str)] 1 [.one (.ro (.int .i64))] fun x => spec_spNumber x
theorem e40 (x : PK.dens [.one (.ro .str)]) : evalFn Tryd.prog EL40 or40 Tryd.f40 (PK.outs [.one (.ro .str)] x) =
    spec_spNumberK (fun y => some (tupOf ((PK.outs [.one (.ro (.int .i64))] y).take 1), (PK.outs [.one (.ro (.int .i64))] y).drop 1)) x := by kernel_rfl
theorem o40 : LoOk Tryd.prog EL40 or40 Tryd.f40.ntmps (loopsIn (codeOf Tryd.f40)) :=
  LoOk.mk (m := 1) (by kernel_rfl) fun i hi => match i, hi with
    | 0, _ => ⟨Lspec_spNumber_l0, by kernel_rfl, spec_spNumber_l0o⟩
    | i + 1, hi => absurd hi (by omega)
theorem k40 : CalleeOk Tryd.prog 40 c40 := callee_mk Tryd.func40 (code := codeOf Tryd.f40) (by kernel_rfl) vL40 mixed o40 fun x y h => (e40 x).trans (p40 _ x y h)

/-- spec.ParsePile -/
def EL18 : Nat → Option Callee := addE 33 c33 (addE 27 c27 (addE 40 c40 (addE 39 c39 env0)))
theorem vL18 : EnvOk Tryd.prog EL18 := (((EnvOk.nil.add Tryd.func39 rfl (by kernel_rfl) k39).add Tryd.func40 rfl (by kernel_rfl) k40).add Tryd.func27 rfl (by kernel_rfl) k27).add Tryd.func33 rfl (by kernel_rfl) k33
def sspec_ParsePile_l0 : LS := ⟨[(0, .one (.dat .str)), (2, .one (.fix (.ptr 0 0))), (4, .one (.fix (.sref 1))), (5, .one (.fix (.ptr 2 0))), (6, .one (.dat (.int .i64)))], [.box [.dat .bool, .dat (.int .i64), .fix .nils], .sl .str, .box [.dat .bool, .dat (.int .i64), .fix (.sref 3)], .sl TLot], []⟩
def sspec_ParsePile_l0x0 : LS := ⟨[(0, .one (.dat .str)), (2, .one (.fix (.ptr 0 0))), (5, .one (.fix (.ptr 1 0)))], [.box [.dat .bool, .dat (.int .i64), .fix .nils], .box [.dat .bool, .dat (.int .i64), .fix (.sref 2)], .sl TLot], []⟩
def xspec_ParsePile_l0 : List (XS (ByteArray × Bool × Int × (List ByteArray) × Bool × Int)) := [⟨.exit 0, ⟨[0, 2, 5], [.slot 2, .slot 5, .cell 5 2], [], []⟩, sspec_ParsePile_l0x0, List DLot, fun i y => ((i.1, ((), ((), ()))), ((i.2.1, (i.2.2.1, ((), ()))), ((i.2.2.2.2.1, (i.2.2.2.2.2, ((), ()))), (y, ()))))⟩]
def spec_ParsePile_l0K {R : Type} (a4 : List ByteArray) (rc : Int → List DLot → Option R) (fin : List DLot → Option R) (a1 : Int) (a7 : List DLot) : Option R :=
  cond (decide (a1 < (a4.length : Int)))
  (cond (decide ((0 : Int) ≤ a1) && decide (a1 < (a4.length : Int)))
    ((spec_spNumber (a4.getD (0 + a1.toNat) ByteArray.empty)).bind fun y1 =>
      cond (decide ((0 : Int) ≤ IntKind.i64.wrap (a1 + 1)) && decide (IntKind.i64.wrap (a1 + 1) < (a4.length : Int)))
      ((spec_spNumber (a4.getD (0 + (IntKind.i64.wrap (a1 + 1)).toNat) ByteArray.empty)).bind fun y2 =>
        cond (decide (a7.length + [(y1, (y2, ()))].length ≤ 1099511627776))
        ((some (a7 ++ [(y1, (y2, ()))])).bind fun v3 =>
          rc (IntKind.i64.wrap (a1 + 2)) v3)
        (none))
      (none))
    (none))
  (fin a7)
def spec_ParsePile_l0F (a4 : List ByteArray) (r : (Int × (List DLot)) → Option (List DLot)) (x : Int × (List DLot)) : Option (List DLot) := spec_ParsePile_l0K a4 (fun a1 a7 => r (a1, a7)) some x.1 x.2
theorem spec_ParsePile_l0c (a4 : List ByteArray) (x : Int × (List DLot)) : Ct fun r => spec_ParsePile_l0F a4 r x := by
  unfold spec_ParsePile_l0F spec_ParsePile_l0K
  repeat' (first | exact Ct.const | exact Ct.call | refine Ct.cond ?_ ?_ | refine Ct.bind ?_ fun _ => ?_ | refine Ct.sum (fun _ => ?_) fun _ => ?_)
def spec_ParsePile_l0 (a4 : List ByteArray) (a1 : Int) (a7 : List DLot) : Option (List DLot) := lim (spec_ParsePile_l0F a4) (a1, a7)
theorem spec_ParsePile_l0_eq (a4 : List ByteArray) (a1 : Int) (a7 : List DLot) : spec_ParsePile_l0 a4 a1 a7 = spec_ParsePile_l0K a4 (spec_ParsePile_l0 a4) some a1 a7 := lim_eq (spec_ParsePile_l0c a4) (a1, a7)
theorem spec_ParsePile_l0p {R : Type} (a4 : List ByteArray) {rc : Int → List DLot → Option (List DLot)} {rc' : Int → List DLot → Option R} {fin : List DLot → Option R} (hr : ∀ a1 a7, Par fin (rc a1 a7) (rc' a1 a7)) (a1 : Int) (a7 : List DLot) : Par fin (spec_ParsePile_l0K a4 rc some a1 a7) (spec_ParsePile_l0K a4 rc' fin a1 a7) := by
  unfold spec_ParsePile_l0K
  repeat' (first | exact .fin | exact .none | exact hr _ _ | refine .cond ?_ ?_ | refine .bind fun _ => ?_ | refine .sum (fun _ => ?_) fun _ => ?_)
def Lspec_ParsePile_l0 : Loop := mkL ⟨[0, 2, 4, 5, 6], [.slot 2, .slot 4, .slot 5, .cell 5 2], [], [.own (.cell 5 2) TLot]⟩ sspec_ParsePile_l0 xspec_ParsePile_l0 (fun (x : (ByteArray × Unit × Unit × Unit × Int × Unit) × ((Bool × Int × Unit × Unit) × (List ByteArray) × (Bool × Int × Unit × Unit) × (List DLot) × Unit)) => (x.1.1, (x.2.1.1, (x.2.1.2.1, (x.2.2.1, (x.2.2.2.1.1, x.2.2.2.1.2.1)))))) fun (x : (ByteArray × Unit × Unit × Unit × Int × Unit) × ((Bool × Int × Unit × Unit) × (List ByteArray) × (Bool × Int × Unit × Unit) × (List DLot) × Unit)) => spec_ParsePile_l0 x.2.2.1 x.1.2.2.2.2.1 x.2.2.2.2.1
def spec_ParsePileK {R : Type} (fin : (Bool × Int × (List DLot)) × Bool → Option R) (x0 : ByteArray) : Option R :=
  (spec_l1Split x0 32).bind fun y1 =>
  cond (((y1.length : Int).tmod 2) != 0)
  (fin ((false, (0, [])), false))
  (cond (decide ((y1.length : Int) > 82))
    (fin ((false, (0, [])), false))
    (cond (decide ((0 : Int) < (y1.length : Int)))
      (cond (decide ((1 : Int) < (y1.length : Int)))
        ((spec_spNumber (y1.getD (0 + 1) ByteArray.empty)).bind fun y2 =>
          (spec_ParsePile_l0 y1 2 []).bind fun y9 =>
          (spec_spGood (eqS (y1.getD (0 + 0) ByteArray.empty) (⟨#[109, 105, 120, 101, 100]⟩ : ByteArray), (y2, (y9, ())))).bind fun y10 =>
          cond (!y10)
          (fin ((false, (0, [])), false))
          ((spec_spText (eqS (y1.getD (0 + 0) ByteArray.empty) (⟨#[109, 105, 120, 101, 100]⟩ : ByteArray), (y2, (y9, ())))).bind fun y11 =>
            cond (!(eqS y11 x0))
            (fin ((false, (0, [])), false))
            (fin ((eqS (y1.getD (0 + 0) ByteArray.empty) (⟨#[109, 105, 120, 101, 100]⟩ : ByteArray), (y2, y9)), true))))
        (none))
      (none)))
def spec_ParsePile (x0 : ByteArray) : Option ((Bool × Int × (List DLot)) × Bool) := spec_ParsePileK some x0
theorem p18 {R : Type} (fin : (Bool × Int × (List DLot)) × Bool → Option R) (x0 : ByteArray) : Par fin (spec_ParsePileK some x0) (spec_ParsePileK fin x0) := by
  unfold spec_ParsePileK
  repeat' (first | exact .fin | exact .none | refine .cond ?_ ?_ | refine .bind fun _ => ?_ | refine .sum (fun _ => ?_) fun _ => ?_)
def or18 : Ora := { lo := addL 6 (Lspec_ParsePile_l0) lo0, fin := [.own (.cell 2 2) TLot] }
theorem spec_ParsePile_l0e (a0 : ByteArray) (a2 : Bool) (a3 : Int) (a4 : List ByteArray) (a5 : Bool) (a6 : Int) (k : Nat) (a1 : Int) (a7 : List DLot) : loopC Tryd.prog EL18 or18 ((loopsIn (codeOf Tryd.f18)).getD 0 .skip) (Lspec_ParsePile_l0).h (Lspec_ParsePile_l0).ho Tryd.f18.ntmps (k + 1) (sspec_ParsePile_l0.out ((a0, ((), ((), ((), (a1, ()))))), ((a2, (a3, ((), ()))), (a4, ((a5, (a6, ((), ()))), (a7, ())))))) =
    spec_ParsePile_l0K a4 (fun a1 a7 => loopC Tryd.prog EL18 or18 ((loopsIn (codeOf Tryd.f18)).getD 0 .skip) (Lspec_ParsePile_l0).h (Lspec_ParsePile_l0).ho Tryd.f18.ntmps k (sspec_ParsePile_l0.out ((a0, ((), ((), ((), (a1, ()))))), ((a2, (a3, ((), ()))), (a4, ((a5, (a6, ((), ()))), (a7, ()))))))) (fun y => some (XS.out xspec_ParsePile_l0 (a0, (a2, (a3, (a4, (a5, a6))))) y)) a1 a7 := by kernel_rfl
theorem spec_ParsePile_l0o : LoopOk Tryd.prog EL18 or18 Tryd.f18.ntmps ((loopsIn (codeOf Tryd.f18)).getD 0 .skip) (Lspec_ParsePile_l0) :=
  loop_lim (hs := sspec_ParsePile_l0) (xs := xspec_ParsePile_l0) (ι := fun (x : (ByteArray × Unit × Unit × Unit × Int × Unit) × ((Bool × Int × Unit × Unit) × (List ByteArray) × (Bool × Int × Unit × Unit) × (List DLot) × Unit)) => (x.1.1, (x.2.1.1, (x.2.1.2.1, (x.2.2.1, (x.2.2.2.1.1, x.2.2.2.1.2.1)))))) (φ := fun (x : (ByteArray × Unit × Unit × Unit × Int × Unit) × ((Bool × Int × Unit × Unit) × (List ByteArray) × (Bool × Int × Unit × Unit) × (List DLot) × Unit)) => (x.1.2.2.2.2.1, x.2.2.2.2.1)) (ψ := fun (i : ByteArray × Bool × Int × (List ByteArray) × Bool × Int) (v : Int × (List DLot)) => ((i.1, ((), ((), ((), (v.1, ()))))), ((i.2.1, (i.2.2.1, ((), ()))), (i.2.2.2.1, ((i.2.2.2.2.1, (i.2.2.2.2.2, ((), ()))), (v.2, ())))))) (F := fun (i : ByteArray × Bool × Int × (List ByteArray) × Bool × Int) => spec_ParsePile_l0F i.2.2.2.1) (fun _ => rfl) fun i k hk v => Par.of_eq (spec_ParsePile_l0e i.1 i.2.1 i.2.2.1 i.2.2.2.1 i.2.2.2.2.1 i.2.2.2.2.2 k v.1 v.2) (spec_ParsePile_l0p i.2.2.2.1 (fun a1 a7 => hk (a1, a7)) v.1 v.2)
def c18 : Callee := mkC [.one (.ro .str)] 2 [.agg [.ro .bool, .ro (.int .i64), .sl TLot], .one (.ro .bool)] fun x => spec_ParsePile x
theorem e18 (x : PK.dens [.one (.ro .str)]) : evalFn Tryd.prog EL18 or18 Tryd.f18 (PK.outs [.one (.ro .str)] x) =
    spec_ParsePileK (fun y => some (tupOf ((PK.outs [.agg [.ro .bool, .ro (.int .i64), .sl TLot], .one (.ro .bool)] y).take 2), (PK.outs [.agg [.ro .bool, .ro (.int .i64), .sl TLot], .one (.ro .bool)] y).drop 2)) x := by kernel_rfl
theorem o18 : LoOk Tryd.prog EL18 or18 Tryd.f18.ntmps (loopsIn (codeOf Tryd.f18)) :=
  LoOk.mk (m := 1) (by kernel_rfl) fun i hi => match i, hi with
    | 0, _ => ⟨Lspec_ParsePile_l0, by kernel_rfl, spec_ParsePile_l0o⟩
    | i + 1, hi => absurd hi (by omega)
theorem k18 : CalleeOk Tryd.prog 18 c18 := callee_mk Tryd.func18 (code := codeOf Tryd.f18) (by kernel_rfl) vL18 mixed o18 fun x y h => (e18 x).trans (p18 _ x y h)

/-- laws.FnPiles -/
def EL3 : Nat → Option Callee := addE 18 c18 (addE 17 c17 (addE 16 c16 (addE 15 c15 (addE 14 c14 (addE 13 c13 (addE 12 c12 (addE 11 c11 (addE 10 c10 (addE 9 c9 (addE 8 c8 (addE 7 c7 (addE 6 c6 (addE 5 c5 (addE 4 c4 env0))))))))))))))
theorem vL3 : EnvOk Tryd.prog EL3 := ((((((((((((((EnvOk.nil.add Tryd.func4 rfl (by kernel_rfl) k4).add Tryd.func5 rfl (by kernel_rfl) k5).add Tryd.func6 rfl (by kernel_rfl) k6).add Tryd.func7 rfl (by kernel_rfl) k7).add Tryd.func8 rfl (by kernel_rfl) k8).add Tryd.func9 rfl (by kernel_rfl) k9).add Tryd.func10 rfl (by kernel_rfl) k10).add Tryd.func11 rfl (by kernel_rfl) k11).add Tryd.func12 rfl (by kernel_rfl) k12).add Tryd.func13 rfl (by kernel_rfl) k13).add Tryd.func14 rfl (by kernel_rfl) k14).add Tryd.func15 rfl (by kernel_rfl) k15).add Tryd.func16 rfl (by kernel_rfl) k16).add Tryd.func17 rfl (by kernel_rfl) k17).add Tryd.func18 rfl (by kernel_rfl) k18
def slaws_FnPiles_l0 : LS := ⟨[(1, .one (.dat (.slice (.int .u8)))), (7, .one (.fix (.ptr 0 0))), (12, .one (.fix (.sref 2))), (15, .one (.dat (.int .i64))), (16, .one (.dat (.int .i64))), (17, .one (.dat .bool)), (18, .one (.dat (.int .i64))), (19, .one (.dat (.int .i64))), (20, .one (.dat .bool)), (103, .one (.win 3)), (104, .one (.dat (.int .i64))), (105, .one (.dat (.int .i64)))], [.box [.dat .bool, .dat (.int .i64), .fix (.sref 1)], .sl TLot, .sl TLot, .sl TStir], []⟩
def slaws_FnPiles_l0x0 : LS := ⟨[(1, .one (.dat (.slice (.int .u8)))), (7, .one (.fix (.ptr 0 0))), (12, .one (.fix (.sref 2))), (15, .one (.dat (.int .i64))), (16, .one (.dat (.int .i64))), (17, .one (.dat .bool)), (18, .one (.dat (.int .i64))), (19, .one (.dat (.int .i64))), (20, .one (.dat .bool))], [.box [.dat .bool, .dat (.int .i64), .fix (.sref 1)], .sl TLot, .sl TLot], []⟩
def xlaws_FnPiles_l0 : List (XS ((List Int) × Bool × Int × Int × Bool × Nat × Nat × Int × Bool × Int × (List DLot) × (List DLot) × (List DStir))) := [⟨.exit 0, ⟨[1, 7, 12, 15, 16, 17, 18, 19, 20], [.slot 7, .cell 7 2, .slot 12], [], []⟩, slaws_FnPiles_l0x0, Int × Int, fun i y => ((i.1, ((), ((), (y.1, (y.2, (i.2.1, (i.2.2.1, (i.2.2.2.1, (i.2.2.2.2.1, ()))))))))), ((i.2.2.2.2.2.2.2.2.1, (i.2.2.2.2.2.2.2.2.2.1, ((), ()))), (i.2.2.2.2.2.2.2.2.2.2.1, (i.2.2.2.2.2.2.2.2.2.2.2.1, ()))))⟩]
def laws_FnPiles_l0K {R : Type} (a7 : Nat) (a8 : Nat) (a9 : Int) (a15 : List DStir) (rc : Int → Int → Int → Option R) (fin : Int × Int → Option R) (a1 : Int) (a2 : Int) (a10 : Int) : Option R :=
  cond (decide (a10 < a9))
  (cond (decide ((0 : Int) ≤ a10) && decide (a10 < (((a15.drop a7).take a8).length : Int)))
    (cond ((a15.getD (a7 + a10.toNat) TStir.dflt).1)
      ((some (IntKind.i64.wrap (a2 + ((((a15.getD (a7 + a10.toNat) TStir.dflt).2).2).1)))).bind fun v1 =>
        rc (IntKind.i64.wrap (a1 + (((a15.getD (a7 + a10.toNat) TStir.dflt).2).1))) v1 (IntKind.i64.wrap (a10 + 1)))
      (rc a1 a2 (IntKind.i64.wrap (a10 + 1))))
    (none))
  (fin (a1, a2))
def laws_FnPiles_l0F (a7 : Nat) (a8 : Nat) (a9 : Int) (a15 : List DStir) (r : (Int × Int × Int) → Option (Int × Int)) (x : Int × Int × Int) : Option (Int × Int) := laws_FnPiles_l0K a7 a8 a9 a15 (fun a1 a2 a10 => r (a1, (a2, a10))) some x.1 x.2.1 x.2.2
theorem laws_FnPiles_l0c (a7 : Nat) (a8 : Nat) (a9 : Int) (a15 : List DStir) (x : Int × Int × Int) : Ct fun r => laws_FnPiles_l0F a7 a8 a9 a15 r x := by
  unfold laws_FnPiles_l0F laws_FnPiles_l0K
  repeat' (first | exact Ct.const | exact Ct.call | refine Ct.cond ?_ ?_ | refine Ct.bind ?_ fun _ => ?_ | refine Ct.sum (fun _ => ?_) fun _ => ?_)
def laws_FnPiles_l0 (a7 : Nat) (a8 : Nat) (a9 : Int) (a15 : List DStir) (a1 : Int) (a2 : Int) (a10 : Int) : Option (Int × Int) := lim (laws_FnPiles_l0F a7 a8 a9 a15) (a1, (a2, a10))
theorem laws_FnPiles_l0_eq (a7 : Nat) (a8 : Nat) (a9 : Int) (a15 : List DStir) (a1 : Int) (a2 : Int) (a10 : Int) : laws_FnPiles_l0 a7 a8 a9 a15 a1 a2 a10 = laws_FnPiles_l0K a7 a8 a9 a15 (laws_FnPiles_l0 a7 a8 a9 a15) some a1 a2 a10 := lim_eq (laws_FnPiles_l0c a7 a8 a9 a15) (a1, (a2, a10))
theorem laws_FnPiles_l0p {R : Type} (a7 : Nat) (a8 : Nat) (a9 : Int) (a15 : List DStir) {rc : Int → Int → Int → Option (Int × Int)} {rc' : Int → Int → Int → Option R} {fin : Int × Int → Option R} (hr : ∀ a1 a2 a10, Par fin (rc a1 a2 a10) (rc' a1 a2 a10)) (a1 : Int) (a2 : Int) (a10 : Int) : Par fin (laws_FnPiles_l0K a7 a8 a9 a15 rc some a1 a2 a10) (laws_FnPiles_l0K a7 a8 a9 a15 rc' fin a1 a2 a10) := by
  unfold laws_FnPiles_l0K
  repeat' (first | exact .fin | exact .none | exact hr _ _ _ | refine .cond ?_ ?_ | refine .bind fun _ => ?_ | refine .sum (fun _ => ?_) fun _ => ?_)
def Llaws_FnPiles_l0 : Loop := mkL ⟨[1, 7, 12, 15, 16, 17, 18, 19, 20, 103, 104, 105], [.slot 7, .cell 7 2, .slot 12, .slot 103], [], []⟩ slaws_FnPiles_l0 xlaws_FnPiles_l0 (fun (x : ((List Int) × Unit × Unit × Int × Int × Bool × Int × Int × Bool × (Nat × Nat) × Int × Int × Unit) × ((Bool × Int × Unit × Unit) × (List DLot) × (List DLot) × (List DStir) × Unit)) => (x.1.1, (x.1.2.2.2.2.2.1, (x.1.2.2.2.2.2.2.1, (x.1.2.2.2.2.2.2.2.1, (x.1.2.2.2.2.2.2.2.2.1, (x.1.2.2.2.2.2.2.2.2.2.1.1, (x.1.2.2.2.2.2.2.2.2.2.1.2, (x.1.2.2.2.2.2.2.2.2.2.2.1, (x.2.1.1, (x.2.1.2.1, (x.2.2.1, (x.2.2.2.1, x.2.2.2.2.1))))))))))))) fun (x : ((List Int) × Unit × Unit × Int × Int × Bool × Int × Int × Bool × (Nat × Nat) × Int × Int × Unit) × ((Bool × Int × Unit × Unit) × (List DLot) × (List DLot) × (List DStir) × Unit)) => laws_FnPiles_l0 x.1.2.2.2.2.2.2.2.2.2.1.1 x.1.2.2.2.2.2.2.2.2.2.1.2 x.1.2.2.2.2.2.2.2.2.2.2.1 x.2.2.2.2.1 x.1.2.2.2.1 x.1.2.2.2.2.1 x.1.2.2.2.2.2.2.2.2.2.2.2.1
def slaws_FnPiles_l1 : LS := ⟨[(1, .one (.dat (.slice (.int .u8)))), (7, .one (.fix (.ptr 0 0))), (15, .one (.dat (.int .i64))), (16, .one (.dat (.int .i64))), (17, .one (.dat .bool)), (18, .one (.dat (.int .i64))), (19, .one (.dat (.int .i64))), (20, .one (.dat .bool)), (120, .one (.fix (.sref 2))), (121, .one (.dat (.int .i64))), (122, .one (.dat (.int .i64)))], [.box [.dat .bool, .dat (.int .i64), .fix (.sref 1)], .sl TLot, .sl TLot], []⟩
def slaws_FnPiles_l1x0 : LS := ⟨[(1, .one (.dat (.slice (.int .u8)))), (7, .one (.fix (.ptr 0 0))), (15, .one (.dat (.int .i64))), (16, .one (.dat (.int .i64))), (17, .one (.dat .bool)), (18, .one (.dat (.int .i64))), (19, .one (.dat (.int .i64))), (20, .one (.dat .bool))], [.box [.dat .bool, .dat (.int .i64), .fix (.sref 1)], .sl TLot], []⟩
def xlaws_FnPiles_l1 : List (XS ((List Int) × Bool × Int × Int × Bool × Int × Bool × Int × (List DLot) × (List DLot))) := [⟨.exit 2, ⟨[1, 7, 15, 16, 17, 18, 19, 20], [.slot 7, .cell 7 2], [], []⟩, slaws_FnPiles_l1x0, Int × Int, fun i y => ((i.1, ((), (y.1, (y.2, (i.2.1, (i.2.2.1, (i.2.2.2.1, (i.2.2.2.2.1, ())))))))), ((i.2.2.2.2.2.2.1, (i.2.2.2.2.2.2.2.1, ((), ()))), (i.2.2.2.2.2.2.2.2.1, ())))⟩]
def laws_FnPiles_l1K {R : Type} (a7 : Int) (a12 : List DLot) (rc : Int → Int → Int → Option R) (fin : Int × Int → Option R) (a1 : Int) (a2 : Int) (a8 : Int) : Option R :=
  cond (decide (a8 < a7))
  (cond (decide ((0 : Int) ≤ a8) && decide (a8 < (a12.length : Int)))
    (rc (IntKind.i64.wrap (a1 - ((a12.getD (0 + a8.toNat) TLot.dflt).1))) (IntKind.i64.wrap (a2 - (((a12.getD (0 + a8.toNat) TLot.dflt).2).1))) (IntKind.i64.wrap (a8 + 1)))
    (none))
  (fin (a1, a2))
def laws_FnPiles_l1F (a7 : Int) (a12 : List DLot) (r : (Int × Int × Int) → Option (Int × Int)) (x : Int × Int × Int) : Option (Int × Int) := laws_FnPiles_l1K a7 a12 (fun a1 a2 a8 => r (a1, (a2, a8))) some x.1 x.2.1 x.2.2
theorem laws_FnPiles_l1c (a7 : Int) (a12 : List DLot) (x : Int × Int × Int) : Ct fun r => laws_FnPiles_l1F a7 a12 r x := by
  unfold laws_FnPiles_l1F laws_FnPiles_l1K
  repeat' (first | exact Ct.const | exact Ct.call | refine Ct.cond ?_ ?_ | refine Ct.bind ?_ fun _ => ?_ | refine Ct.sum (fun _ => ?_) fun _ => ?_)
def laws_FnPiles_l1 (a7 : Int) (a12 : List DLot) (a1 : Int) (a2 : Int) (a8 : Int) : Option (Int × Int) := lim (laws_FnPiles_l1F a7 a12) (a1, (a2, a8))
theorem laws_FnPiles_l1_eq (a7 : Int) (a12 : List DLot) (a1 : Int) (a2 : Int) (a8 : Int) : laws_FnPiles_l1 a7 a12 a1 a2 a8 = laws_FnPiles_l1K a7 a12 (laws_FnPiles_l1 a7 a12) some a1 a2 a8 := lim_eq (laws_FnPiles_l1c a7 a12) (a1, (a2, a8))
theorem laws_FnPiles_l1p {R : Type} (a7 : Int) (a12 : List DLot) {rc : Int → Int → Int → Option (Int × Int)} {rc' : Int → Int → Int → Option R} {fin : Int × Int → Option R} (hr : ∀ a1 a2 a8, Par fin (rc a1 a2 a8) (rc' a1 a2 a8)) (a1 : Int) (a2 : Int) (a8 : Int) : Par fin (laws_FnPiles_l1K a7 a12 rc some a1 a2 a8) (laws_FnPiles_l1K a7 a12 rc' fin a1 a2 a8) := by
  unfold laws_FnPiles_l1K
  repeat' (first | exact .fin | exact .none | exact hr _ _ _ | refine .cond ?_ ?_ | refine .bind fun _ => ?_ | refine .sum (fun _ => ?_) fun _ => ?_)
def Llaws_FnPiles_l1 : Loop := mkL ⟨[1, 7, 15, 16, 17, 18, 19, 20, 120, 121, 122], [.slot 7, .cell 7 2, .slot 120], [], []⟩ slaws_FnPiles_l1 xlaws_FnPiles_l1 (fun (x : ((List Int) × Unit × Int × Int × Bool × Int × Int × Bool × Unit × Int × Int × Unit) × ((Bool × Int × Unit × Unit) × (List DLot) × (List DLot) × Unit)) => (x.1.1, (x.1.2.2.2.2.1, (x.1.2.2.2.2.2.1, (x.1.2.2.2.2.2.2.1, (x.1.2.2.2.2.2.2.2.1, (x.1.2.2.2.2.2.2.2.2.2.1, (x.2.1.1, (x.2.1.2.1, (x.2.2.1, x.2.2.2.1)))))))))) fun (x : ((List Int) × Unit × Int × Int × Bool × Int × Int × Bool × Unit × Int × Int × Unit) × ((Bool × Int × Unit × Unit) × (List DLot) × (List DLot) × Unit)) => laws_FnPiles_l1 x.1.2.2.2.2.2.2.2.2.2.1 x.2.2.2.1 x.1.2.2.1 x.1.2.2.2.1 x.1.2.2.2.2.2.2.2.2.2.2.1
def laws_FnPilesK {R : Type} (fin : Bool → Option R) (x0 : List Int) (x1 : List Int) : Option R :=
  (laws_big x0 x1).bind fun y1 =>
  cond (y1)
  (fin true)
  ((spec_DrawRunPile x0).bind fun y2 =>
    (impl_RunPile (y2.1.1, (y2.1.2.1, (y2.1.2.2, ()))) y2.2).bind fun y3 =>
    (spec_RunPile (y2.1.1, (y2.1.2.1, (y2.1.2.2, ()))) y2.2).bind fun y4 =>
    cond (!(y3.2.2.2 == y4.2.2.2))
    (fin false)
    ((laws_pSamePile (y3.1.1, (y3.1.2.1, (y3.1.2.2, ()))) (y4.1.1, (y4.1.2.1, (y4.1.2.2, ())))).bind fun y5 =>
      cond (!y5)
      (fin false)
      ((laws_pSameLots y3.2.1 y4.2.1).bind fun y6 =>
        cond (!y6)
        (fin false)
        (cond (y3.2.2.1 != y4.2.2.1)
          (fin false)
          ((impl_IsPile (y2.1.1, (y2.1.2.1, (y2.1.2.2, ())))).bind fun y7 =>
            (spec_IsPile (y2.1.1, (y2.1.2.1, (y2.1.2.2, ())))).bind fun y8 =>
            cond (!(y7 == y8))
            (fin false)
            (cond (y3.2.2.2)
              ((impl_PileSums (y2.1.1, (y2.1.2.1, (y2.1.2.2, ())))).bind fun y9 =>
                (impl_PileSums (y3.1.1, (y3.1.2.1, (y3.1.2.2, ())))).bind fun y10 =>
                cond (decide ((0 : Int) ≤ y4.2.2.1) && decide (y4.2.2.1 ≤ (y2.2.length : Int)))
                ((laws_FnPiles_l0 (0 + 0) (y4.2.2.1.toNat - 0) (((y2.2.drop (0 + 0)).take (y4.2.2.1.toNat - 0)).length : Int) y2.2 y9.1 y9.2.1 0).bind fun y12 =>
                  (laws_FnPiles_l1 (y4.2.1.length : Int) y4.2.1 y12.1 y12.2 0).bind fun y13 =>
                  cond (!y9.2.2)
                  (fin false)
                  (cond (!y10.2.2)
                    (fin false)
                    ((impl_IsPile (y3.1.1, (y3.1.2.1, (y3.1.2.2, ())))).bind fun y14 =>
                      cond (!y14)
                      (fin false)
                      (cond (y13.1 != y10.1)
                        (fin false)
                        (cond (y13.2 != y10.2.1)
                          (fin false)
                          ((spec_DrawPileText x1).bind fun y15 =>
                            (impl_PileText (y15.1, (y15.2.1, (y15.2.2, ())))).bind fun y16 =>
                            (spec_PileText (y15.1, (y15.2.1, (y15.2.2, ())))).bind fun y17 =>
                            cond (!(y16.2 == y17.2))
                            (fin false)
                            (cond (!(eqS y16.1 y17.1))
                              (fin false)
                              (cond (y16.2)
                                ((impl_ParsePile y16.1).bind fun y18 =>
                                  cond (!y18.2)
                                  (fin false)
                                  ((laws_pSamePile (y18.1.1, (y18.1.2.1, (y18.1.2.2, ()))) (y15.1, (y15.2.1, (y15.2.2, ())))).bind fun y19 =>
                                    cond (!y19)
                                    (fin false)
                                    ((spec_DrawParsePile x1).bind fun y20 =>
                                      (impl_ParsePile y20).bind fun y21 =>
                                      (spec_ParsePile y20).bind fun y22 =>
                                      cond (y21.2 == y22.2)
                                      ((laws_pSamePile (y21.1.1, (y21.1.2.1, (y21.1.2.2, ()))) (y22.1.1, (y22.1.2.1, (y22.1.2.2, ())))).bind fun y23 =>
                                        fin y23)
                                      (fin false))))
                                ((spec_DrawParsePile x1).bind fun y24 =>
                                  (impl_ParsePile y24).bind fun y25 =>
                                  (spec_ParsePile y24).bind fun y26 =>
                                  cond (y25.2 == y26.2)
                                  ((laws_pSamePile (y25.1.1, (y25.1.2.1, (y25.1.2.2, ()))) (y26.1.1, (y26.1.2.1, (y26.1.2.2, ())))).bind fun y27 =>
                                    fin y27)
                                  (fin false))))))))))
                (none))
              ((spec_DrawPileText x1).bind fun y28 =>
                (impl_PileText (y28.1, (y28.2.1, (y28.2.2, ())))).bind fun y29 =>
                (spec_PileText (y28.1, (y28.2.1, (y28.2.2, ())))).bind fun y30 =>
                cond (!(y29.2 == y30.2))
                (fin false)
                (cond (!(eqS y29.1 y30.1))
                  (fin false)
                  (cond (y29.2)
                    ((impl_ParsePile y29.1).bind fun y31 =>
                      cond (!y31.2)
                      (fin false)
                      ((laws_pSamePile (y31.1.1, (y31.1.2.1, (y31.1.2.2, ()))) (y28.1, (y28.2.1, (y28.2.2, ())))).bind fun y32 =>
                        cond (!y32)
                        (fin false)
                        ((spec_DrawParsePile x1).bind fun y33 =>
                          (impl_ParsePile y33).bind fun y34 =>
                          (spec_ParsePile y33).bind fun y35 =>
                          cond (y34.2 == y35.2)
                          ((laws_pSamePile (y34.1.1, (y34.1.2.1, (y34.1.2.2, ()))) (y35.1.1, (y35.1.2.1, (y35.1.2.2, ())))).bind fun y36 =>
                            fin y36)
                          (fin false))))
                    ((spec_DrawParsePile x1).bind fun y37 =>
                      (impl_ParsePile y37).bind fun y38 =>
                      (spec_ParsePile y37).bind fun y39 =>
                      cond (y38.2 == y39.2)
                      ((laws_pSamePile (y38.1.1, (y38.1.2.1, (y38.1.2.2, ()))) (y39.1.1, (y39.1.2.1, (y39.1.2.2, ())))).bind fun y40 =>
                        fin y40)
                      (fin false)))))))))))
def laws_FnPiles (x0 : List Int) (x1 : List Int) : Option (Bool) := laws_FnPilesK some x0 x1
theorem p3 {R : Type} (fin : Bool → Option R) (x0 : List Int) (x1 : List Int) : Par fin (laws_FnPilesK some x0 x1) (laws_FnPilesK fin x0 x1) := by
  unfold laws_FnPilesK
  repeat' (first | exact .fin | exact .none | refine .cond ?_ ?_ | refine .bind fun _ => ?_ | refine .sum (fun _ => ?_) fun _ => ?_)
def or3 : Ora := { lo := addL 19 (Llaws_FnPiles_l1) (addL 12 (Llaws_FnPiles_l0) lo0), fin := [] }
theorem laws_FnPiles_l0e (a0 : List Int) (a3 : Bool) (a4 : Int) (a5 : Int) (a6 : Bool) (a7 : Nat) (a8 : Nat) (a9 : Int) (a11 : Bool) (a12 : Int) (a13 : List DLot) (a14 : List DLot) (a15 : List DStir) (k : Nat) (a1 : Int) (a2 : Int) (a10 : Int) : loopC Tryd.prog EL3 or3 ((loopsIn (codeOf Tryd.f3)).getD 0 .skip) (Llaws_FnPiles_l0).h (Llaws_FnPiles_l0).ho Tryd.f3.ntmps (k + 1) (slaws_FnPiles_l0.out ((a0, ((), ((), (a1, (a2, (a3, (a4, (a5, (a6, ((a7, a8), (a9, (a10, ())))))))))))), ((a11, (a12, ((), ()))), (a13, (a14, (a15, ())))))) =
    laws_FnPiles_l0K a7 a8 a9 a15 (fun a1 a2 a10 => loopC Tryd.prog EL3 or3 ((loopsIn (codeOf Tryd.f3)).getD 0 .skip) (Llaws_FnPiles_l0).h (Llaws_FnPiles_l0).ho Tryd.f3.ntmps k (slaws_FnPiles_l0.out ((a0, ((), ((), (a1, (a2, (a3, (a4, (a5, (a6, ((a7, a8), (a9, (a10, ())))))))))))), ((a11, (a12, ((), ()))), (a13, (a14, (a15, ()))))))) (fun y => some (XS.out xlaws_FnPiles_l0 (a0, (a3, (a4, (a5, (a6, (a7, (a8, (a9, (a11, (a12, (a13, (a14, a15)))))))))))) y)) a1 a2 a10 := by kernel_rfl
theorem laws_FnPiles_l0o : LoopOk Tryd.prog EL3 or3 Tryd.f3.ntmps ((loopsIn (codeOf Tryd.f3)).getD 0 .skip) (Llaws_FnPiles_l0) :=
  loop_lim (hs := slaws_FnPiles_l0) (xs := xlaws_FnPiles_l0) (ι := fun (x : ((List Int) × Unit × Unit × Int × Int × Bool × Int × Int × Bool × (Nat × Nat) × Int × Int × Unit) × ((Bool × Int × Unit × Unit) × (List DLot) × (List DLot) × (List DStir) × Unit)) => (x.1.1, (x.1.2.2.2.2.2.1, (x.1.2.2.2.2.2.2.1, (x.1.2.2.2.2.2.2.2.1, (x.1.2.2.2.2.2.2.2.2.1, (x.1.2.2.2.2.2.2.2.2.2.1.1, (x.1.2.2.2.2.2.2.2.2.2.1.2, (x.1.2.2.2.2.2.2.2.2.2.2.1, (x.2.1.1, (x.2.1.2.1, (x.2.2.1, (x.2.2.2.1, x.2.2.2.2.1))))))))))))) (φ := fun (x : ((List Int) × Unit × Unit × Int × Int × Bool × Int × Int × Bool × (Nat × Nat) × Int × Int × Unit) × ((Bool × Int × Unit × Unit) × (List DLot) × (List DLot) × (List DStir) × Unit)) => (x.1.2.2.2.1, (x.1.2.2.2.2.1, x.1.2.2.2.2.2.2.2.2.2.2.2.1))) (ψ := fun (i : (List Int) × Bool × Int × Int × Bool × Nat × Nat × Int × Bool × Int × (List DLot) × (List DLot) × (List DStir)) (v : Int × Int × Int) => ((i.1, ((), ((), (v.1, (v.2.1, (i.2.1, (i.2.2.1, (i.2.2.2.1, (i.2.2.2.2.1, ((i.2.2.2.2.2.1, i.2.2.2.2.2.2.1), (i.2.2.2.2.2.2.2.1, (v.2.2, ())))))))))))), ((i.2.2.2.2.2.2.2.2.1, (i.2.2.2.2.2.2.2.2.2.1, ((), ()))), (i.2.2.2.2.2.2.2.2.2.2.1, (i.2.2.2.2.2.2.2.2.2.2.2.1, (i.2.2.2.2.2.2.2.2.2.2.2.2, ())))))) (F := fun (i : (List Int) × Bool × Int × Int × Bool × Nat × Nat × Int × Bool × Int × (List DLot) × (List DLot) × (List DStir)) => laws_FnPiles_l0F i.2.2.2.2.2.1 i.2.2.2.2.2.2.1 i.2.2.2.2.2.2.2.1 i.2.2.2.2.2.2.2.2.2.2.2.2) (fun _ => rfl) fun i k hk v => Par.of_eq (laws_FnPiles_l0e i.1 i.2.1 i.2.2.1 i.2.2.2.1 i.2.2.2.2.1 i.2.2.2.2.2.1 i.2.2.2.2.2.2.1 i.2.2.2.2.2.2.2.1 i.2.2.2.2.2.2.2.2.1 i.2.2.2.2.2.2.2.2.2.1 i.2.2.2.2.2.2.2.2.2.2.1 i.2.2.2.2.2.2.2.2.2.2.2.1 i.2.2.2.2.2.2.2.2.2.2.2.2 k v.1 v.2.1 v.2.2) (laws_FnPiles_l0p i.2.2.2.2.2.1 i.2.2.2.2.2.2.1 i.2.2.2.2.2.2.2.1 i.2.2.2.2.2.2.2.2.2.2.2.2 (fun a1 a2 a10 => hk (a1, (a2, a10))) v.1 v.2.1 v.2.2)
theorem laws_FnPiles_l1e (a0 : List Int) (a3 : Bool) (a4 : Int) (a5 : Int) (a6 : Bool) (a7 : Int) (a9 : Bool) (a10 : Int) (a11 : List DLot) (a12 : List DLot) (k : Nat) (a1 : Int) (a2 : Int) (a8 : Int) : loopC Tryd.prog EL3 or3 ((loopsIn (codeOf Tryd.f3)).getD 1 .skip) (Llaws_FnPiles_l1).h (Llaws_FnPiles_l1).ho Tryd.f3.ntmps (k + 1) (slaws_FnPiles_l1.out ((a0, ((), (a1, (a2, (a3, (a4, (a5, (a6, ((), (a7, (a8, ()))))))))))), ((a9, (a10, ((), ()))), (a11, (a12, ()))))) =
    laws_FnPiles_l1K a7 a12 (fun a1 a2 a8 => loopC Tryd.prog EL3 or3 ((loopsIn (codeOf Tryd.f3)).getD 1 .skip) (Llaws_FnPiles_l1).h (Llaws_FnPiles_l1).ho Tryd.f3.ntmps k (slaws_FnPiles_l1.out ((a0, ((), (a1, (a2, (a3, (a4, (a5, (a6, ((), (a7, (a8, ()))))))))))), ((a9, (a10, ((), ()))), (a11, (a12, ())))))) (fun y => some (XS.out xlaws_FnPiles_l1 (a0, (a3, (a4, (a5, (a6, (a7, (a9, (a10, (a11, a12))))))))) y)) a1 a2 a8 := by kernel_rfl
theorem laws_FnPiles_l1o : LoopOk Tryd.prog EL3 or3 Tryd.f3.ntmps ((loopsIn (codeOf Tryd.f3)).getD 1 .skip) (Llaws_FnPiles_l1) :=
  loop_lim (hs := slaws_FnPiles_l1) (xs := xlaws_FnPiles_l1) (ι := fun (x : ((List Int) × Unit × Int × Int × Bool × Int × Int × Bool × Unit × Int × Int × Unit) × ((Bool × Int × Unit × Unit) × (List DLot) × (List DLot) × Unit)) => (x.1.1, (x.1.2.2.2.2.1, (x.1.2.2.2.2.2.1, (x.1.2.2.2.2.2.2.1, (x.1.2.2.2.2.2.2.2.1, (x.1.2.2.2.2.2.2.2.2.2.1, (x.2.1.1, (x.2.1.2.1, (x.2.2.1, x.2.2.2.1)))))))))) (φ := fun (x : ((List Int) × Unit × Int × Int × Bool × Int × Int × Bool × Unit × Int × Int × Unit) × ((Bool × Int × Unit × Unit) × (List DLot) × (List DLot) × Unit)) => (x.1.2.2.1, (x.1.2.2.2.1, x.1.2.2.2.2.2.2.2.2.2.2.1))) (ψ := fun (i : (List Int) × Bool × Int × Int × Bool × Int × Bool × Int × (List DLot) × (List DLot)) (v : Int × Int × Int) => ((i.1, ((), (v.1, (v.2.1, (i.2.1, (i.2.2.1, (i.2.2.2.1, (i.2.2.2.2.1, ((), (i.2.2.2.2.2.1, (v.2.2, ()))))))))))), ((i.2.2.2.2.2.2.1, (i.2.2.2.2.2.2.2.1, ((), ()))), (i.2.2.2.2.2.2.2.2.1, (i.2.2.2.2.2.2.2.2.2, ()))))) (F := fun (i : (List Int) × Bool × Int × Int × Bool × Int × Bool × Int × (List DLot) × (List DLot)) => laws_FnPiles_l1F i.2.2.2.2.2.1 i.2.2.2.2.2.2.2.2.2) (fun _ => rfl) fun i k hk v => Par.of_eq (laws_FnPiles_l1e i.1 i.2.1 i.2.2.1 i.2.2.2.1 i.2.2.2.2.1 i.2.2.2.2.2.1 i.2.2.2.2.2.2.1 i.2.2.2.2.2.2.2.1 i.2.2.2.2.2.2.2.2.1 i.2.2.2.2.2.2.2.2.2 k v.1 v.2.1 v.2.2) (laws_FnPiles_l1p i.2.2.2.2.2.1 i.2.2.2.2.2.2.2.2.2 (fun a1 a2 a8 => hk (a1, (a2, a8))) v.1 v.2.1 v.2.2)
def c3 : Callee := mkC [.one (.ro (.slice (.int .u8))), .one (.ro (.slice (.int .u8)))] 1 [.one (.ro .bool)] fun x => laws_FnPiles x.1 x.2
theorem e3 (x : PK.dens [.one (.ro (.slice (.int .u8))), .one (.ro (.slice (.int .u8)))]) : evalFn Tryd.prog EL3 or3 Tryd.f3 (PK.outs [.one (.ro (.slice (.int .u8))), .one (.ro (.slice (.int .u8)))] x) =
    laws_FnPilesK (fun y => some (tupOf ((PK.outs [.one (.ro .bool)] y).take 1), (PK.outs [.one (.ro .bool)] y).drop 1)) x.1 x.2 := by kernel_rfl
theorem o3 : LoOk Tryd.prog EL3 or3 Tryd.f3.ntmps (loopsIn (codeOf Tryd.f3)) :=
  LoOk.mk (m := 2) (by kernel_rfl) fun i hi => match i, hi with
    | 0, _ => ⟨Llaws_FnPiles_l0, by kernel_rfl, laws_FnPiles_l0o⟩
    | 1, _ => ⟨Llaws_FnPiles_l1, by kernel_rfl, laws_FnPiles_l1o⟩
    | i + 2, hi => absurd hi (by omega)
theorem k3 : CalleeOk Tryd.prog 3 c3 := callee_mk Tryd.func3 (code := codeOf Tryd.f3) (by kernel_rfl) vL3 mixed o3 fun x y h => (e3 x).trans (p3 _ x.1 x.2 y h)
end
end Go.OAI

