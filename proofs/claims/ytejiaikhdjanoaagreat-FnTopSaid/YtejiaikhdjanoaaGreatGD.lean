/- Contracts: GD. -/
import Derived.Test.YtejiaikhdjanoaaGreatGA
namespace Go.OAI
open Go.Proofs
open Go.IntKind (i64 u64 u8)
set_option linter.unusedVariables false
noncomputable section
def EL130 : Nat → Option Callee := env0
def spec_l1Cur_nextK {R : Type} (fin : Int × Q31 → Option R) (x0 : Q31) : Option R := cond (decide (x0.2.1 < (x0.1.length : Int))) ((lat x0.1 x0.2.1).bind fun e1 => (some (u64.wrap ((u64.wrap (x0.2.2 * 6364136223846793005)) + (u64.wrap
 (i64.wrap e1))))).bind fun v2 => cond (decide ((i64.wrap (x0.2.1 + 1)) ≤ (x0.1.length : Int))) (fin (i64.wrap e1, x0.1, i64.wrap (x0.2.1 + 1), u64.wrap (v2 + 1442695040888963407))) ((some (andI .u64 (shrI .u64 (u64.wrap (v2 +
 1442695040888963407)) 40) 255)).bind fun v3 => fin (i64.wrap v3, x0.1, i64.wrap (x0.2.1 + 1), u64.wrap (v2 + 1442695040888963407)))) ((some (u64.wrap ((u64.wrap (x0.2.2 * 6364136223846793005)) + (u64.wrap 0)))).bind fun v4 => cond (decide
 ((i64.wrap (x0.2.1 + 1)) ≤ (x0.1.length : Int))) (fin (0, x0.1, i64.wrap (x0.2.1 + 1), u64.wrap (v4 + 1442695040888963407))) ((some (andI .u64 (shrI .u64 (u64.wrap (v4 + 1442695040888963407)) 40) 255)).bind fun v5 => fin (i64.wrap v5,
 x0.1, i64.wrap (x0.2.1 + 1), u64.wrap (v4 + 1442695040888963407))))
def spec_l1Cur_next (x0 : Q31) : Option (Int × Q31) := spec_l1Cur_nextK some x0
def c130 : Callee := mkC [.box [.ro (.slice (.int .u8)), kI, .ro (.int .u64)]] 1 [rI, .box [.ro (.slice (.int .u8)), kI, .ro (.int .u64)]] fun x => spec_l1Cur_next x
theorem k130 : Cal Tryz.prog 130 c130 := cal_mk (or := or0) Tryz.func130 (by kernel_rfl) (by kernel_rfl) mixed (EnvOk.nil : EnvOk _ EL130) (LoOk.nil (by kernel_rfl)) (fun _ fin x => spec_l1Cur_nextK fin x) (fun _ => rfl) (fun x =>
 by kernel_rfl) fun x _ _ => by unfold spec_l1Cur_nextK; repeat' (first | constructor | intro _)
def EL110 : Nat → Option Callee := addE 130 c130 env0
def spec_l1Cur_pickK {R : Type} (fin : Int × Q31 → Option R) (x0 : Q31) (x1 : Int) : Option R := cond (decide (x1 ≤ 1)) (fin (0, x0)) ((spec_l1Cur_next x0).bind fun y1 => cond (decide (x1 > 200)) ((spec_l1Cur_next y1.2).bind fun y2 => cond
 (decide (x1 = 0)) none (fin ((i64.wrap ((i64.wrap (y1.1 * 256)) + y2.1)).tmod x1, y2.2))) (cond (decide (x1 = 0)) none (fin (y1.1.tmod x1, y1.2))))
def spec_l1Cur_pick (x0 : Q31) (x1 : Int) : Option (Int × Q31) := spec_l1Cur_pickK some x0 x1
def c110 : Callee := mkC [.box [.ro (.slice (.int .u8)), kI, .ro (.int .u64)], rI] 1 [rI, .box [.ro (.slice (.int .u8)), kI, .ro (.int .u64)]] fun x => spec_l1Cur_pick x.1 x.2
theorem k110 : Cal Tryz.prog 110 c110 := cal_mk (or := or0) Tryz.func110 (by kernel_rfl) (by kernel_rfl) mixed (EnvOk.nil |>.a k130 : EnvOk _ EL110) (LoOk.nil (by kernel_rfl)) (fun _ fin x => spec_l1Cur_pickK fin x.1 x.2) (fun _ => rfl)
 (fun x => by kernel_rfl) fun x _ _ => by unfold spec_l1Cur_pickK; repeat' (first | constructor | intro _)
def EL150 : Nat → Option Callee := addE 110 c110 env0
def spec_l1Cur_oneK {R : Type} (fin : Bool × Q31 → Option R) (x0 : Q31) (x1 : Int) : Option R := (spec_l1Cur_pick x0 x1).bind fun y1 => fin (y1.1 == 0, y1.2)
def spec_l1Cur_one (x0 : Q31) (x1 : Int) : Option (Bool × Q31) := spec_l1Cur_oneK some x0 x1
def c150 : Callee := mkC [.box [.ro (.slice (.int .u8)), kI, .ro (.int .u64)], rI] 1 [rB, .box [.ro (.slice (.int .u8)), kI, .ro (.int .u64)]] fun x => spec_l1Cur_one x.1 x.2
theorem k150 : Cal Tryz.prog 150 c150 := cal_mk (or := or0) Tryz.func150 (by kernel_rfl) (by kernel_rfl) mixed (EnvOk.nil |>.a k110 : EnvOk _ EL150) (LoOk.nil (by kernel_rfl)) (fun _ fin x => spec_l1Cur_oneK fin x.1 x.2) (fun _ => rfl)
 (fun x => by kernel_rfl) fun x _ _ => by unfold spec_l1Cur_oneK; repeat' (first | constructor | intro _)
def EL129 : Nat → Option Callee := addE 110 c110 (addE 150 c150 env0)
def spec_l1Cur_gridK {R : Type} (fin : DGrid × Q31 → Option R) (x0 : Q31) : Option R := (spec_l1Cur_one x0 24).bind fun y1 => cond (y1.1) ((spec_l1Cur_pick y1.2 4).bind fun y2 => cond (decide ((0 : Int) ≤ y2.1) && decide (y2.1 < ([(8, 5,
 3, ()), (8, 3, 5, ()), (4, 6, 5, ()), (1, 1, 1, ())].length : Int))) (fin ((([(8, 5, 3, ()), (8, 3, 5, ()), (4, 6, 5, ()), (1, 1, 1, ())].getD (0 + y2.1.toNat) TGrid.dflt).1, (([(8, 5, 3, ()), (8, 3, 5, ()), (4, 6, 5, ()), (1, 1, 1,
 ())].getD (0 + y2.1.toNat) TGrid.dflt).2).1, ((([(8, 5, 3, ()), (8, 3, 5, ()), (4, 6, 5, ()), (1, 1, 1, ())].getD (0 + y2.1.toNat) TGrid.dflt).2).2).1, ()), y2.2)) none) ((spec_l1Cur_pick y1.2 4).bind fun y3 => (spec_l1Cur_pick y3.2
 3).bind fun y4 => (spec_l1Cur_pick y4.2 3).bind fun y5 => fin ((i64.wrap (1 + y3.1), i64.wrap (1 + y4.1), i64.wrap (1 + y5.1), ()), y5.2))
def spec_l1Cur_grid (x0 : Q31) : Option (DGrid × Q31) := spec_l1Cur_gridK some x0
def c129 : Callee := mkC [.box [.ro (.slice (.int .u8)), kI, .ro (.int .u64)]] 1 [.agg [.ro TGrid], .box [.ro (.slice (.int .u8)), kI, .ro (.int .u64)]] fun x => spec_l1Cur_grid x
theorem k129 : Cal Tryz.prog 129 c129 := cal_mk (or := or0) Tryz.func129 (by kernel_rfl) (by kernel_rfl) mixed (EnvOk.nil |>.a k150 |>.a k110 : EnvOk _ EL129) (LoOk.nil (by kernel_rfl)) (fun _ fin x => spec_l1Cur_gridK fin x) (fun _ =>
 rfl) (fun x => by kernel_rfl) fun x _ _ => by unfold spec_l1Cur_gridK; repeat' (first | constructor | intro _)
def EL71 : Nat → Option Callee := env0
def spec_grCountK {R : Type} (fin : Int → Option R) (x0 : DGrid) : Option R := fin (i64.wrap ((i64.wrap (x0.1 * x0.2.1)) * x0.2.2.1))
def spec_grCount (x0 : DGrid) : Option (Int) := spec_grCountK some x0
def c71 : Callee := mkC [.agg [.ro TGrid]] 1 [rI] fun x => spec_grCount x
theorem k71 : Cal Tryz.prog 71 c71 := cal_mk (or := or0) Tryz.func71 (by kernel_rfl) (by kernel_rfl) mixed (EnvOk.nil : EnvOk _ EL71) (LoOk.nil (by kernel_rfl)) (fun _ fin x => spec_grCountK fin x) (fun _ => rfl) (fun x => by kernel_rfl)
 fun x _ _ => by unfold spec_grCountK; repeat' (first | constructor | intro _)
def EL112 : Nat → Option Callee := addE 110 c110 env0
def spec_l1Cur_amongK {R : Type} (fin : Int × Q31 → Option R) (x0 : Q31) (x1 : LI) : Option R := (spec_l1Cur_pick x0 (x1.length : Int)).bind fun y1 => (lat x1 y1.1).bind fun e2 => fin (e2, y1.2)
def spec_l1Cur_among (x0 : Q31) (x1 : LI) : Option (Int × Q31) := spec_l1Cur_amongK some x0 x1
def c112 : Callee := mkC [.box [.ro (.slice (.int .u8)), kI, .ro (.int .u64)], rL] 1 [rI, .box [.ro (.slice (.int .u8)), kI, .ro (.int .u64)]] fun x => spec_l1Cur_among x.1 x.2
theorem k112 : Cal Tryz.prog 112 c112 := cal_mk (or := or0) Tryz.func112 (by kernel_rfl) (by kernel_rfl) mixed (EnvOk.nil |>.a k110 : EnvOk _ EL112) (LoOk.nil (by kernel_rfl)) (fun _ fin x => spec_l1Cur_amongK fin x.1 x.2) (fun _ => rfl)
 (fun x => by kernel_rfl) fun x _ _ => by unfold spec_l1Cur_amongK; repeat' (first | constructor | intro _)
def EL109 : Nat → Option Callee := addE 112 c112 (addE 110 c110 (addE 71 c71 (addE 129 c129 env0)))
abbrev d109a := Q26 × (Q28 × Q10 × Q10 × LI × LI × LI × U)
def s109a : LS := ⟨[(0, oP 0 0), (2, oP 1 0), (3, oP 2 0), (4, oI)], [.box [.dat (.slice (.int .u8)), dI, .dat (.int .u64)], .box [dI, dI, dI, .fix .nils, .fix .nils, .fix .nils], .box [dI, dI, dI, .fix (.sref 3), .fix (.sref 4), .fix
 (.sref 5)], .sl (.int .i64), .sl (.int .i64), .sl (.int .i64)], [0]⟩
def x109a : List (XS d109a) := [⟨.exit 0, ⟨[0, 2, 3], [.slot 0, .slot 2, .slot 3, .cell 3 3, .cell 3 4, .cell 3 5], [0], []⟩, ⟨[(0, oP 0 0), (2, oP 1 0), (3, oP 2 0)], [.box [.dat (.slice (.int .u8)), dI, .dat (.int .u64)], .box [dI, dI,
 dI, .fix .nils, .fix .nils, .fix .nils], .box [dI, dI, dI, .fix (.sref 3), .fix (.sref 4), .fix (.sref 5)], .sl (.int .i64), .sl (.int .i64), .sl (.int .i64)], [0]⟩, LI × Int × Int × LI × LI × LI, fun i y => (((), (), (), ()), (y.1,
 y.2.1, y.2.2.1, ()), (i.2.2.1.1, i.2.2.1.2.1, i.2.2.1.2.2.1, (), (), (), ()), (i.2.2.2.1.1, i.2.2.2.1.2.1, i.2.2.2.1.2.2.1, (), (), (), ()), y.2.2.2.1, y.2.2.2.2.1, y.2.2.2.2.2, ())⟩]
def spec_l1Cur_model_l0K {R : Type} (rc : Int → LI → Int → Int → LI → LI → LI → Option R) (fin : LI × Int × Int × LI × LI × LI → Option R) (a0 : Int) (a1 : LI) (a2 a3 : Int) (a10 a11 a12 : LI) : Option R := cond (decide (a0 > 0))
 ((spec_l1Cur_pick (a1, a2, a3) 10001).bind fun y1 => (spec_l1Cur_among y1.2 [0, 100, 100, 200, 500, 1000, y1.1]).bind fun y2 => cond (decide (a10.length + [y2.1].length ≤ 1099511627776)) ((some (a10 ++ [y2.1])).bind fun v3 =>
 (spec_l1Cur_pick y2.2 1001).bind fun y4 => (spec_l1Cur_among y4.2 [0, 0, 5, 10, 20, 50, y4.1]).bind fun y5 => cond (decide (a11.length + [y5.1].length ≤ 1099511627776)) ((some (a11 ++ [y5.1])).bind fun v6 => (spec_l1Cur_pick y5.2 5).bind
 fun y7 => cond (decide (a12.length + [y7.1].length ≤ 1099511627776)) ((some (a12 ++ [y7.1])).bind fun v8 => rc (i64.wrap (a0 - 1)) y7.2.1 y7.2.2.1 y7.2.2.2 v3 v6 v8) none) none) none) (fin (a1, a2, a3, a10, a11, a12))
def spec_l1Cur_model_l0 (a0 : Int) (a1 : LI) (a2 a3 : Int) (a10 a11 a12 : LI) : Option (LI × Int × Int × LI × LI × LI) := lim (fun r (x : Int × LI × Int × Int × LI × LI × LI) => spec_l1Cur_model_l0K (fun a0 a1 a2 a3 a10 a11 a12 => r (a0,
 a1, a2, a3, a10, a11, a12)) some x.1 x.2.1 x.2.2.1 x.2.2.2.1 x.2.2.2.2.1 x.2.2.2.2.2.1 x.2.2.2.2.2.2) (a0, a1, a2, a3, a10, a11, a12)
theorem spec_l1Cur_model_l0_eq (a0 : Int) (a1 : LI) (a2 a3 : Int) (a10 a11 a12 : LI) : spec_l1Cur_model_l0 a0 a1 a2 a3 a10 a11 a12 = spec_l1Cur_model_l0K spec_l1Cur_model_l0 some a0 a1 a2 a3 a10 a11 a12 := lim_eqI (fun x =>
 by unfold spec_l1Cur_model_l0K; repeat' (first | constructor | intro _)) _
def L109a : Loop := mkM ⟨[0, 2, 3, 4], [.slot 0, .slot 2, .slot 3, .cell 3 3, .cell 3 4, .cell 3 5], [0], [.own (.cell 3 3) (.int .i64), .own (.cell 3 4) (.int .i64), .own (.cell 3 5) (.int .i64)]⟩ s109a x109a fun (x : d109a) =>
 spec_l1Cur_model_l0 x.1.2.2.2.1 x.2.1.1 x.2.1.2.1 x.2.1.2.2.1 x.2.2.2.2.1 x.2.2.2.2.2.1 x.2.2.2.2.2.2.1
def spec_l1Cur_modelK {R : Type} (fin : Q11 × Q31 → Option R) (x0 : Q31) : Option R := (spec_l1Cur_grid x0).bind fun y1 => (spec_grCount y1.1).bind fun y2 => (spec_l1Cur_model_l0 y2 y1.2.1 y1.2.2.1 y1.2.2.2 [] [] []).bind fun y16 => fin
 ((y1.1.1, y1.1.2.1, y1.1.2.2.1, y16.2.2.2), y16.1, y16.2.1, y16.2.2.1)
def spec_l1Cur_model (x0 : Q31) : Option (Q11 × Q31) := spec_l1Cur_modelK some x0
def or109 : Ora := { lo := addL 3 L109a lo0, fin := [] }
theorem o109a : LOk EL109 or109 Tryz.f109 0 L109a := loop_rnd (fun (x : d109a) => (x.1.2.2.2.1, x.2.1.1, x.2.1.2.1, x.2.1.2.2.1, x.2.2.2.2.1, x.2.2.2.2.2.1, x.2.2.2.2.2.2.1)) (fun (i : d109a) v => (((), (), (), v.1, ()), (v.2.1, v.2.2.1,
 v.2.2.2.1, ()), (i.2.2.1.1, i.2.2.1.2.1, i.2.2.1.2.2.1, (), (), (), ()), (i.2.2.2.1.1, i.2.2.2.1.2.1, i.2.2.2.1.2.2.1, (), (), (), ()), v.2.2.2.2.1, v.2.2.2.2.2.1, v.2.2.2.2.2.2, ())) (fun (i : d109a) _ rc fin v => spec_l1Cur_model_l0K
 (fun a0 a1 a2 a3 a10 a11 a12 => rc (a0, a1, a2, a3, a10, a11, a12)) fin v.1 v.2.1 v.2.2.1 v.2.2.2.1 v.2.2.2.2.1 v.2.2.2.2.2.1 v.2.2.2.2.2.2) (fun _ => rfl) (fun _ => rfl) (fun i k v => by kernel_rfl) fun i _ rc _ _ hr v =>
 by unfold spec_l1Cur_model_l0K; repeat' (first | exact .of (hr _) | constructor | intro _)
def c109 : Callee := mkC [.box [.ro (.slice (.int .u8)), kI, .ro (.int .u64)]] 1 [.agg [kI, kI, kI, .sl (.int .i64), .sl (.int .i64), .sl (.int .i64)], .box [.ro (.slice (.int .u8)), kI, .ro (.int .u64)]] fun x => spec_l1Cur_model x
theorem k109 : Cal Tryz.prog 109 c109 := cal_mk (or := or109) Tryz.func109 (by kernel_rfl) (by kernel_rfl) mixed (EnvOk.nil |>.a k129 |>.a k71 |>.a k110 |>.a k112 : EnvOk _ EL109) (LoOk.mk (by kernel_rfl) (all1 ⟨_, by kernel_rfl, o109a⟩))
 (fun _ fin x => spec_l1Cur_modelK fin x) (fun _ => rfl) (fun x => by kernel_rfl) fun x _ _ => by unfold spec_l1Cur_modelK; repeat' (first | constructor | intro _)
def EL111 : Nat → Option Callee := addE 112 c112 (addE 110 c110 (addE 129 c129 env0))
def spec_l1Cur_anyGridK {R : Type} (fin : DGrid × Q31 → Option R) (x0 : Q31) : Option R := (spec_l1Cur_grid x0).bind fun y1 => (spec_l1Cur_pick y1.2 30).bind fun y2 => cond (y2.1 == 0) ((spec_l1Cur_among y2.2 [0, 8, 9, (-1)]).bind fun y3
 => fin ((y3.1, y1.1.2), y3.2)) (cond (y2.1 == 1) ((spec_l1Cur_among y2.2 [0, 6, 7, (-1)]).bind fun y4 => fin ((y1.1.1, y4.1, y1.1.2.2), y4.2)) (cond (y2.1 == 2) ((spec_l1Cur_among y2.2 [0, 5, 6, (-1)]).bind fun y5 => fin ((y1.1.1,
 y1.1.2.1, y5.1, ()), y5.2)) (cond (y2.1 == 3) ((spec_l1Cur_among y2.2 [2, 3]).bind fun y6 => fin ((8, 6, y6.1, ()), y6.2)) (cond (y2.1 == 4) (fin ((1, 1, 4611686018427387904, ()), y2.2)) (fin (y1.1, y2.2))))))
def spec_l1Cur_anyGrid (x0 : Q31) : Option (DGrid × Q31) := spec_l1Cur_anyGridK some x0
def c111 : Callee := mkC [.box [.ro (.slice (.int .u8)), kI, .ro (.int .u64)]] 1 [.agg [.ro TGrid], .box [.ro (.slice (.int .u8)), kI, .ro (.int .u64)]] fun x => spec_l1Cur_anyGrid x
theorem k111 : Cal Tryz.prog 111 c111 := cal_mk (or := or0) Tryz.func111 (by kernel_rfl) (by kernel_rfl) mixed (EnvOk.nil |>.a k129 |>.a k110 |>.a k112 : EnvOk _ EL111) (LoOk.nil (by kernel_rfl)) (fun _ fin x => spec_l1Cur_anyGridK fin x)
 (fun _ => rfl) (fun x => by kernel_rfl) fun x _ _ => by unfold spec_l1Cur_anyGridK; repeat' (first | constructor | intro _)
def EL69 : Nat → Option Callee := addE 112 c112 (addE 111 c111 (addE 110 c110 (addE 71 c71 (addE 109 c109 env0))))
def spec_l1Cur_anyModelK {R : Type} (fin : Q11 × Q31 → Option R) (x0 : Q31) : Option R := (spec_l1Cur_model x0).bind fun y1 => (spec_grCount (y1.1.1, y1.1.2.1, y1.1.2.2.1, ())).bind fun y2 => (spec_l1Cur_pick y1.2 30).bind fun y3 => cond
 (y3.1 == 0) ((spec_l1Cur_anyGrid y3.2).bind fun y4 => fin ((y4.1.1, y4.1.2.1, y4.1.2.2.1, y1.1.2.2.2), y4.2)) (cond (y3.1 == 1) ((spec_l1Cur_pick y3.2 y2).bind fun y5 => (spec_l1Cur_among y5.2 [(-1), 10000, 10001]).bind fun y6 => cond
 (decide ((0 : Int) ≤ y5.1) && decide (y5.1 < (y1.1.2.2.2.1.length : Int))) ((some (y1.1.2.2.2.1.set (0 + y5.1.toNat) y6.1)).bind fun v7 => fin ((y1.1.1, y1.1.2.1, y1.1.2.2.1, v7, y1.1.2.2.2.2), y6.2)) none) (cond (y3.1 == 2)
 ((spec_l1Cur_pick y3.2 y2).bind fun y8 => (spec_l1Cur_among y8.2 [(-1), 1000, 1001]).bind fun y9 => cond (decide ((0 : Int) ≤ y8.1) && decide (y8.1 < (y1.1.2.2.2.2.1.length : Int))) ((some (y1.1.2.2.2.2.1.set (0 + y8.1.toNat) y9.1)).bind
 fun v10 => fin ((y1.1.1, y1.1.2.1, y1.1.2.2.1, y1.1.2.2.2.1, v10, y1.1.2.2.2.2.2), y9.2)) none) (cond (y3.1 == 3) ((spec_l1Cur_pick y3.2 y2).bind fun y11 => (spec_l1Cur_among y11.2 [(-1), 4, 5]).bind fun y12 => cond (decide ((0 : Int) ≤
 y11.1) && decide (y11.1 < (y1.1.2.2.2.2.2.length : Int))) ((some (y1.1.2.2.2.2.2.set (0 + y11.1.toNat) y12.1)).bind fun v13 => fin ((y1.1.1, y1.1.2.1, y1.1.2.2.1, y1.1.2.2.2.1, y1.1.2.2.2.2.1, v13), y12.2)) none) (cond (y3.1 == 4) (cond
 (decide (y1.1.2.2.2.2.2.length + [0].length ≤ 1099511627776)) ((some (y1.1.2.2.2.2.2 ++ [0])).bind fun v14 => fin ((y1.1.1, y1.1.2.1, y1.1.2.2.1, y1.1.2.2.2.1, y1.1.2.2.2.2.1, v14), y3.2)) none) (fin (y1.1, y3.2))))))
def spec_l1Cur_anyModel (x0 : Q31) : Option (Q11 × Q31) := spec_l1Cur_anyModelK some x0
def c69 : Callee := mkC [.box [.ro (.slice (.int .u8)), kI, .ro (.int .u64)]] 1 [.agg [kI, kI, kI, .sl (.int .i64), .sl (.int .i64), .sl (.int .i64)], .box [.ro (.slice (.int .u8)), kI, .ro (.int .u64)]] fun x => spec_l1Cur_anyModel x
set_option maxHeartbeats 4000000 in
theorem k69 : Cal Tryz.prog 69 c69 := cal_mk (or := or0) Tryz.func69 (by kernel_rfl) (by kernel_rfl) mixed (EnvOk.nil |>.a k109 |>.a k71 |>.a k110 |>.a k111 |>.a k112 : EnvOk _ EL69) (LoOk.nil (by kernel_rfl)) (fun _ fin x =>
 spec_l1Cur_anyModelK fin x) (fun _ => rfl) (fun x => by kernel_rfl) fun x _ _ => by unfold spec_l1Cur_anyModelK; repeat' (first | constructor | intro _)
def EL28 : Nat → Option Callee := addE 69 c69 env0
def spec_DrawIsModelK {R : Type} (fin : Int × Int × Int × LI × LI × LI → Option R) (x0 : LI) : Option R := (spec_l1Cur_anyModel (x0, 0, 0)).bind fun y1 => fin y1.1
def spec_DrawIsModel (x0 : LI) : Option Q11 := spec_DrawIsModelK some x0
def c28 : Callee := mkC [.one (.ro (.slice (.int .u8)))] 1 [.agg [kI, kI, kI, .sl (.int .i64), .sl (.int .i64), .sl (.int .i64)]] fun x => spec_DrawIsModel x
theorem k28 : Cal Tryz.prog 28 c28 := cal_mk (or := or0) Tryz.func28 (by kernel_rfl) (by kernel_rfl) mixed (EnvOk.nil |>.a k69 : EnvOk _ EL28) (LoOk.nil (by kernel_rfl)) (fun _ fin x => spec_DrawIsModelK fin x) (fun _ => rfl) (fun x =>
 by kernel_rfl) fun x _ _ => by unfold spec_DrawIsModelK; repeat' (first | constructor | intro _)
def EL5 : Nat → Option Callee := addE 28 c28 env0
def spec_DrawModelTextK {R : Type} (fin : Int × Int × Int × LI × LI × LI → Option R) (x0 : LI) : Option R := (spec_DrawIsModel x0).bind fun y1 => fin y1
def spec_DrawModelText (x0 : LI) : Option Q11 := spec_DrawModelTextK some x0
def c5 : Callee := mkC [.one (.ro (.slice (.int .u8)))] 1 [.agg [kI, kI, kI, .sl (.int .i64), .sl (.int .i64), .sl (.int .i64)]] fun x => spec_DrawModelText x
theorem k5 : Cal Tryz.prog 5 c5 := cal_mk (or := or0) Tryz.func5 (by kernel_rfl) (by kernel_rfl) mixed (EnvOk.nil |>.a k28 : EnvOk _ EL5) (LoOk.nil (by kernel_rfl)) (fun _ fin x => spec_DrawModelTextK fin x) (fun _ => rfl) (fun x =>
 by kernel_rfl) fun x _ _ => by unfold spec_DrawModelTextK; repeat' (first | constructor | intro _)
def EL35 : Nat → Option Callee := env0
def impl_IsGridK {R : Type} (fin : Bool → Option R) (x0 : DGrid) : Option R := cond (decide (x0.1 ≥ 1)) (cond (decide (x0.1 ≤ 8)) (cond (decide (x0.2.1 ≥ 1)) (cond (decide (x0.2.1 ≤ 6)) (cond (decide (x0.2.2.1 ≥ 1)) (cond (decide (x0.2.2.1
 ≤ 5)) (fin (decide ((i64.wrap ((i64.wrap (x0.1 * x0.2.1)) * x0.2.2.1)) ≤ 120))) (fin false)) (fin false)) (fin false)) (fin false)) (fin false)) (fin false)
def impl_IsGrid (x0 : DGrid) : Option (Bool) := impl_IsGridK some x0
def c35 : Callee := mkC [.agg [.ro TGrid]] 1 [rB] fun x => impl_IsGrid x
theorem k35 : Cal Tryz.prog 35 c35 := cal_mk (or := or0) Tryz.func35 (by kernel_rfl) (by kernel_rfl) mixed (EnvOk.nil : EnvOk _ EL35) (LoOk.nil (by kernel_rfl)) (fun _ fin x => impl_IsGridK fin x) (fun _ => rfl) (fun x => by kernel_rfl)
 fun x _ _ => by unfold impl_IsGridK; repeat' (first | constructor | intro _)
def EL38 : Nat → Option Callee := env0
def impl_blocksOfK {R : Type} (fin : Int → Option R) (x0 : DGrid) : Option R := fin (i64.wrap ((i64.wrap (x0.1 * x0.2.1)) * x0.2.2.1))
def impl_blocksOf (x0 : DGrid) : Option (Int) := impl_blocksOfK some x0
def c38 : Callee := mkC [.agg [.ro TGrid]] 1 [rI] fun x => impl_blocksOf x
theorem k38 : Cal Tryz.prog 38 c38 := cal_mk (or := or0) Tryz.func38 (by kernel_rfl) (by kernel_rfl) mixed (EnvOk.nil : EnvOk _ EL38) (LoOk.nil (by kernel_rfl)) (fun _ fin x => impl_blocksOfK fin x) (fun _ => rfl) (fun x => by kernel_rfl)
 fun x _ _ => by unfold impl_blocksOfK; repeat' (first | constructor | intro _)
def EL11 : Nat → Option Callee := addE 38 c38 (addE 35 c35 env0)
abbrev d11a := Q30 × (Q8 × U)
def s11a : LS := ⟨[(1, oP 0 0), (31, oI), (32, oI)], [.box [dI, dI, dI, dL, dL, dL]], []⟩
def x11a : List (XS d11a) := [⟨.ret, ⟨[2], [], [], []⟩, ⟨[(2, oB)], [], []⟩, Bool, fun i y => ((y, ()), ())⟩, ⟨.exit 0, ⟨[], [], [], []⟩, ⟨[], [], []⟩, U, fun i y => ((), ())⟩]
def impl_IsModel_l0K {R : Type} (a0 : Int) (a5 a6 a7 : LI) (rc : Int → Option R) (fin : Q33 → Option R) (a1 : Int) : Option R := cond (decide (a1 < a0)) ((lat a5 a1).bind fun e1 => cond (decide (e1 < 0)) (fin (.inl false)) ((lat a5
 a1).bind fun e2 => cond (decide (e2 > 10000)) (fin (.inl false)) ((lat a6 a1).bind fun e3 => cond (decide (e3 < 0)) (fin (.inl false)) ((lat a6 a1).bind fun e4 => cond (decide (e4 > 1000)) (fin (.inl false)) ((lat a7 a1).bind fun e5 =>
 cond (decide (e5 < 0)) (fin (.inl false)) ((lat a7 a1).bind fun e6 => cond (decide (e6 > 4)) (fin (.inl false)) (rc (i64.wrap (a1 + 1))))))))) (fin (.inr ()))
def impl_IsModel_l0 (a0 : Int) (a5 a6 a7 : LI) (a1 : Int) : Option Q33 := lim (fun r (x : Int) => impl_IsModel_l0K a0 a5 a6 a7 (fun a1 => r a1) some x) a1
theorem impl_IsModel_l0_eq (a0 : Int) (a5 a6 a7 : LI) (a1 : Int) : impl_IsModel_l0 a0 a5 a6 a7 a1 = impl_IsModel_l0K a0 a5 a6 a7 (impl_IsModel_l0 a0 a5 a6 a7) some a1 := lim_eqI (fun x =>
 by unfold impl_IsModel_l0K; repeat' (first | constructor | intro _)) _
def L11a : Loop := mkM ⟨[1, 31, 32], [.slot 1], [], []⟩ s11a x11a fun (x : d11a) => impl_IsModel_l0 x.1.2.1 x.2.1.2.2.2.1 x.2.1.2.2.2.2.1 x.2.1.2.2.2.2.2.1 x.1.2.2.1
def impl_IsModelK {R : Type} (fin : Bool → Option R) (x0 : DModel) : Option R := (impl_IsGrid x0.1).bind fun y1 => cond (!y1) (fin false) ((impl_blocksOf x0.1).bind fun y2 => cond ((x0.2.1.length : Int) != y2) (fin false) (cond
 ((x0.2.2.1.length : Int) != y2) (fin false) (cond ((x0.2.2.2.1.length : Int) != y2) (fin false) ((impl_IsModel_l0 y2 x0.2.1 x0.2.2.1 x0.2.2.2.1 0).bind fun y9 => sumO y9 (fun y10 => fin y10) (fun y11 => fin true)))))
def impl_IsModel (x0 : DModel) : Option (Bool) := impl_IsModelK some x0
def or11 : Ora := { lo := addL 7 L11a lo0, fin := [] }
theorem o11a : LOk EL11 or11 Tryz.f11 0 L11a := loop_rnd (fun (x : d11a) => x.1.2.2.1) (fun (i : d11a) v => (((), i.1.2.1, v, ()), (i.2.1.1, i.2.1.2.1, i.2.1.2.2.1, i.2.1.2.2.2.1, i.2.1.2.2.2.2.1, i.2.1.2.2.2.2.2.1, ()), ())) (fun (i :
 d11a) _ rc fin v => impl_IsModel_l0K i.1.2.1 i.2.1.2.2.2.1 i.2.1.2.2.2.2.1 i.2.1.2.2.2.2.2.1 (fun a1 => rc a1) fin v) (fun _ => rfl) (fun _ => rfl) (fun i k v => by kernel_rfl) fun i _ rc _ _ hr v =>
 by unfold impl_IsModel_l0K; repeat' (first | exact .of (hr _) | constructor | intro _)
def c11 : Callee := mkC [.agg [.ro TModel]] 1 [rB] fun x => impl_IsModel x
theorem k11 : Cal Tryz.prog 11 c11 := cal_mk (or := or11) Tryz.func11 (by kernel_rfl) (by kernel_rfl) mixed (EnvOk.nil |>.a k35 |>.a k38 : EnvOk _ EL11) (LoOk.mk (by kernel_rfl) (all1 ⟨_, by kernel_rfl, o11a⟩)) (fun _ fin x =>
 impl_IsModelK fin x) (fun _ => rfl) (fun x => by kernel_rfl) fun x _ _ => by unfold impl_IsModelK; repeat' (first | constructor | intro _)
def EL39 : Nat → Option Callee := addE 40 c40 env0
def spec_grGoodK {R : Type} (fin : Bool → Option R) (x0 : DGrid) : Option R := (spec_l1In x0.1 1 8).bind fun y1 => cond (y1) ((spec_l1In x0.2.1 1 6).bind fun y2 => cond (y2) ((spec_l1In x0.2.2.1 1 5).bind fun y3 => cond (y3) (fin (decide
 ((i64.wrap ((i64.wrap (x0.1 * x0.2.1)) * x0.2.2.1)) ≤ 120))) (fin false)) (fin false)) (fin false)
def spec_grGood (x0 : DGrid) : Option (Bool) := spec_grGoodK some x0
def c39 : Callee := mkC [.agg [.ro TGrid]] 1 [rB] fun x => spec_grGood x
theorem k39 : Cal Tryz.prog 39 c39 := cal_mk (or := or0) Tryz.func39 (by kernel_rfl) (by kernel_rfl) mixed (EnvOk.nil |>.a k40 : EnvOk _ EL39) (LoOk.nil (by kernel_rfl)) (fun _ fin x => spec_grGoodK fin x) (fun _ => rfl) (fun x =>
 by kernel_rfl) fun x _ _ => by unfold spec_grGoodK; repeat' (first | constructor | intro _)
def EL31 : Nat → Option Callee := addE 72 c72 (addE 71 c71 (addE 39 c39 env0))
def spec_moGoodK {R : Type} (fin : Bool → Option R) (x0 : DModel) : Option R := (spec_grGood x0.1).bind fun y1 => cond (!y1) (fin false) ((spec_grCount x0.1).bind fun y2 => cond ((x0.2.1.length : Int) == y2) (cond ((x0.2.2.1.length : Int)
 == y2) (cond ((x0.2.2.2.1.length : Int) == y2) ((spec_l1All x0.2.1 0 10000).bind fun y3 => cond (y3) ((spec_l1All x0.2.2.1 0 1000).bind fun y4 => cond (y4) ((spec_l1All x0.2.2.2.1 0 4).bind fun y5 => fin y5) (fin false)) (fin false)) (fin
 false)) (fin false)) (fin false))
def spec_moGood (x0 : DModel) : Option (Bool) := spec_moGoodK some x0
def c31 : Callee := mkC [.agg [.ro TModel]] 1 [rB] fun x => spec_moGood x
theorem k31 : Cal Tryz.prog 31 c31 := cal_mk (or := or0) Tryz.func31 (by kernel_rfl) (by kernel_rfl) mixed (EnvOk.nil |>.a k39 |>.a k71 |>.a k72 : EnvOk _ EL31) (LoOk.nil (by kernel_rfl)) (fun _ fin x => spec_moGoodK fin x) (fun _ => rfl)
 (fun x => by kernel_rfl) fun x _ _ => by unfold spec_moGoodK; repeat' (first | constructor | intro _)
def EL29 : Nat → Option Callee := env0
abbrev d29a := Q30 × (LI × U)
def s29a : LS := ⟨[(13, oS 0), (14, oI), (15, oI)], [.sl (.int .i64)], []⟩
def x29a : List (XS d29a) := [⟨.ret, ⟨[2], [], [], []⟩, ⟨[(2, oB)], [], []⟩, Bool, fun i y => ((y, ()), ())⟩, ⟨.exit 0, ⟨[], [], [], []⟩, ⟨[], [], []⟩, U, fun i y => ((), ())⟩]
def impl_ArePrices_l0K {R : Type} (a0 : Int) (a2 : LI) (rc : Int → Option R) (fin : Q33 → Option R) (a1 : Int) : Option R := cond (decide (a1 < a0)) (cond (decide ((0 : Int) ≤ a1) && decide (a1 < (a2.length : Int))) (cond (decide ((a2.getD
 (0 + a1.toNat) 0) < 0)) (fin (.inl false)) (cond (decide ((a2.getD (0 + a1.toNat) 0) > 1000)) (fin (.inl false)) (rc (i64.wrap (a1 + 1))))) none) (fin (.inr ()))
def impl_ArePrices_l0 (a0 : Int) (a2 : LI) (a1 : Int) : Option Q33 := lim (fun r (x : Int) => impl_ArePrices_l0K a0 a2 (fun a1 => r a1) some x) a1
theorem impl_ArePrices_l0_eq (a0 : Int) (a2 : LI) (a1 : Int) : impl_ArePrices_l0 a0 a2 a1 = impl_ArePrices_l0K a0 a2 (impl_ArePrices_l0 a0 a2) some a1 := lim_eqI (fun x =>
 by unfold impl_ArePrices_l0K; repeat' (first | constructor | intro _)) _
def L29a : Loop := mkM ⟨[13, 14, 15], [.slot 13], [], []⟩ s29a x29a fun (x : d29a) => impl_ArePrices_l0 x.1.2.1 x.2.1 x.1.2.2.1
def impl_ArePricesK {R : Type} (fin : Bool → Option R) (x0 : DPrices) : Option R := (impl_ArePrices_l0 ([x0.1, x0.2.1, x0.2.2.1, x0.2.2.2.1].length : Int) [x0.1, x0.2.1, x0.2.2.1, x0.2.2.2.1] 0).bind fun y1 => sumO y1 (fun y2 => fin y2)
 (fun y3 => fin true)
def impl_ArePrices (x0 : DPrices) : Option (Bool) := impl_ArePricesK some x0
def or29 : Ora := { lo := addL 2 L29a lo0, fin := [] }
theorem o29a : LOk EL29 or29 Tryz.f29 0 L29a := loop_rnd (fun (x : d29a) => x.1.2.2.1) (fun (i : d29a) v => (((), i.1.2.1, v, ()), i.2.1, ())) (fun (i : d29a) _ rc fin v => impl_ArePrices_l0K i.1.2.1 i.2.1 (fun a1 => rc a1) fin v) (fun _
 => rfl) (fun _ => rfl) (fun i k v => by kernel_rfl) fun i _ rc _ _ hr v => by unfold impl_ArePrices_l0K; repeat' (first | exact .of (hr _) | constructor | intro _)
def c29 : Callee := mkC [.agg [.ro TPrices]] 1 [rB] fun x => impl_ArePrices x
theorem k29 : Cal Tryz.prog 29 c29 := cal_mk (or := or29) Tryz.func29 (by kernel_rfl) (by kernel_rfl) mixed (EnvOk.nil : EnvOk _ EL29) (LoOk.mk (by kernel_rfl) (all1 ⟨_, by kernel_rfl, o29a⟩)) (fun _ fin x => impl_ArePricesK fin x) (fun _
 => rfl) (fun x => by kernel_rfl) fun x _ _ => by unfold impl_ArePricesK; repeat' (first | constructor | intro _)
def EL70 : Nat → Option Callee := env0
def impl_floorDivK {R : Type} (fin : Int → Option R) (x0 x1 : Int) : Option R := cond (decide (x1 = 0)) none (cond (decide (x1 = 0)) none (cond (decide ((x0.tmod x1) < 0)) (fin (i64.wrap ((i64.wrap (x0.tdiv x1)) - 1))) (fin (i64.wrap
 (x0.tdiv x1)))))
def impl_floorDiv (x0 x1 : Int) : Option (Int) := impl_floorDivK some x0 x1
def c70 : Callee := mkC [rI, rI] 1 [rI] fun x => impl_floorDiv x.1 x.2
theorem k70 : Cal Tryz.prog 70 c70 := cal_mk (or := or0) Tryz.func70 (by kernel_rfl) (by kernel_rfl) mixed (EnvOk.nil : EnvOk _ EL70) (LoOk.nil (by kernel_rfl)) (fun _ fin x => impl_floorDivK fin x.1 x.2) (fun _ => rfl) (fun x =>
 by kernel_rfl) fun x _ _ => by unfold impl_floorDivK; repeat' (first | constructor | intro _)
def EL30 : Nat → Option Callee := addE 70 c70 env0
def impl_priceValueK {R : Type} (fin : Int → Option R) (x0 : DModel) (x1 : DPrices) (x2 : Int) : Option R := (lat x0.2.1 x2).bind fun e1 => (lat x0.2.2.1 x2).bind fun e2 => (some (i64.wrap ((i64.wrap ((i64.wrap (e1 * e2)) * x1.2.1)) *
 x1.1))).bind fun v3 => (some (i64.wrap ((i64.wrap (v3.tdiv 1000)) - (i64.wrap (e1 * x1.2.2.1))))).bind fun v4 => (some (i64.wrap ((if v4 > 0 then v4 else 0) - (i64.wrap (e1 * x1.2.2.2.1))))).bind fun v5 => (impl_floorDiv v5 10000).bind
 fun y6 => fin y6
def impl_priceValue (x0 : DModel) (x1 : DPrices) (x2 : Int) : Option (Int) := impl_priceValueK some x0 x1 x2
def c30 : Callee := mkC [.agg [.ro TModel], .agg [.ro TPrices], rI] 1 [rI] fun x => impl_priceValue x.1 x.2.1 x.2.2
theorem k30 : Cal Tryz.prog 30 c30 := cal_mk (or := or0) Tryz.func30 (by kernel_rfl) (by kernel_rfl) mixed (EnvOk.nil |>.a k70 : EnvOk _ EL30) (LoOk.nil (by kernel_rfl)) (fun _ fin x => impl_priceValueK fin x.1 x.2.1 x.2.2) (fun _ => rfl)
 (fun x => by kernel_rfl) fun x _ _ => by unfold impl_priceValueK; repeat' (first | constructor | intro _)
def EL6 : Nat → Option Callee := addE 30 c30 (addE 29 c29 (addE 11 c11 env0))
abbrev d6a := Q15 × (Q8 × (Int × Int × Int × Int × U) × LI × U)
def s6a : LS := ⟨[(2, oP 0 0), (3, oP 1 0), (6, oS 2), (19, oI), (20, oI)], [.box [dI, dI, dI, dL, dL, dL], .box [dI, dI, dI, dI], .sl (.int .i64)], []⟩
def x6a : List (XS d6a) := [⟨.exit 0, ⟨[6], [.slot 6], [], []⟩, ⟨[(6, oS 0)], [.sl (.int .i64)], []⟩, LI, fun i y => (((), ()), y, ())⟩]
def impl_PriceValues_l0K {R : Type} (a0 a2 a3 a4 : Int) (a5 a6 a7 : LI) (a8 a9 a10 a11 : Int) (rc : Int → LI → Option R) (fin : LI → Option R) (a1 : Int) (a12 : LI) : Option R := cond (decide (a1 < a0)) ((impl_priceValue ((a2, a3, a4, ()),
 a5, a6, a7, ()) (a8, a9, a10, a11, ()) a1).bind fun y1 => cond (decide (a12.length + [y1].length ≤ 1099511627776)) (rc (i64.wrap (a1 + 1)) (a12 ++ [y1])) none) (fin a12)
def impl_PriceValues_l0 (a0 a2 a3 a4 : Int) (a5 a6 a7 : LI) (a8 a9 a10 a11 : Int) (a1 : Int) (a12 : LI) : Option (LI) := lim (fun r (x : Q34) => impl_PriceValues_l0K a0 a2 a3 a4 a5 a6 a7 a8 a9 a10 a11 (fun a1 a12 => r (a1, a12)) some x.1
 x.2) (a1, a12)
theorem impl_PriceValues_l0_eq (a0 a2 a3 a4 : Int) (a5 a6 a7 : LI) (a8 a9 a10 a11 : Int) (a1 : Int) (a12 : LI) : impl_PriceValues_l0 a0 a2 a3 a4 a5 a6 a7 a8 a9 a10 a11 a1 a12 = impl_PriceValues_l0K a0 a2 a3 a4 a5 a6 a7 a8 a9 a10 a11
 (impl_PriceValues_l0 a0 a2 a3 a4 a5 a6 a7 a8 a9 a10 a11) some a1 a12 := lim_eqI (fun x => by unfold impl_PriceValues_l0K; repeat' (first | constructor | intro _)) _
def L6a : Loop := mkM ⟨[2, 3, 6, 19, 20], [.slot 2, .slot 3, .slot 6], [], []⟩ s6a x6a fun (x : d6a) => impl_PriceValues_l0 x.1.2.2.2.1 x.2.1.1 x.2.1.2.1 x.2.1.2.2.1 x.2.1.2.2.2.1 x.2.1.2.2.2.2.1 x.2.1.2.2.2.2.2.1 x.2.2.1.1 x.2.2.1.2.1
 x.2.2.1.2.2.1 x.2.2.1.2.2.2.1 x.1.2.2.2.2.1 x.2.2.2.1
def impl_PriceValuesK {R : Type} (fin : LI × Bool → Option R) (x0 : DModel) (x1 : DPrices) : Option R := (impl_IsModel x0).bind fun y1 => cond (!y1) (fin ([], false)) ((impl_ArePrices x1).bind fun y2 => cond (!y2) (fin ([], false))
 ((impl_PriceValues_l0 (x0.2.1.length : Int) x0.1.1 x0.1.2.1 x0.1.2.2.1 x0.2.1 x0.2.2.1 x0.2.2.2.1 x1.1 x1.2.1 x1.2.2.1 x1.2.2.2.1 0 []).bind fun y4 => fin (y4, true)))
def impl_PriceValues (x0 : DModel) (x1 : DPrices) : Option (LI × Bool) := impl_PriceValuesK some x0 x1
def or6 : Ora := { lo := addL 5 L6a lo0, fin := [.own (.slot 4) (.int .i64)] }
theorem o6a : LOk EL6 or6 Tryz.f6 0 L6a := loop_rnd (fun (x : d6a) => (x.1.2.2.2.2.1, x.2.2.2.1)) (fun (i : d6a) v => (((), (), (), i.1.2.2.2.1, v.1, ()), (i.2.1.1, i.2.1.2.1, i.2.1.2.2.1, i.2.1.2.2.2.1, i.2.1.2.2.2.2.1, i.2.1.2.2.2.2.2.1,
 ()), (i.2.2.1.1, i.2.2.1.2.1, i.2.2.1.2.2.1, i.2.2.1.2.2.2.1, ()), v.2, ())) (fun (i : d6a) _ rc fin v => impl_PriceValues_l0K i.1.2.2.2.1 i.2.1.1 i.2.1.2.1 i.2.1.2.2.1 i.2.1.2.2.2.1 i.2.1.2.2.2.2.1 i.2.1.2.2.2.2.2.1 i.2.2.1.1 i.2.2.1.2.1
 i.2.2.1.2.2.1 i.2.2.1.2.2.2.1 (fun a1 a12 => rc (a1, a12)) fin v.1 v.2) (fun _ => rfl) (fun _ => rfl) (fun i k v => by kernel_rfl) fun i _ rc _ _ hr v =>
 by unfold impl_PriceValues_l0K; repeat' (first | exact .of (hr _) | constructor | intro _)
def c6 : Callee := mkC [.agg [.ro TModel], .agg [.ro TPrices]] 2 [.one (.sl (.int .i64)), rB] fun x => impl_PriceValues x.1 x.2
theorem k6 : Cal Tryz.prog 6 c6 := cal_mk (or := or6) Tryz.func6 (by kernel_rfl) (by kernel_rfl) mixed (EnvOk.nil |>.a k11 |>.a k29 |>.a k30 : EnvOk _ EL6) (LoOk.mk (by kernel_rfl) (all1 ⟨_, by kernel_rfl, o6a⟩)) (fun _ fin x =>
 impl_PriceValuesK fin x.1 x.2) (fun _ => rfl) (fun x => by kernel_rfl) fun x _ _ => by unfold impl_PriceValuesK; repeat' (first | constructor | intro _)
def EL32 : Nat → Option Callee := addE 72 c72 env0
def spec_vaPricesK {R : Type} (fin : Bool → Option R) (x0 : DPrices) : Option R := (spec_l1All [x0.1, x0.2.1, x0.2.2.1, x0.2.2.2.1] 0 1000).bind fun y1 => fin y1
def spec_vaPrices (x0 : DPrices) : Option (Bool) := spec_vaPricesK some x0
def c32 : Callee := mkC [.agg [.ro TPrices]] 1 [rB] fun x => spec_vaPrices x
theorem k32 : Cal Tryz.prog 32 c32 := cal_mk (or := or0) Tryz.func32 (by kernel_rfl) (by kernel_rfl) mixed (EnvOk.nil |>.a k72 : EnvOk _ EL32) (LoOk.nil (by kernel_rfl)) (fun _ fin x => spec_vaPricesK fin x) (fun _ => rfl) (fun x =>
 by kernel_rfl) fun x _ _ => by unfold spec_vaPricesK; repeat' (first | constructor | intro _)
def EL113 : Nat → Option Callee := env0
def spec_moMetalK {R : Type} (fin : Int → Option R) (x0 : DModel) (x1 : Int) : Option R := (lat x0.2.1 x1).bind fun e1 => (lat x0.2.2.1 x1).bind fun e2 => fin (i64.wrap (e1 * e2))
def spec_moMetal (x0 : DModel) (x1 : Int) : Option (Int) := spec_moMetalK some x0 x1
def c113 : Callee := mkC [.agg [.ro TModel], rI] 1 [rI] fun x => spec_moMetal x.1 x.2
theorem k113 : Cal Tryz.prog 113 c113 := cal_mk (or := or0) Tryz.func113 (by kernel_rfl) (by kernel_rfl) mixed (EnvOk.nil : EnvOk _ EL113) (LoOk.nil (by kernel_rfl)) (fun _ fin x => spec_moMetalK fin x.1 x.2) (fun _ => rfl) (fun x =>
 by kernel_rfl) fun x _ _ => by unfold spec_moMetalK; repeat' (first | constructor | intro _)
def EL61 : Nat → Option Callee := env0
def spec_l1MostK {R : Type} (fin : Int → Option R) (x0 x1 : Int) : Option R := cond (decide (x0 > x1)) (fin x0) (fin x1)
def spec_l1Most (x0 x1 : Int) : Option (Int) := spec_l1MostK some x0 x1
def c61 : Callee := mkC [rI, rI] 1 [rI] fun x => spec_l1Most x.1 x.2
theorem k61 : Cal Tryz.prog 61 c61 := cal_mk (or := or0) Tryz.func61 (by kernel_rfl) (by kernel_rfl) mixed (EnvOk.nil : EnvOk _ EL61) (LoOk.nil (by kernel_rfl)) (fun _ fin x => spec_l1MostK fin x.1 x.2) (fun _ => rfl) (fun x =>
 by kernel_rfl) fun x _ _ => by unfold spec_l1MostK; repeat' (first | constructor | intro _)
def EL114 : Nat → Option Callee := env0
def spec_ruDownK {R : Type} (fin : Int → Option R) (x0 x1 : Int) : Option R := cond (decide (x1 = 0)) none (cond (decide (x1 = 0)) none (cond ((x0.tmod x1) != 0) (cond (!((decide (x0 < 0)) == (decide (x1 < 0)))) (fin (i64.wrap ((i64.wrap
 (x0.tdiv x1)) - 1))) (fin (i64.wrap (x0.tdiv x1)))) (fin (i64.wrap (x0.tdiv x1)))))
def spec_ruDown (x0 x1 : Int) : Option (Int) := spec_ruDownK some x0 x1
def c114 : Callee := mkC [rI, rI] 1 [rI] fun x => spec_ruDown x.1 x.2
theorem k114 : Cal Tryz.prog 114 c114 := cal_mk (or := or0) Tryz.func114 (by kernel_rfl) (by kernel_rfl) mixed (EnvOk.nil : EnvOk _ EL114) (LoOk.nil (by kernel_rfl)) (fun _ fin x => spec_ruDownK fin x.1 x.2) (fun _ => rfl) (fun x =>
 by kernel_rfl) fun x _ _ => by unfold spec_ruDownK; repeat' (first | constructor | intro _)
def EL73 : Nat → Option Callee := addE 114 c114 (addE 61 c61 (addE 113 c113 env0))
def spec_vaPriceK {R : Type} (fin : Int → Option R) (x0 : DModel) (x1 : DPrices) (x2 : Int) : Option R := (spec_moMetal x0 x2).bind fun y1 => (lat x0.2.1 x2).bind fun e2 => (some (i64.wrap ((i64.wrap ((i64.wrap ((i64.wrap (y1 * x1.2.1)) *
 x1.1)).tdiv 1000)) - (i64.wrap (e2 * x1.2.2.1))))).bind fun v3 => (spec_l1Most 0 v3).bind fun y4 => (lat x0.2.1 x2).bind fun e5 => (spec_ruDown (i64.wrap (y4 - (i64.wrap (e5 * x1.2.2.2.1)))) 10000).bind fun y6 => fin y6
def spec_vaPrice (x0 : DModel) (x1 : DPrices) (x2 : Int) : Option (Int) := spec_vaPriceK some x0 x1 x2
def c73 : Callee := mkC [.agg [.ro TModel], .agg [.ro TPrices], rI] 1 [rI] fun x => spec_vaPrice x.1 x.2.1 x.2.2
theorem k73 : Cal Tryz.prog 73 c73 := cal_mk (or := or0) Tryz.func73 (by kernel_rfl) (by kernel_rfl) mixed (EnvOk.nil |>.a k113 |>.a k61 |>.a k114 : EnvOk _ EL73) (LoOk.nil (by kernel_rfl)) (fun _ fin x => spec_vaPriceK fin x.1 x.2.1
 x.2.2) (fun _ => rfl) (fun x => by kernel_rfl) fun x _ _ => by unfold spec_vaPriceK; repeat' (first | constructor | intro _)
def EL33 : Nat → Option Callee := addE 73 c73 env0
abbrev d33a := Q15 × (Q8 × (Int × Int × Int × Int × U) × LI × U)
def s33a : LS := ⟨[(2, oP 0 0), (3, oP 1 0), (5, oS 2), (9, oI), (10, oI)], [.box [dI, dI, dI, dL, dL, dL], .box [dI, dI, dI, dI], .sl (.int .i64)], []⟩
def x33a : List (XS d33a) := [⟨.exit 0, ⟨[5], [.slot 5], [], []⟩, ⟨[(5, oS 0)], [.sl (.int .i64)], []⟩, LI, fun i y => (((), ()), y, ())⟩]
def spec_vaAll_l0K {R : Type} (a0 a2 a3 a4 : Int) (a5 a6 a7 : LI) (a8 a9 a10 a11 : Int) (rc : Int → LI → Option R) (fin : LI → Option R) (a1 : Int) (a12 : LI) : Option R := cond (decide (a1 < a0)) ((spec_vaPrice ((a2, a3, a4, ()), a5, a6,
 a7, ()) (a8, a9, a10, a11, ()) a1).bind fun y1 => cond (decide (a12.length + [y1].length ≤ 1099511627776)) (rc (i64.wrap (a1 + 1)) (a12 ++ [y1])) none) (fin a12)
def spec_vaAll_l0 (a0 a2 a3 a4 : Int) (a5 a6 a7 : LI) (a8 a9 a10 a11 : Int) (a1 : Int) (a12 : LI) : Option (LI) := lim (fun r (x : Q34) => spec_vaAll_l0K a0 a2 a3 a4 a5 a6 a7 a8 a9 a10 a11 (fun a1 a12 => r (a1, a12)) some x.1 x.2) (a1, a12)
theorem spec_vaAll_l0_eq (a0 a2 a3 a4 : Int) (a5 a6 a7 : LI) (a8 a9 a10 a11 : Int) (a1 : Int) (a12 : LI) : spec_vaAll_l0 a0 a2 a3 a4 a5 a6 a7 a8 a9 a10 a11 a1 a12 = spec_vaAll_l0K a0 a2 a3 a4 a5 a6 a7 a8 a9 a10 a11 (spec_vaAll_l0 a0 a2 a3
 a4 a5 a6 a7 a8 a9 a10 a11) some a1 a12 := lim_eqI (fun x => by unfold spec_vaAll_l0K; repeat' (first | constructor | intro _)) _
def L33a : Loop := mkM ⟨[2, 3, 5, 9, 10], [.slot 2, .slot 3, .slot 5], [], [.own (.slot 5) (.int .i64)]⟩ s33a x33a fun (x : d33a) => spec_vaAll_l0 x.1.2.2.2.1 x.2.1.1 x.2.1.2.1 x.2.1.2.2.1 x.2.1.2.2.2.1 x.2.1.2.2.2.2.1 x.2.1.2.2.2.2.2.1
 x.2.2.1.1 x.2.2.1.2.1 x.2.2.1.2.2.1 x.2.2.1.2.2.2.1 x.1.2.2.2.2.1 x.2.2.2.1
def spec_vaAllK {R : Type} (fin : LI → Option R) (x0 : DModel) (x1 : DPrices) : Option R := (spec_vaAll_l0 (x0.2.1.length : Int) x0.1.1 x0.1.2.1 x0.1.2.2.1 x0.2.1 x0.2.2.1 x0.2.2.2.1 x1.1 x1.2.1 x1.2.2.1 x1.2.2.2.1 0 []).bind fun y3 => fin
 y3
def spec_vaAll (x0 : DModel) (x1 : DPrices) : Option (LI) := spec_vaAllK some x0 x1
def or33 : Ora := { lo := addL 3 L33a lo0, fin := [] }
theorem o33a : LOk EL33 or33 Tryz.f33 0 L33a := loop_rnd (fun (x : d33a) => (x.1.2.2.2.2.1, x.2.2.2.1)) (fun (i : d33a) v => (((), (), (), i.1.2.2.2.1, v.1, ()), (i.2.1.1, i.2.1.2.1, i.2.1.2.2.1, i.2.1.2.2.2.1, i.2.1.2.2.2.2.1,
 i.2.1.2.2.2.2.2.1, ()), (i.2.2.1.1, i.2.2.1.2.1, i.2.2.1.2.2.1, i.2.2.1.2.2.2.1, ()), v.2, ())) (fun (i : d33a) _ rc fin v => spec_vaAll_l0K i.1.2.2.2.1 i.2.1.1 i.2.1.2.1 i.2.1.2.2.1 i.2.1.2.2.2.1 i.2.1.2.2.2.2.1 i.2.1.2.2.2.2.2.1
 i.2.2.1.1 i.2.2.1.2.1 i.2.2.1.2.2.1 i.2.2.1.2.2.2.1 (fun a1 a12 => rc (a1, a12)) fin v.1 v.2) (fun _ => rfl) (fun _ => rfl) (fun i k v => by kernel_rfl) fun i _ rc _ _ hr v =>
 by unfold spec_vaAll_l0K; repeat' (first | exact .of (hr _) | constructor | intro _)
def c33 : Callee := mkC [.agg [.ro TModel], .agg [.ro TPrices]] 1 [.one (.sl (.int .i64))] fun x => spec_vaAll x.1 x.2
theorem k33 : Cal Tryz.prog 33 c33 := cal_mk (or := or33) Tryz.func33 (by kernel_rfl) (by kernel_rfl) mixed (EnvOk.nil |>.a k73 : EnvOk _ EL33) (LoOk.mk (by kernel_rfl) (all1 ⟨_, by kernel_rfl, o33a⟩)) (fun _ fin x => spec_vaAllK fin x.1
 x.2) (fun _ => rfl) (fun x => by kernel_rfl) fun x _ _ => by unfold spec_vaAllK; repeat' (first | constructor | intro _)
def EL7 : Nat → Option Callee := addE 33 c33 (addE 32 c32 (addE 31 c31 env0))
def spec_PriceValuesK {R : Type} (fin : LI × Bool → Option R) (x0 : DModel) (x1 : DPrices) : Option R := (spec_moGood x0).bind fun y1 => cond (!y1) (fin ([], false)) ((spec_vaPrices x1).bind fun y2 => cond (!y2) (fin ([], false))
 ((spec_vaAll x0 x1).bind fun y3 => fin (y3, true)))
def spec_PriceValues (x0 : DModel) (x1 : DPrices) : Option (LI × Bool) := spec_PriceValuesK some x0 x1
def or7 : Ora := { lo := lo0, fin := [.own (.slot 4) (.int .i64)] }
def c7 : Callee := mkC [.agg [.ro TModel], .agg [.ro TPrices]] 2 [.one (.sl (.int .i64)), rB] fun x => spec_PriceValues x.1 x.2
theorem k7 : Cal Tryz.prog 7 c7 := cal_mk (or := or7) Tryz.func7 (by kernel_rfl) (by kernel_rfl) mixed (EnvOk.nil |>.a k31 |>.a k32 |>.a k33 : EnvOk _ EL7) (LoOk.nil (by kernel_rfl)) (fun _ fin x => spec_PriceValuesK fin x.1 x.2) (fun _ =>
 rfl) (fun x => by kernel_rfl) fun x _ _ => by unfold spec_PriceValuesK; repeat' (first | constructor | intro _)
end
end Go.OAI
