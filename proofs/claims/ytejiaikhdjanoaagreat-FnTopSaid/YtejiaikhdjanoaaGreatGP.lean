/- Contracts: GP. -/
import Derived.Test.YtejiaikhdjanoaaGreatGA
import Derived.Test.YtejiaikhdjanoaaGreatGFl
namespace Go.OAI
open Go.Proofs
open Go.IntKind (i64 u64 u8)
set_option linter.unusedVariables false
noncomputable section
def EL86 : Nat → Option Callee := env0
abbrev d86b := (LL × Int × U × Int × LI × Int × Int × LI × Int × Int × U) × ((List DGrid) × U)
def s86b : LS := ⟨[(0, oM), (6, oI), (7, oS 0), (8, oI), (16, oL), (17, oI), (18, oI), (47, oL), (48, oI), (49, oI)], [.sl TGrid], []⟩
def x86b : List (XS d86b) := [⟨.exit 2, ⟨[0, 6, 7, 16, 17, 18], [.slot 7], [], []⟩, ⟨[(0, oM), (6, oI), (7, oS 0), (16, oL), (17, oI), (18, oI)], [.sl TGrid], []⟩, List DGrid, fun i y => ((i.1.1, i.1.2.1, (), i.1.2.2.2.2.1,
 i.1.2.2.2.2.2.1, i.1.2.2.2.2.2.2.1, ()), y, ())⟩]
def impl_pitNetwork_l1K {R : Type} (a2 : Int) (a6 : LI) (a7 : Int) (rc : Int → List DGrid → Option R) (fin : List DGrid → Option R) (a8 : Int) (a9 : List DGrid) : Option R := cond (decide (a8 < a7)) ((lat a6 a8).bind fun e1 => cond (decide
 (a9.length + [(i64.wrap (a2 + 1), i64.wrap (e1 + 1), 1000000000, ())].length ≤ 1099511627776)) ((some (a9 ++ [(i64.wrap (a2 + 1), i64.wrap (e1 + 1), 1000000000, ())])).bind fun v2 => rc (i64.wrap (a8 + 1)) v2) none) (fin a9)
def impl_pitNetwork_l1 (a2 : Int) (a6 : LI) (a7 : Int) (a8 : Int) (a9 : List DGrid) : Option (List DGrid) := lim (fun r (x : Int × (List DGrid)) => impl_pitNetwork_l1K a2 a6 a7 (fun a8 a9 => r (a8, a9)) some x.1 x.2) (a8, a9)
theorem impl_pitNetwork_l1_eq (a2 : Int) (a6 : LI) (a7 : Int) (a8 : Int) (a9 : List DGrid) : impl_pitNetwork_l1 a2 a6 a7 a8 a9 = impl_pitNetwork_l1K a2 a6 a7 (impl_pitNetwork_l1 a2 a6 a7) some a8 a9 := lim_eqI (fun x =>
 by unfold impl_pitNetwork_l1K; repeat' (first | constructor | intro _)) _
def L86b : Loop := mkM ⟨[0, 6, 7, 8, 16, 17, 18, 47, 48, 49], [.slot 7], [], []⟩ s86b x86b fun (x : d86b) => impl_pitNetwork_l1 x.1.2.2.2.1 x.1.2.2.2.2.2.2.2.1 x.1.2.2.2.2.2.2.2.2.1 x.1.2.2.2.2.2.2.2.2.2.1 x.2.1
abbrev d86a := (LL × Int × U × LI × Int × Int × U) × ((List DGrid) × U)
def s86a : LS := ⟨[(0, oM), (6, oI), (7, oS 0), (16, oL), (17, oI), (18, oI)], [.sl TGrid], []⟩
def x86a : List (XS d86a) := [⟨.exit 0, ⟨[6, 7], [.slot 7], [], []⟩, ⟨[(6, oI), (7, oS 0)], [.sl TGrid], []⟩, List DGrid, fun i y => ((i.1.2.1, (), ()), y, ())⟩]
def impl_pitNetwork_l0K {R : Type} (a0 : LL) (a1 : Int) (a2 : LI) (a3 : Int) (rc : Int → List DGrid → Option R) (fin : List DGrid → Option R) (a4 : Int) (a5 : List DGrid) : Option R := cond (decide (a4 < a3)) ((lat a2 a4).bind fun e1 =>
 cond (decide (e1 > 0)) (cond (decide (a5.length + [(0, i64.wrap (a4 + 1), e1, ())].length ≤ 1099511627776)) ((some (a5 ++ [(0, i64.wrap (a4 + 1), e1, ())])).bind fun v2 => cond (decide (e1 < 0)) (cond (decide (v2.length + [(i64.wrap (a4 +
 1), i64.wrap (a1 - 1), i64.wrap (0 - e1), ())].length ≤ 1099511627776)) ((some (v2 ++ [(i64.wrap (a4 + 1), i64.wrap (a1 - 1), i64.wrap (0 - e1), ())])).bind fun v3 => (lat a0 a4).bind fun e4 => (impl_pitNetwork_l1 a4 e4 (e4.length : Int)
 0 v3).bind fun y7 => rc (i64.wrap (a4 + 1)) y7) none) ((lat a0 a4).bind fun e8 => (impl_pitNetwork_l1 a4 e8 (e8.length : Int) 0 v2).bind fun y9 => rc (i64.wrap (a4 + 1)) y9)) none) (cond (decide (e1 < 0)) (cond (decide (a5.length +
 [(i64.wrap (a4 + 1), i64.wrap (a1 - 1), i64.wrap (0 - e1), ())].length ≤ 1099511627776)) ((some (a5 ++ [(i64.wrap (a4 + 1), i64.wrap (a1 - 1), i64.wrap (0 - e1), ())])).bind fun v10 => (lat a0 a4).bind fun e11 => (impl_pitNetwork_l1 a4
 e11 (e11.length : Int) 0 v10).bind fun y12 => rc (i64.wrap (a4 + 1)) y12) none) ((lat a0 a4).bind fun e13 => (impl_pitNetwork_l1 a4 e13 (e13.length : Int) 0 a5).bind fun y14 => rc (i64.wrap (a4 + 1)) y14))) (fin a5)
def impl_pitNetwork_l0 (a0 : LL) (a1 : Int) (a2 : LI) (a3 : Int) (a4 : Int) (a5 : List DGrid) : Option (List DGrid) := lim (fun r (x : Int × (List DGrid)) => impl_pitNetwork_l0K a0 a1 a2 a3 (fun a4 a5 => r (a4, a5)) some x.1 x.2) (a4, a5)
theorem impl_pitNetwork_l0_eq (a0 : LL) (a1 : Int) (a2 : LI) (a3 : Int) (a4 : Int) (a5 : List DGrid) : impl_pitNetwork_l0 a0 a1 a2 a3 a4 a5 = impl_pitNetwork_l0K a0 a1 a2 a3 (impl_pitNetwork_l0 a0 a1 a2 a3) some a4 a5 := lim_eqI (fun x =>
 by unfold impl_pitNetwork_l0K; repeat' (first | constructor | intro _)) _
def L86a : Loop := mkM ⟨[0, 6, 7, 16, 17, 18], [.slot 7], [], []⟩ s86a x86a fun (x : d86a) => impl_pitNetwork_l0 x.1.1 x.1.2.1 x.1.2.2.2.1 x.1.2.2.2.2.1 x.1.2.2.2.2.2.1 x.2.1
def impl_pitNetworkK {R : Type} (fin : Int × (List DGrid) → Option R) (x0 : LL) (x1 : LI) : Option R := (impl_pitNetwork_l0 x0 (i64.wrap ((x0.length : Int) + 2)) x1 (x1.length : Int) 0 []).bind fun y15 => fin (i64.wrap ((x0.length : Int) +
 2), y15)
def impl_pitNetwork (x0 : LL) (x1 : LI) : Option (Int × (List DGrid)) := impl_pitNetworkK some x0 x1
def or86 : Ora := { lo := addL 4 L86a (addL 11 L86b lo0), fin := [] }
theorem o86b : LOk EL86 or86 Tryz.f86 1 L86b := loop_rnd (fun (x : d86b) => (x.1.2.2.2.2.2.2.2.2.2.1, x.2.1)) (fun (i : d86b) v => ((i.1.1, i.1.2.1, (), i.1.2.2.2.1, i.1.2.2.2.2.1, i.1.2.2.2.2.2.1, i.1.2.2.2.2.2.2.1, i.1.2.2.2.2.2.2.2.1,
 i.1.2.2.2.2.2.2.2.2.1, v.1, ()), v.2, ())) (fun (i : d86b) _ rc fin v => impl_pitNetwork_l1K i.1.2.2.2.1 i.1.2.2.2.2.2.2.2.1 i.1.2.2.2.2.2.2.2.2.1 (fun a8 a9 => rc (a8, a9)) fin v.1 v.2) (fun _ => rfl) (fun _ => rfl) (fun i k v =>
 by kernel_rfl) fun i _ rc _ _ hr v => by unfold impl_pitNetwork_l1K; repeat' (first | exact .of (hr _) | constructor | intro _)
theorem o86a : LOk EL86 or86 Tryz.f86 0 L86a := loop_rnd (fun (x : d86a) => (x.1.2.2.2.2.2.1, x.2.1)) (fun (i : d86a) v => ((i.1.1, i.1.2.1, (), i.1.2.2.2.1, i.1.2.2.2.2.1, v.1, ()), v.2, ())) (fun (i : d86a) _ rc fin v =>
 impl_pitNetwork_l0K i.1.1 i.1.2.1 i.1.2.2.2.1 i.1.2.2.2.2.1 (fun a4 a5 => rc (a4, a5)) fin v.1 v.2) (fun _ => rfl) (fun _ => rfl) (fun i k v => by kernel_rfl) fun i _ rc _ _ hr v =>
 by unfold impl_pitNetwork_l0K; repeat' (first | exact .of (hr _) | constructor | intro _)
def c86 : Callee := mkC [rM, rL] 2 [rI, .one (.sl TGrid)] fun x => impl_pitNetwork x.1 x.2
theorem k86 : Cal Tryz.prog 86 c86 := cal_mk (or := or86) Tryz.func86 (by kernel_rfl) (by kernel_rfl) mixed (EnvOk.nil : EnvOk _ EL86) (LoOk.mk (by kernel_rfl) (all2 ⟨_, by kernel_rfl, o86a⟩ ⟨_, by kernel_rfl, o86b⟩)) (fun _ fin x =>
 impl_pitNetworkK fin x.1 x.2) (fun _ => rfl) (fun x => by kernel_rfl) fun x _ _ => by unfold impl_pitNetworkK; repeat' (first | constructor | intro _)
def EL91 : Nat → Option Callee := env0
abbrev d91b := (U × U × (Nat × Nat) × LI × Int × Int × U) × Q36
def s91b : LS := ⟨[(0, oP 0 0), (3, oS 4), (5, .one (.win 5)), (40, oL), (41, oI), (42, oI)], [.box [dM, dL, .fix (.sref 1), .fix (.sref 2), .fix (.sref 3)], .sl (.int .i64), .sl (.int .i64), .sl (.int .i64), .sl .bool, .sl (.int .i64)],
 [0]⟩
def x91b : List (XS d91b) := [⟨.exit 2, ⟨[0, 3, 5], [.slot 0, .cell 0 2, .cell 0 3, .cell 0 4, .slot 3, .slot 5], [0], []⟩, ⟨[(0, oP 0 0), (3, oS 4), (5, .one (.win 5))], [.box [dM, dL, .fix (.sref 1), .fix (.sref 2), .fix (.sref 3)], .sl
 (.int .i64), .sl (.int .i64), .sl (.int .i64), .sl .bool, .sl (.int .i64)], [0]⟩, Nat × Nat × LB × LI, fun i y => (((), (), (y.1, y.2.1), ()), (i.2.1.1, i.2.1.2.1, (), (), (), ()), i.2.2.1, i.2.2.2.1, i.2.2.2.2.1, y.2.2.1, y.2.2.2, ())⟩]
def impl_residual_toSink_l1K {R : Type} (a2 : LI) (a3 : Int) (a6 a7 : LI) (rc : Nat → Nat → Int → LB → LI → Option R) (fin : Nat × Nat × LB × LI → Option R) (a0 a1 : Nat) (a4 : Int) (a10 : LB) (a11 : LI) : Option R := cond (decide (a4 <
 a3)) ((lat a2 a4).bind fun e1 => cond (decide ((0 : Int) ≤ xorI .i64 e1 1) && decide (xorI .i64 e1 1 < (a7.length : Int))) (cond (decide ((a7.getD (0 + (xorI .i64 e1 1).toNat) 0) > 0)) ((lat a6 e1).bind fun e2 => cond (decide ((0 : Int) ≤
 e2) && decide (e2 < (a10.length : Int))) (cond (!(a10.getD (0 + e2.toNat) false)) ((lat a6 e1).bind fun e3 => cond (decide ((0 : Int) ≤ e3) && decide (e3 < (a10.length : Int))) ((some (a10.set (0 + e3.toNat) true)).bind fun v4 => (lat a6
 e1).bind fun e5 => cond (decide (((a11.drop a0).take a1).length + [e5].length ≤ 1099511627776)) ((some (((a11.drop a0).take a1) ++ [e5])).bind fun v6 => rc 0 v6.length (i64.wrap (a4 + 1)) v4 v6) none) none) (rc a0 a1 (i64.wrap (a4 + 1))
 a10 a11)) none) (rc a0 a1 (i64.wrap (a4 + 1)) a10 a11)) none) (fin (a0, a1, a10, a11))
def impl_residual_toSink_l1 (a2 : LI) (a3 : Int) (a6 a7 : LI) (a0 a1 : Nat) (a4 : Int) (a10 : LB) (a11 : LI) : Option (Nat × Nat × LB × LI) := lim (fun r (x : Nat × Nat × Int × LB × LI) => impl_residual_toSink_l1K a2 a3 a6 a7 (fun a0 a1 a4
 a10 a11 => r (a0, a1, a4, a10, a11)) some x.1 x.2.1 x.2.2.1 x.2.2.2.1 x.2.2.2.2) (a0, a1, a4, a10, a11)
def L91b : Loop := mkM ⟨[0, 3, 5, 40, 41, 42], [.slot 0, .cell 0 2, .cell 0 3, .cell 0 4, .slot 3, .slot 5], [0], [.win (.slot 5)]⟩ s91b x91b fun (x : d91b) => impl_residual_toSink_l1 x.1.2.2.2.1 x.1.2.2.2.2.1 x.2.1.2.1 x.2.2.1 x.1.2.2.1.1
 x.1.2.2.1.2 x.1.2.2.2.2.2.1 x.2.2.2.2.2.1 x.2.2.2.2.2.2.1
abbrev d91a := (U × U × (Nat × Nat) × U) × Q36
def s91a : LS := ⟨[(0, oP 0 0), (3, oS 4), (5, .one (.win 5))], [.box [dM, dL, .fix (.sref 1), .fix (.sref 2), .fix (.sref 3)], .sl (.int .i64), .sl (.int .i64), .sl (.int .i64), .sl .bool, .sl (.int .i64)], [0]⟩
def x91a : List (XS d91a) := [⟨.exit 0, ⟨[0, 3], [.slot 0, .cell 0 2, .cell 0 3, .cell 0 4, .slot 3], [0], []⟩, ⟨[(0, oP 0 0), (3, oS 4)], [.box [dM, dL, .fix (.sref 1), .fix (.sref 2), .fix (.sref 3)], .sl (.int .i64), .sl (.int .i64),
 .sl (.int .i64), .sl .bool], [0]⟩, LB, fun i y => (((), (), ()), (i.2.1.1, i.2.1.2.1, (), (), (), ()), i.2.2.1, i.2.2.2.1, i.2.2.2.2.1, y, ())⟩]
def impl_residual_toSink_l0K {R : Type} (a2 : LL) (a3 a4 : LI) (rc : Nat → Nat → LB → LI → Option R) (fin : LB → Option R) (a0 a1 : Nat) (a7 : LB) (a8 : LI) : Option R := cond (decide ((((a8.drop a0).take a1).length : Int) > 0)) (cond
 (decide ((0 : Int) < (((a8.drop a0).take a1).length : Int))) (cond (decide ((1 : Int) ≤ (((a8.drop a0).take a1).length : Int)) && decide ((((a8.drop a0).take a1).length : Int) ≤ (((a8.drop a0).take a1).length : Int))) ((lat a2 (a8.getD
 (a0 + 0) 0)).bind fun e1 => (impl_residual_toSink_l1 e1 (e1.length : Int) a3 a4 (a0 + 1) ((((a8.drop a0).take a1).length : Int).toNat - 1) 0 a7 a8).bind fun y14 => rc y14.1 y14.2.1 y14.2.2.1 y14.2.2.2) none) none) (fin a7)
def impl_residual_toSink_l0 (a2 : LL) (a3 a4 : LI) (a0 a1 : Nat) (a7 : LB) (a8 : LI) : Option (LB) := lim (fun r (x : Nat × Nat × LB × LI) => impl_residual_toSink_l0K a2 a3 a4 (fun a0 a1 a7 a8 => r (a0, a1, a7, a8)) some x.1 x.2.1 x.2.2.1
 x.2.2.2) (a0, a1, a7, a8)
def L91a : Loop := mkM ⟨[0, 3, 5], [.slot 0, .cell 0 2, .cell 0 3, .cell 0 4, .slot 3, .slot 5], [0], [.win (.slot 5)]⟩ s91a x91a fun (x : d91a) => impl_residual_toSink_l0 x.2.1.1 x.2.1.2.1 x.2.2.1 x.1.2.2.1.1 x.1.2.2.1.2 x.2.2.2.2.2.1
 x.2.2.2.2.2.2.1
def impl_residual_toSinkK {R : Type} (fin : LB × Q21 → Option R) (x0 : Q21) : Option R := cond (decide ((0 : Int) ≤ (x0.1.length : Int)) && (decide ((x0.1.length : Int) ≤ (x0.1.length : Int)) && decide ((x0.1.length : Int) ≤
 1099511627776))) ((some ((List.replicate ((x0.1.length : Int).toNat) false : LB))).bind fun v1 => cond (decide ((0 : Int) ≤ i64.wrap ((x0.1.length : Int) - 1)) && decide (i64.wrap ((x0.1.length : Int) - 1) < (v1.length : Int))) ((some
 (v1.set (0 + (i64.wrap ((x0.1.length : Int) - 1)).toNat) true)).bind fun v2 => (impl_residual_toSink_l0 x0.1 x0.2.1 x0.2.2.1 0 ([i64.wrap ((x0.1.length : Int) - 1)].length) v2 [i64.wrap ((x0.1.length : Int) - 1)]).bind fun y31 => fin
 (y31, x0)) none) none
def impl_residual_toSink (x0 : Q21) : Option (LB × Q21) := impl_residual_toSinkK some x0
def or91 : Ora := { lo := addL 5 L91a (addL 9 L91b lo0), fin := [] }
theorem o91b : LOk EL91 or91 Tryz.f91 1 L91b := loop_rnd (fun (x : d91b) => (x.1.2.2.1.1, x.1.2.2.1.2, x.1.2.2.2.2.2.1, x.2.2.2.2.2.1, x.2.2.2.2.2.2.1)) (fun (i : d91b) v => (((), (), (v.1, v.2.1), i.1.2.2.2.1, i.1.2.2.2.2.1, v.2.2.1, ()),
 (i.2.1.1, i.2.1.2.1, (), (), (), ()), i.2.2.1, i.2.2.2.1, i.2.2.2.2.1, v.2.2.2.1, v.2.2.2.2, ())) (fun (i : d91b) _ rc fin v => impl_residual_toSink_l1K i.1.2.2.2.1 i.1.2.2.2.2.1 i.2.1.2.1 i.2.2.1 (fun a0 a1 a4 a10 a11 => rc (a0, a1, a4,
 a10, a11)) fin v.1 v.2.1 v.2.2.1 v.2.2.2.1 v.2.2.2.2) (fun _ => rfl) (fun _ => rfl) (fun i k v => by kernel_rfl) fun i _ rc _ _ hr v => by unfold impl_residual_toSink_l1K; repeat' (first | exact .of (hr _) | constructor | intro _)
theorem o91a : LOk EL91 or91 Tryz.f91 0 L91a := loop_rnd (fun (x : d91a) => (x.1.2.2.1.1, x.1.2.2.1.2, x.2.2.2.2.2.1, x.2.2.2.2.2.2.1)) (fun (i : d91a) v => (((), (), (v.1, v.2.1), ()), (i.2.1.1, i.2.1.2.1, (), (), (), ()), i.2.2.1,
 i.2.2.2.1, i.2.2.2.2.1, v.2.2.1, v.2.2.2, ())) (fun (i : d91a) _ rc fin v => impl_residual_toSink_l0K i.2.1.1 i.2.1.2.1 i.2.2.1 (fun a0 a1 a7 a8 => rc (a0, a1, a7, a8)) fin v.1 v.2.1 v.2.2.1 v.2.2.2) (fun _ => rfl) (fun _ => rfl) (fun i k
 v => by kernel_rfl) fun i _ rc _ _ hr v => by unfold impl_residual_toSink_l0K; repeat' (first | exact .of (hr _) | constructor | intro _)
def c91 : Callee := mkC [.box [kM, kL, .sl (.int .i64), .sl (.int .i64), .sl (.int .i64)]] 1 [.one (.sl .bool), .box [kM, kL, .sl (.int .i64), .sl (.int .i64), .sl (.int .i64)]] fun x => impl_residual_toSink x
theorem k91 : Cal Tryz.prog 91 c91 := cal_mk (or := or91) Tryz.func91 (by kernel_rfl) (by kernel_rfl) mixed (EnvOk.nil : EnvOk _ EL91) (LoOk.mk (by kernel_rfl) (all2 ⟨_, by kernel_rfl, o91a⟩ ⟨_, by kernel_rfl, o91b⟩)) (fun _ fin x =>
 impl_residual_toSinkK fin x) (fun _ => rfl) (fun x => by kernel_rfl) fun x _ _ => by unfold impl_residual_toSinkK; repeat' (first | constructor | intro _)
def EL90 : Nat → Option Callee := env0
abbrev d90a := (LB × U × Int × Int × U) × (LB × U)
def s90a : LS := ⟨[(0, .one (.dat (.slice .bool))), (3, oS 0), (9, oI), (10, oI)], [.sl .bool], []⟩
def x90a : List (XS d90a) := [⟨.exit 0, ⟨[3], [.slot 3], [], []⟩, ⟨[(3, oS 0)], [.sl .bool], []⟩, LB, fun i y => (((), ()), y, ())⟩]
def impl_outOf_l0K {R : Type} (a0 : LB) (a1 : Int) (rc : Int → LB → Option R) (fin : LB → Option R) (a2 : Int) (a3 : LB) : Option R := cond (decide (a2 < a1)) ((lat a0 a2).bind fun e1 => cond (decide ((0 : Int) ≤ a2) && decide (a2 <
 (a3.length : Int))) ((some (a3.set (0 + a2.toNat) (!e1))).bind fun v2 => rc (i64.wrap (a2 + 1)) v2) none) (fin a3)
def impl_outOf_l0 (a0 : LB) (a1 : Int) (a2 : Int) (a3 : LB) : Option (LB) := lim (fun r (x : Int × LB) => impl_outOf_l0K a0 a1 (fun a2 a3 => r (a2, a3)) some x.1 x.2) (a2, a3)
def L90a : Loop := mkM ⟨[0, 3, 9, 10], [.slot 3], [], []⟩ s90a x90a fun (x : d90a) => impl_outOf_l0 x.1.1 x.1.2.2.1 x.1.2.2.2.1 x.2.1
def impl_outOfK {R : Type} (fin : LB → Option R) (x0 : LB) : Option R := cond (decide ((0 : Int) ≤ (x0.length : Int)) && (decide ((x0.length : Int) ≤ (x0.length : Int)) && decide ((x0.length : Int) ≤ 1099511627776))) ((some
 ((List.replicate ((x0.length : Int).toNat) false : LB))).bind fun v1 => (impl_outOf_l0 x0 (x0.length : Int) 0 v1).bind fun y4 => fin y4) none
def impl_outOf (x0 : LB) : Option (LB) := impl_outOfK some x0
def or90 : Ora := { lo := addL 3 L90a lo0, fin := [] }
theorem o90a : LOk EL90 or90 Tryz.f90 0 L90a := loop_rnd (fun (x : d90a) => (x.1.2.2.2.1, x.2.1)) (fun (i : d90a) v => ((i.1.1, (), i.1.2.2.1, v.1, ()), v.2, ())) (fun (i : d90a) _ rc fin v => impl_outOf_l0K i.1.1 i.1.2.2.1 (fun a2 a3 =>
 rc (a2, a3)) fin v.1 v.2) (fun _ => rfl) (fun _ => rfl) (fun i k v => by kernel_rfl) fun i _ rc _ _ hr v => by unfold impl_outOf_l0K; repeat' (first | exact .of (hr _) | constructor | intro _)
def c90 : Callee := mkC [.one (.ro (.slice .bool))] 1 [.one (.sl .bool)] fun x => impl_outOf x
theorem k90 : Cal Tryz.prog 90 c90 := cal_mk (or := or90) Tryz.func90 (by kernel_rfl) (by kernel_rfl) mixed (EnvOk.nil : EnvOk _ EL90) (LoOk.mk (by kernel_rfl) (all1 ⟨_, by kernel_rfl, o90a⟩)) (fun _ fin x => impl_outOfK fin x) (fun _ =>
 rfl) (fun x => by kernel_rfl) fun x _ _ => by unfold impl_outOfK; repeat' (first | constructor | intro _)
def EL120046 : Nat → Option Callee := addE 90 c90 (addE 91 c91 (addE 89 c89 (addE 88 c88 (addE 87 c87 (addE 86 c86 env0)))))
abbrev d120046a := (LL × U × U × Bool × U × Int × Int × U) × (LI × U)
def s120046a : LS := ⟨[(0, oM), (2, oN), (3, oN), (4, oB), (11, oS 0), (23, oI), (24, oI)], [.sl (.int .i64)], []⟩
def x120046a : List (XS d120046a) := [⟨.exit 0, ⟨[0, 2, 4, 11], [.slot 11], [], []⟩, ⟨[(0, oM), (2, oN), (4, oB), (11, oS 0)], [.sl (.int .i64)], []⟩, U, fun i y => ((i.1.1, (), i.1.2.2.2.1, (), ()), i.2.1, ())⟩]
def impl_bestPit_N12_l0K {R : Type} (a2 : Int) (rc : Int → Option R) (fin : U → Option R) (a3 : Int) : Option R := cond (decide (a3 < a2)) (rc (i64.wrap (a3 + 1))) (fin ())
def impl_bestPit_N12_l0 (a2 : Int) (a3 : Int) : Option (U) := lim (fun r (x : Int) => impl_bestPit_N12_l0K a2 (fun a3 => r a3) some x) a3
theorem impl_bestPit_N12_l0_eq (a2 : Int) (a3 : Int) : impl_bestPit_N12_l0 a2 a3 = impl_bestPit_N12_l0K a2 (impl_bestPit_N12_l0 a2) some a3 := lim_eqI (fun x => by unfold impl_bestPit_N12_l0K; repeat' (first | constructor | intro _)) _
def L120046a : Loop := mkM ⟨[0, 2, 3, 4, 11, 23, 24], [.slot 11], [], []⟩ s120046a x120046a fun (x : d120046a) => impl_bestPit_N12_l0 x.1.2.2.2.2.2.1 x.1.2.2.2.2.2.2.1
abbrev d120046b := (U × (Nat × Nat) × Int × Int × U) × (LB × U)
def s120046b : LS := ⟨[(2, oN), (17, .one (.win 0)), (72, oI), (73, oI)], [.sl .bool], []⟩
def x120046b : List (XS d120046b) := [⟨.exit 2, ⟨[17], [.slot 17], [], []⟩, ⟨[(17, .one (.win 0))], [.sl .bool], []⟩, LB, fun i y => (((i.1.2.1.1, i.1.2.1.2), ()), y, ())⟩]
def impl_bestPit_N12_l1K {R : Type} (a0 a1 : Nat) (a2 : Int) (rc : Int → LB → Option R) (fin : LB → Option R) (a3 : Int) (a4 : LB) : Option R := cond (decide (a3 < a2)) (cond (decide ((0 : Int) ≤ a3) && decide (a3 < (((a4.drop a0).take
 a1).length : Int))) (cond (a4.getD (a0 + a3.toNat) false) (cond (decide ((0 : Int) ≤ a3) && decide (a3 < (((a4.drop a0).take a1).length : Int))) ((some (a4.set (a0 + a3.toNat) true)).bind fun v1 => rc (i64.wrap (a3 + 1)) v1) none) (cond
 (decide ((0 : Int) ≤ a3) && decide (a3 < (((a4.drop a0).take a1).length : Int))) ((some (a4.set (a0 + a3.toNat) false)).bind fun v2 => rc (i64.wrap (a3 + 1)) v2) none)) none) (fin a4)
def impl_bestPit_N12_l1 (a0 a1 : Nat) (a2 : Int) (a3 : Int) (a4 : LB) : Option (LB) := lim (fun r (x : Int × LB) => impl_bestPit_N12_l1K a0 a1 a2 (fun a3 a4 => r (a3, a4)) some x.1 x.2) (a3, a4)
theorem impl_bestPit_N12_l1_eq (a0 a1 : Nat) (a2 : Int) (a3 : Int) (a4 : LB) : impl_bestPit_N12_l1 a0 a1 a2 a3 a4 = impl_bestPit_N12_l1K a0 a1 a2 (impl_bestPit_N12_l1 a0 a1 a2) some a3 a4 := lim_eqI (fun x =>
 by unfold impl_bestPit_N12_l1K; repeat' (first | constructor | intro _)) _
def L120046b : Loop := mkM ⟨[2, 17, 72, 73], [.slot 17], [], []⟩ s120046b x120046b fun (x : d120046b) => impl_bestPit_N12_l1 x.1.2.1.1 x.1.2.1.2 x.1.2.2.1 x.1.2.2.2.1 x.2.1
def impl_bestPit_N12K {R : Type} (fin : LB → Option R) (x0 : LL) (x1 : LI) (x2 x3 : U) (x4 : Bool) : Option R := cond (decide (([] : LI).length + x1.length ≤ 1099511627776)) ((impl_bestPit_N12_l0 ((([] : LI) ++ x1).length : Int) 0).bind
 fun y1 => (impl_pitNetwork x0 (([] : LI) ++ x1)).bind fun y2 => (impl_newResidual y2.1 y2.2).bind fun y3 => (impl_residual_run y3).bind fun y4 => (impl_residual_fromSource y4.2).bind fun y5 => cond (x4) ((impl_residual_toSink y5.2).bind
 fun y6 => (impl_outOf y6.1).bind fun y7 => cond (decide ((1 : Int) ≤ i64.wrap (y2.1 - 1)) && decide (i64.wrap (y2.1 - 1) ≤ (y7.length : Int))) ((impl_bestPit_N12_l1 (0 + 1) ((i64.wrap (y2.1 - 1)).toNat - 1) (((y7.drop (0 + 1)).take
 ((i64.wrap (y2.1 - 1)).toNat - 1)).length : Int) 0 y7).bind fun y10 => fin ((y10.drop (0 + 1)).take ((i64.wrap (y2.1 - 1)).toNat - 1))) none) (cond (decide ((1 : Int) ≤ i64.wrap (y2.1 - 1)) && decide (i64.wrap (y2.1 - 1) ≤ (y5.1.length :
 Int))) ((impl_bestPit_N12_l1 (0 + 1) ((i64.wrap (y2.1 - 1)).toNat - 1) (((y5.1.drop (0 + 1)).take ((i64.wrap (y2.1 - 1)).toNat - 1)).length : Int) 0 y5.1).bind fun y11 => fin ((y11.drop (0 + 1)).take ((i64.wrap (y2.1 - 1)).toNat - 1)))
 none)) none
def impl_bestPit_N12 (x0 : LL) (x1 : LI) (x2 x3 : U) (x4 : Bool) : Option (LB) := impl_bestPit_N12K some x0 x1 x2 x3 x4
def or120046 : Ora := { lo := addL 18 L120046b (addL 3 L120046a lo0), fin := [], fz := fun i => cond (decide (i = 12)) [.frz (.cell 15 0), .frz (.cell 15 1)] <| [] }
theorem o120046a : LOk EL120046 or120046 Tryz.f46 0 L120046a := loop_rnd (fun (x : d120046a) => x.1.2.2.2.2.2.2.1) (fun (i : d120046a) v => ((i.1.1, (), (), i.1.2.2.2.1, (), i.1.2.2.2.2.2.1, v, ()), i.2.1, ())) (fun (i : d120046a) _ rc fin
 v => impl_bestPit_N12_l0K i.1.2.2.2.2.2.1 (fun a3 => rc a3) fin v) (fun _ => rfl) (fun _ => rfl) (fun i k v => by kernel_rfl) fun i _ rc _ _ hr v => by unfold impl_bestPit_N12_l0K; repeat' (first | exact .of (hr _) | constructor | intro _)
theorem o120046b : LOk EL120046 or120046 Tryz.f46 1 L120046b := loop_rnd (fun (x : d120046b) => (x.1.2.2.2.1, x.2.1)) (fun (i : d120046b) v => (((), (i.1.2.1.1, i.1.2.1.2), i.1.2.2.1, v.1, ()), v.2, ())) (fun (i : d120046b) _ rc fin v =>
 impl_bestPit_N12_l1K i.1.2.1.1 i.1.2.1.2 i.1.2.2.1 (fun a3 a4 => rc (a3, a4)) fin v.1 v.2) (fun _ => rfl) (fun _ => rfl) (fun i k v => by kernel_rfl) fun i _ rc _ _ hr v =>
 by unfold impl_bestPit_N12_l1K; repeat' (first | exact .of (hr _) | constructor | intro _)
def c120046 : Callee := mkC [rM, rL, .nil, .nil, rB] 1 [.one (.sl .bool)] fun x => impl_bestPit_N12 x.1 x.2.1 x.2.2.1 x.2.2.2.1 x.2.2.2.2
theorem k120046 : Cal Tryz.prog 46 c120046 := cal_mk (or := or120046) Tryz.func46 (by kernel_rfl) (by kernel_rfl) mixed (EnvOk.nil |>.a k86 |>.a k87 |>.a k88 |>.a k89 |>.a k91 |>.a k90 : EnvOk _ EL120046) (LoOk.mk (by kernel_rfl) (all2 ⟨_,
 by kernel_rfl, o120046a⟩ ⟨_, by kernel_rfl, o120046b⟩)) (fun _ fin x => impl_bestPit_N12K fin x.1 x.2.1 x.2.2.1 x.2.2.2.1 x.2.2.2.2) (fun _ => rfl) (fun x => by kernel_rfl) fun x _ _ =>
 by unfold impl_bestPit_N12K; repeat' (first | constructor | intro _)
def EL45 : Nat → Option Callee := env0
abbrev d45a := (U × LB × Int × Int × U) × (LI × U)
def s45a : LS := ⟨[(3, oS 0), (7, .one (.dat (.slice .bool))), (8, oI), (9, oI)], [.sl (.int .i64)], []⟩
def x45a : List (XS d45a) := [⟨.exit 0, ⟨[3], [.slot 3], [], []⟩, ⟨[(3, oS 0)], [.sl (.int .i64)], []⟩, LI, fun i y => (((), ()), y, ())⟩]
def impl_listOf_l0K {R : Type} (a0 : LB) (a1 : Int) (rc : Int → LI → Option R) (fin : LI → Option R) (a2 : Int) (a3 : LI) : Option R := cond (decide (a2 < a1)) ((lat a0 a2).bind fun e1 => cond (e1) (cond (decide (a3.length + [a2].length ≤
 1099511627776)) (rc (i64.wrap (a2 + 1)) (a3 ++ [a2])) none) (rc (i64.wrap (a2 + 1)) a3)) (fin a3)
def impl_listOf_l0 (a0 : LB) (a1 : Int) (a2 : Int) (a3 : LI) : Option (LI) := lim (fun r (x : Q34) => impl_listOf_l0K a0 a1 (fun a2 a3 => r (a2, a3)) some x.1 x.2) (a2, a3)
theorem impl_listOf_l0_eq (a0 : LB) (a1 : Int) (a2 : Int) (a3 : LI) : impl_listOf_l0 a0 a1 a2 a3 = impl_listOf_l0K a0 a1 (impl_listOf_l0 a0 a1) some a2 a3 := lim_eqI (fun x =>
 by unfold impl_listOf_l0K; repeat' (first | constructor | intro _)) _
def L45a : Loop := mkM ⟨[3, 7, 8, 9], [.slot 3], [], []⟩ s45a x45a fun (x : d45a) => impl_listOf_l0 x.1.2.1 x.1.2.2.1 x.1.2.2.2.1 x.2.1
def impl_listOfK {R : Type} (fin : LI → Option R) (x0 : LB) : Option R := (impl_listOf_l0 x0 (x0.length : Int) 0 []).bind fun y2 => fin y2
def impl_listOf (x0 : LB) : Option (LI) := impl_listOfK some x0
def or45 : Ora := { lo := addL 3 L45a lo0, fin := [] }
theorem o45a : LOk EL45 or45 Tryz.f45 0 L45a := loop_rnd (fun (x : d45a) => (x.1.2.2.2.1, x.2.1)) (fun (i : d45a) v => (((), i.1.2.1, i.1.2.2.1, v.1, ()), v.2, ())) (fun (i : d45a) _ rc fin v => impl_listOf_l0K i.1.2.1 i.1.2.2.1 (fun a2 a3
 => rc (a2, a3)) fin v.1 v.2) (fun _ => rfl) (fun _ => rfl) (fun i k v => by kernel_rfl) fun i _ rc _ _ hr v => by unfold impl_listOf_l0K; repeat' (first | exact .of (hr _) | constructor | intro _)
def c45 : Callee := mkC [.one (.ro (.slice .bool))] 1 [.one (.sl (.int .i64))] fun x => impl_listOf x
theorem k45 : Cal Tryz.prog 45 c45 := cal_mk (or := or45) Tryz.func45 (by kernel_rfl) (by kernel_rfl) mixed (EnvOk.nil : EnvOk _ EL45) (LoOk.mk (by kernel_rfl) (all1 ⟨_, by kernel_rfl, o45a⟩)) (fun _ fin x => impl_listOfK fin x) (fun _ =>
 rfl) (fun x => by kernel_rfl) fun x _ _ => by unfold impl_listOfK; repeat' (first | constructor | intro _)
def EL15 : Nat → Option Callee := addE 45 c45 (addE 46 c120046 (addE 44 c44 env0))
def impl_BestPitK {R : Type} (fin : LI × Bool → Option R) (x0 : LL) (x1 : LI) : Option R := (impl_areValued x0 x1).bind fun y1 => cond (!y1) (fin ([], false)) ((impl_bestPit_N12 x0 x1 () () false).bind fun y2 => (impl_listOf y2).bind fun
 y3 => fin (y3, true))
def impl_BestPit (x0 : LL) (x1 : LI) : Option (LI × Bool) := impl_BestPitK some x0 x1
def or15 : Ora := { lo := lo0, fin := [.own (.slot 4) (.int .i64)] }
def c15 : Callee := mkC [rM, rL] 2 [.one (.sl (.int .i64)), rB] fun x => impl_BestPit x.1 x.2
theorem k15 : Cal Tryz.prog 15 c15 := cal_mk (or := or15) Tryz.func15 (by kernel_rfl) (by kernel_rfl) mixed (EnvOk.nil |>.a k44 |>.a k120046 |>.a k45 : EnvOk _ EL15) (LoOk.nil (by kernel_rfl)) (fun _ fin x => impl_BestPitK fin x.1 x.2)
 (fun _ => rfl) (fun x => by kernel_rfl) fun x _ _ => by unfold impl_BestPitK; repeat' (first | constructor | intro _)
def EL93 : Nat → Option Callee := addE 72 c72 (addE 40 c40 env0)
def spec_vaGoodK {R : Type} (fin : Bool → Option R) (x0 : LI) (x1 : Int) : Option R := cond ((x0.length : Int) == x1) ((spec_l1In x1 1 120).bind fun y1 => cond (y1) ((spec_l1All x0 (-1000000) 1000000).bind fun y2 => fin y2) (fin false))
 (fin false)
def spec_vaGood (x0 : LI) (x1 : Int) : Option (Bool) := spec_vaGoodK some x0 x1
def c93 : Callee := mkC [rL, rI] 1 [rB] fun x => spec_vaGood x.1 x.2
theorem k93 : Cal Tryz.prog 93 c93 := cal_mk (or := or0) Tryz.func93 (by kernel_rfl) (by kernel_rfl) mixed (EnvOk.nil |>.a k40 |>.a k72 : EnvOk _ EL93) (LoOk.nil (by kernel_rfl)) (fun _ fin x => spec_vaGoodK fin x.1 x.2) (fun _ => rfl)
 (fun x => by kernel_rfl) fun x _ _ => by unfold spec_vaGoodK; repeat' (first | constructor | intro _)
def EL47 : Nat → Option Callee := addE 93 c93 (addE 92 c92 env0)
def spec_paGoodK {R : Type} (fin : Bool → Option R) (x0 : LL) (x1 : LI) : Option R := (spec_clArcs x0).bind fun y1 => cond (y1) ((spec_vaGood x1 (x0.length : Int)).bind fun y2 => fin y2) (fin false)
def spec_paGood (x0 : LL) (x1 : LI) : Option (Bool) := spec_paGoodK some x0 x1
def c47 : Callee := mkC [rM, rL] 1 [rB] fun x => spec_paGood x.1 x.2
theorem k47 : Cal Tryz.prog 47 c47 := cal_mk (or := or0) Tryz.func47 (by kernel_rfl) (by kernel_rfl) mixed (EnvOk.nil |>.a k92 |>.a k93 : EnvOk _ EL47) (LoOk.nil (by kernel_rfl)) (fun _ fin x => spec_paGoodK fin x.1 x.2) (fun _ => rfl)
 (fun x => by kernel_rfl) fun x _ _ => by unfold spec_paGoodK; repeat' (first | constructor | intro _)
def EL96 : Nat → Option Callee := env0
abbrev d96b := (LL × LI × U × Int × LL × Int × Int × LI × Int × Int × U) × ((List DGrid) × U)
def s96b : LS := ⟨[(0, oM), (1, oL), (5, oS 0), (6, oI), (11, oM), (12, oI), (13, oI), (46, oL), (47, oI), (48, oI)], [.sl TGrid], []⟩
def x96b : List (XS d96b) := [⟨.exit 3, ⟨[0, 1, 5, 11, 12, 13], [.slot 5], [], []⟩, ⟨[(0, oM), (1, oL), (5, oS 0), (11, oM), (12, oI), (13, oI)], [.sl TGrid], []⟩, List DGrid, fun i y => ((i.1.1, i.1.2.1, (), i.1.2.2.2.2.1,
 i.1.2.2.2.2.2.1, i.1.2.2.2.2.2.2.1, ()), y, ())⟩]
def spec_paEdges_l1K {R : Type} (a2 : Int) (a6 : LI) (a7 : Int) (rc : Int → List DGrid → Option R) (fin : List DGrid → Option R) (a8 : Int) (a9 : List DGrid) : Option R := cond (decide (a8 < a7)) ((lat a6 a8).bind fun e1 => cond (decide
 (a9.length + [(i64.wrap (a2 + 1), i64.wrap (e1 + 1), 1000000000, ())].length ≤ 1099511627776)) ((some (a9 ++ [(i64.wrap (a2 + 1), i64.wrap (e1 + 1), 1000000000, ())])).bind fun v2 => rc (i64.wrap (a8 + 1)) v2) none) (fin a9)
def spec_paEdges_l1 (a2 : Int) (a6 : LI) (a7 : Int) (a8 : Int) (a9 : List DGrid) : Option (List DGrid) := lim (fun r (x : Int × (List DGrid)) => spec_paEdges_l1K a2 a6 a7 (fun a8 a9 => r (a8, a9)) some x.1 x.2) (a8, a9)
theorem spec_paEdges_l1_eq (a2 : Int) (a6 : LI) (a7 : Int) (a8 : Int) (a9 : List DGrid) : spec_paEdges_l1 a2 a6 a7 a8 a9 = spec_paEdges_l1K a2 a6 a7 (spec_paEdges_l1 a2 a6 a7) some a8 a9 := lim_eqI (fun x =>
 by unfold spec_paEdges_l1K; repeat' (first | constructor | intro _)) _
def L96b : Loop := mkM ⟨[0, 1, 5, 6, 11, 12, 13, 46, 47, 48], [.slot 5], [], [.own (.slot 5) TGrid]⟩ s96b x96b fun (x : d96b) => spec_paEdges_l1 x.1.2.2.2.1 x.1.2.2.2.2.2.2.2.1 x.1.2.2.2.2.2.2.2.2.1 x.1.2.2.2.2.2.2.2.2.2.1 x.2.1
abbrev d96a := (LL × LI × U × LL × Int × Int × U) × ((List DGrid) × U)
def s96a : LS := ⟨[(0, oM), (1, oL), (5, oS 0), (11, oM), (12, oI), (13, oI)], [.sl TGrid], []⟩
def x96a : List (XS d96a) := [⟨.exit 0, ⟨[5], [.slot 5], [], []⟩, ⟨[(5, oS 0)], [.sl TGrid], []⟩, List DGrid, fun i y => (((), ()), y, ())⟩]
def spec_paEdges_l0K {R : Type} (a0 : LL) (a1 : LI) (a2 : LL) (a3 : Int) (rc : Int → List DGrid → Option R) (fin : List DGrid → Option R) (a4 : Int) (a5 : List DGrid) : Option R := cond (decide (a4 < a3)) ((lat a2 a4).bind fun e1 => (lat
 a1 a4).bind fun e2 => cond (decide (e2 > 0)) (cond (decide (a5.length + [(0, i64.wrap (a4 + 1), e2, ())].length ≤ 1099511627776)) ((some (a5 ++ [(0, i64.wrap (a4 + 1), e2, ())])).bind fun v3 => (spec_paEdges_l1 a4 e1 (e1.length : Int) 0
 v3).bind fun y6 => rc (i64.wrap (a4 + 1)) y6) none) (cond (decide (e2 < 0)) (cond (decide (a5.length + [(i64.wrap (a4 + 1), i64.wrap ((a0.length : Int) + 1), i64.wrap (0 - e2), ())].length ≤ 1099511627776)) ((some (a5 ++ [(i64.wrap (a4 +
 1), i64.wrap ((a0.length : Int) + 1), i64.wrap (0 - e2), ())])).bind fun v7 => (spec_paEdges_l1 a4 e1 (e1.length : Int) 0 v7).bind fun y8 => rc (i64.wrap (a4 + 1)) y8) none) ((spec_paEdges_l1 a4 e1 (e1.length : Int) 0 a5).bind fun y9 =>
 rc (i64.wrap (a4 + 1)) y9))) (fin a5)
def spec_paEdges_l0 (a0 : LL) (a1 : LI) (a2 : LL) (a3 : Int) (a4 : Int) (a5 : List DGrid) : Option (List DGrid) := lim (fun r (x : Int × (List DGrid)) => spec_paEdges_l0K a0 a1 a2 a3 (fun a4 a5 => r (a4, a5)) some x.1 x.2) (a4, a5)
theorem spec_paEdges_l0_eq (a0 : LL) (a1 : LI) (a2 : LL) (a3 : Int) (a4 : Int) (a5 : List DGrid) : spec_paEdges_l0 a0 a1 a2 a3 a4 a5 = spec_paEdges_l0K a0 a1 a2 a3 (spec_paEdges_l0 a0 a1 a2 a3) some a4 a5 := lim_eqI (fun x =>
 by unfold spec_paEdges_l0K; repeat' (first | constructor | intro _)) _
def L96a : Loop := mkM ⟨[0, 1, 5, 11, 12, 13], [.slot 5], [], [.own (.slot 5) TGrid]⟩ s96a x96a fun (x : d96a) => spec_paEdges_l0 x.1.1 x.1.2.1 x.1.2.2.2.1 x.1.2.2.2.2.1 x.1.2.2.2.2.2.1 x.2.1
def spec_paEdgesK {R : Type} (fin : List DGrid → Option R) (x0 : LL) (x1 : LI) : Option R := (spec_paEdges_l0 x0 x1 x0 (x0.length : Int) 0 []).bind fun y19 => fin y19
def spec_paEdges (x0 : LL) (x1 : LI) : Option (List DGrid) := spec_paEdgesK some x0 x1
def or96 : Ora := { lo := addL 3 L96a (addL 11 L96b lo0), fin := [] }
theorem o96b : LOk EL96 or96 Tryz.f96 1 L96b := loop_rnd (fun (x : d96b) => (x.1.2.2.2.2.2.2.2.2.2.1, x.2.1)) (fun (i : d96b) v => ((i.1.1, i.1.2.1, (), i.1.2.2.2.1, i.1.2.2.2.2.1, i.1.2.2.2.2.2.1, i.1.2.2.2.2.2.2.1, i.1.2.2.2.2.2.2.2.1,
 i.1.2.2.2.2.2.2.2.2.1, v.1, ()), v.2, ())) (fun (i : d96b) _ rc fin v => spec_paEdges_l1K i.1.2.2.2.1 i.1.2.2.2.2.2.2.2.1 i.1.2.2.2.2.2.2.2.2.1 (fun a8 a9 => rc (a8, a9)) fin v.1 v.2) (fun _ => rfl) (fun _ => rfl) (fun i k v =>
 by kernel_rfl) fun i _ rc _ _ hr v => by unfold spec_paEdges_l1K; repeat' (first | exact .of (hr _) | constructor | intro _)
theorem o96a : LOk EL96 or96 Tryz.f96 0 L96a := loop_rnd (fun (x : d96a) => (x.1.2.2.2.2.2.1, x.2.1)) (fun (i : d96a) v => ((i.1.1, i.1.2.1, (), i.1.2.2.2.1, i.1.2.2.2.2.1, v.1, ()), v.2, ())) (fun (i : d96a) _ rc fin v => spec_paEdges_l0K
 i.1.1 i.1.2.1 i.1.2.2.2.1 i.1.2.2.2.2.1 (fun a4 a5 => rc (a4, a5)) fin v.1 v.2) (fun _ => rfl) (fun _ => rfl) (fun i k v => by kernel_rfl) fun i _ rc _ _ hr v =>
 by unfold spec_paEdges_l0K; repeat' (first | exact .of (hr _) | constructor | intro _)
def c96 : Callee := mkC [rM, rL] 1 [.one (.sl TGrid)] fun x => spec_paEdges x.1 x.2
theorem k96 : Cal Tryz.prog 96 c96 := cal_mk (or := or96) Tryz.func96 (by kernel_rfl) (by kernel_rfl) mixed (EnvOk.nil : EnvOk _ EL96) (LoOk.mk (by kernel_rfl) (all2 ⟨_, by kernel_rfl, o96a⟩ ⟨_, by kernel_rfl, o96b⟩)) (fun _ fin x =>
 spec_paEdgesK fin x.1 x.2) (fun _ => rfl) (fun x => by kernel_rfl) fun x _ _ => by unfold spec_paEdgesK; repeat' (first | constructor | intro _)
def EL94 : Nat → Option Callee := env0
abbrev d94a := Q20 × (LI × U)
def s94a : LS := ⟨[(3, oS 0), (7, oL), (8, oI), (9, oI)], [.sl (.int .i64)], []⟩
def x94a : List (XS d94a) := [⟨.exit 0, ⟨[3], [.slot 3], [], []⟩, ⟨[(3, oS 0)], [.sl (.int .i64)], []⟩, LI, fun i y => (((), ()), y, ())⟩]
def spec_paOf_l0K {R : Type} (a0 : LI) (a1 : Int) (rc : Int → LI → Option R) (fin : LI → Option R) (a2 : Int) (a3 : LI) : Option R := cond (decide (a2 < a1)) ((lat a0 a2).bind fun e1 => cond (decide (a3.length + [i64.wrap (e1 - 1)].length
 ≤ 1099511627776)) ((some (a3 ++ [i64.wrap (e1 - 1)])).bind fun v2 => rc (i64.wrap (a2 + 1)) v2) none) (fin a3)
def spec_paOf_l0 (a0 : LI) (a1 : Int) (a2 : Int) (a3 : LI) : Option (LI) := lim (fun r (x : Q34) => spec_paOf_l0K a0 a1 (fun a2 a3 => r (a2, a3)) some x.1 x.2) (a2, a3)
theorem spec_paOf_l0_eq (a0 : LI) (a1 : Int) (a2 : Int) (a3 : LI) : spec_paOf_l0 a0 a1 a2 a3 = spec_paOf_l0K a0 a1 (spec_paOf_l0 a0 a1) some a2 a3 := lim_eqI (fun x => by unfold spec_paOf_l0K; repeat' (first | constructor | intro _)) _
def L94a : Loop := mkM ⟨[3, 7, 8, 9], [.slot 3], [], [.own (.slot 3) (.int .i64)]⟩ s94a x94a fun (x : d94a) => spec_paOf_l0 x.1.2.1 x.1.2.2.1 x.1.2.2.2.1 x.2.1
def spec_paOfK {R : Type} (fin : LI → Option R) (x0 : LI) : Option R := cond (decide ((1 : Int) ≤ (x0.length : Int)) && decide ((x0.length : Int) ≤ (x0.length : Int))) ((spec_paOf_l0 ((x0.drop 1).take ((x0.length : Int).toNat - 1))
 (((x0.drop 1).take ((x0.length : Int).toNat - 1)).length : Int) 0 []).bind fun y5 => fin y5) none
def spec_paOf (x0 : LI) : Option (LI) := spec_paOfK some x0
def or94 : Ora := { lo := addL 3 L94a lo0, fin := [] }
theorem o94a : LOk EL94 or94 Tryz.f94 0 L94a := loop_rnd (fun (x : d94a) => (x.1.2.2.2.1, x.2.1)) (fun (i : d94a) v => (((), i.1.2.1, i.1.2.2.1, v.1, ()), v.2, ())) (fun (i : d94a) _ rc fin v => spec_paOf_l0K i.1.2.1 i.1.2.2.1 (fun a2 a3
 => rc (a2, a3)) fin v.1 v.2) (fun _ => rfl) (fun _ => rfl) (fun i k v => by kernel_rfl) fun i _ rc _ _ hr v => by unfold spec_paOf_l0K; repeat' (first | exact .of (hr _) | constructor | intro _)
def c94 : Callee := mkC [rL] 1 [.one (.sl (.int .i64))] fun x => spec_paOf x
theorem k94 : Cal Tryz.prog 94 c94 := cal_mk (or := or94) Tryz.func94 (by kernel_rfl) (by kernel_rfl) mixed (EnvOk.nil : EnvOk _ EL94) (LoOk.mk (by kernel_rfl) (all1 ⟨_, by kernel_rfl, o94a⟩)) (fun _ fin x => spec_paOfK fin x) (fun _ =>
 rfl) (fun x => by kernel_rfl) fun x _ _ => by unfold spec_paOfK; repeat' (first | constructor | intro _)
def EL48 : Nat → Option Callee := addE 94 c94 (addE 95 c95 (addE 96 c96 env0))
def spec_paFindK {R : Type} (fin : LI → Option R) (x0 : LL) (x1 : LI) : Option R := (spec_paEdges x0 x1).bind fun y1 => (spec_mfLeast (i64.wrap ((x0.length : Int) + 2)) y1).bind fun y2 => (spec_paOf y2).bind fun y3 => fin y3
def spec_paFind (x0 : LL) (x1 : LI) : Option (LI) := spec_paFindK some x0 x1
def c48 : Callee := mkC [rM, rL] 1 [.one (.sl (.int .i64))] fun x => spec_paFind x.1 x.2
theorem k48 : Cal Tryz.prog 48 c48 := cal_mk (or := or0) Tryz.func48 (by kernel_rfl) (by kernel_rfl) mixed (EnvOk.nil |>.a k96 |>.a k95 |>.a k94 : EnvOk _ EL48) (LoOk.nil (by kernel_rfl)) (fun _ fin x => spec_paFindK fin x.1 x.2) (fun _ =>
 rfl) (fun x => by kernel_rfl) fun x _ _ => by unfold spec_paFindK; repeat' (first | constructor | intro _)
def EL16 : Nat → Option Callee := addE 48 c48 (addE 47 c47 env0)
def spec_BestPitK {R : Type} (fin : LI × Bool → Option R) (x0 : LL) (x1 : LI) : Option R := (spec_paGood x0 x1).bind fun y1 => cond (!y1) (fin ([], false)) ((spec_paFind x0 x1).bind fun y2 => fin (y2, true))
def spec_BestPit (x0 : LL) (x1 : LI) : Option (LI × Bool) := spec_BestPitK some x0 x1
def or16 : Ora := { lo := lo0, fin := [.own (.slot 4) (.int .i64)] }
def c16 : Callee := mkC [rM, rL] 2 [.one (.sl (.int .i64)), rB] fun x => spec_BestPit x.1 x.2
theorem k16 : Cal Tryz.prog 16 c16 := cal_mk (or := or16) Tryz.func16 (by kernel_rfl) (by kernel_rfl) mixed (EnvOk.nil |>.a k47 |>.a k48 : EnvOk _ EL16) (LoOk.nil (by kernel_rfl)) (fun _ fin x => spec_BestPitK fin x.1 x.2) (fun _ => rfl)
 (fun x => by kernel_rfl) fun x _ _ => by unfold spec_BestPitK; repeat' (first | constructor | intro _)
end
end Go.OAI
