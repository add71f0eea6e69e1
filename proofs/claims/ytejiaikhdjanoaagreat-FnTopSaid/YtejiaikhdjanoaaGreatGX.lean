/- Contracts: GX. -/
import Derived.Test.YtejiaikhdjanoaaGreatGA
import Derived.Test.YtejiaikhdjanoaaGreatGD
namespace Go.OAI
open Go.Proofs
open Go.IntKind (i64 u64 u8)
set_option linter.unusedVariables false
noncomputable section
def EL55 : Nat → Option Callee := addE 62 c62 env0
def impl_IsSearchableK {R : Type} (fin : Bool → Option R) (x0 : DJob) : Option R := (impl_IsJob x0).bind fun y1 => cond (y1) (cond (decide ((x0.1.length : Int) ≤ 12)) (fin (decide (x0.2.2.2.2.1 ≤ 3))) (fin false)) (fin false)
def impl_IsSearchable (x0 : DJob) : Option (Bool) := impl_IsSearchableK some x0
def c55 : Callee := mkC [.agg [.ro TJob]] 1 [rB] fun x => impl_IsSearchable x
theorem k55 : Cal Tryz.prog 55 c55 := cal_mk (or := or0) Tryz.func55 (by kernel_rfl) (by kernel_rfl) mixed (EnvOk.nil |>.a k62 : EnvOk _ EL55) (LoOk.nil (by kernel_rfl)) (fun _ fin x => impl_IsSearchableK fin x) (fun _ => rfl) (fun x =>
 by kernel_rfl) fun x _ _ => by unfold impl_IsSearchableK; repeat' (first | constructor | intro _)
def EL99 : Nat → Option Callee := env0
abbrev d99a := Q23 × ((Int × U × U) × (Int × U × U) × LI × U)
def s99a : LS := ⟨[(2, oP 0 0), (3, oP 1 0), (14, oI), (15, oI)], [.box [dI, .fix .nils], .box [dI, .fix (.sref 2)], .sl (.int .i64)], []⟩
def x99a : List (XS d99a) := [⟨.exit 0, ⟨[2, 3], [.slot 2, .slot 3, .cell 3 1], [], []⟩, ⟨[(2, oP 0 0), (3, oP 1 0)], [.box [dI, .fix .nils], .box [dI, .fix (.sref 2)], .sl (.int .i64)], []⟩, LI, fun i y => (((), (), ()), (i.2.1.1, (),
 ()), (i.2.2.1.1, (), ()), y, ())⟩]
def impl_emptyPlan_l0K {R : Type} (a0 : Int) (rc : Int → LI → Option R) (fin : LI → Option R) (a1 : Int) (a4 : LI) : Option R := cond (decide (a1 < a0)) (cond (decide ((0 : Int) ≤ a1) && decide (a1 < (a4.length : Int))) ((some (a4.set (0 +
 a1.toNat) (-1))).bind fun v1 => rc (i64.wrap (a1 + 1)) v1) none) (fin a4)
def impl_emptyPlan_l0 (a0 : Int) (a1 : Int) (a4 : LI) : Option (LI) := lim (fun r (x : Q34) => impl_emptyPlan_l0K a0 (fun a1 a4 => r (a1, a4)) some x.1 x.2) (a1, a4)
theorem impl_emptyPlan_l0_eq (a0 : Int) (a1 : Int) (a4 : LI) : impl_emptyPlan_l0 a0 a1 a4 = impl_emptyPlan_l0K a0 (impl_emptyPlan_l0 a0) some a1 a4 := lim_eqI (fun x => by unfold impl_emptyPlan_l0K; repeat' (first | constructor | intro _))
 _
def L99a : Loop := mkM ⟨[2, 3, 14, 15], [.slot 2, .slot 3, .cell 3 1], [], []⟩ s99a x99a fun (x : d99a) => impl_emptyPlan_l0 x.1.2.2.1 x.1.2.2.2.1 x.2.2.2.1
def impl_emptyPlanK {R : Type} (fin : Int × LI → Option R) (x0 : DJob) : Option R := cond (decide ((0 : Int) ≤ (x0.1.length : Int)) && (decide ((x0.1.length : Int) ≤ (x0.1.length : Int)) && decide ((x0.1.length : Int) ≤ 1099511627776)))
 ((some ((List.replicate ((x0.1.length : Int).toNat) 0 : LI))).bind fun v1 => (impl_emptyPlan_l0 (v1.length : Int) 0 v1).bind fun y3 => fin (x0.2.2.2.2.1, y3)) none
def impl_emptyPlan (x0 : DJob) : Option Q34 := impl_emptyPlanK some x0
def or99 : Ora := { lo := addL 3 L99a lo0, fin := [] }
theorem o99a : LOk EL99 or99 Tryz.f99 0 L99a := loop_rnd (fun (x : d99a) => (x.1.2.2.2.1, x.2.2.2.1)) (fun (i : d99a) v => (((), (), i.1.2.2.1, v.1, ()), (i.2.1.1, (), ()), (i.2.2.1.1, (), ()), v.2, ())) (fun (i : d99a) _ rc fin v =>
 impl_emptyPlan_l0K i.1.2.2.1 (fun a1 a4 => rc (a1, a4)) fin v.1 v.2) (fun _ => rfl) (fun _ => rfl) (fun i k v => by kernel_rfl) fun i _ rc _ _ hr v => by unfold impl_emptyPlan_l0K; repeat' (first | exact .of (hr _) | constructor | intro _)
def c99 : Callee := mkC [.agg [.ro TJob]] 1 [.agg [kI, .sl (.int .i64)]] fun x => impl_emptyPlan x
theorem k99 : Cal Tryz.prog 99 c99 := cal_mk (or := or99) Tryz.func99 (by kernel_rfl) (by kernel_rfl) mixed (EnvOk.nil : EnvOk _ EL99) (LoOk.mk (by kernel_rfl) (all1 ⟨_, by kernel_rfl, o99a⟩)) (fun _ fin x => impl_emptyPlanK fin x) (fun _
 => rfl) (fun x => by kernel_rfl) fun x _ _ => by unfold impl_emptyPlanK; repeat' (first | constructor | intro _)
def EL64 : Nat → Option Callee := env0
abbrev d64a := Q15 × (Q7 × (Int × LI × U) × LL × U)
def s64a : LS := ⟨[(2, oP 0 0), (3, oP 1 0), (5, oS 2), (13, oI), (14, oI)], [.box [dM, dL, dL, dI, dI, dI, dI, dI], .box [dI, dL], .mat (.int .i64)], []⟩
def x64a : List (XS d64a) := [⟨.exit 0, ⟨[2, 3, 5], [.slot 2, .slot 3, .slot 5], [], []⟩, ⟨[(2, oP 0 0), (3, oP 1 0), (5, oS 2)], [.box [dM, dL, dL, dI, dI, dI, dI, dI], .box [dI, dL], .mat (.int .i64)], []⟩, LL, fun i y => (((), (), (),
 ()), (i.2.1.1, i.2.1.2.1, i.2.1.2.2.1, i.2.1.2.2.2.1, i.2.1.2.2.2.2.1, i.2.1.2.2.2.2.2.1, i.2.1.2.2.2.2.2.2.1, i.2.1.2.2.2.2.2.2.2.1, ()), (i.2.2.1.1, i.2.2.1.2.1, ()), y, ())⟩]
def impl_tonnesIn_l0K {R : Type} (a0 : Int) (rc : Int → LL → Option R) (fin : LL → Option R) (a1 : Int) (a12 : LL) : Option R := cond (decide (a1 < a0)) ((some ((List.replicate 2 0 : LI))).bind fun v1 => cond (decide ((0 : Int) ≤ a1) &&
 decide (a1 < (a12.length : Int))) ((some (a12.set (0 + a1.toNat) v1)).bind fun v2 => rc (i64.wrap (a1 + 1)) v2) none) (fin a12)
def impl_tonnesIn_l0 (a0 : Int) (a1 : Int) (a12 : LL) : Option (LL) := lim (fun r (x : Q35) => impl_tonnesIn_l0K a0 (fun a1 a12 => r (a1, a12)) some x.1 x.2) (a1, a12)
theorem impl_tonnesIn_l0_eq (a0 : Int) (a1 : Int) (a12 : LL) : impl_tonnesIn_l0 a0 a1 a12 = impl_tonnesIn_l0K a0 (impl_tonnesIn_l0 a0) some a1 a12 := lim_eqI (fun x => by unfold impl_tonnesIn_l0K; repeat' (first | constructor | intro _)) _
def L64a : Loop := mkM ⟨[2, 3, 5, 13, 14], [.slot 2, .slot 3, .slot 5], [], []⟩ s64a x64a fun (x : d64a) => impl_tonnesIn_l0 x.1.2.2.2.1 x.1.2.2.2.2.1 x.2.2.2.1
abbrev d64b := (U × U × LI × Int × Int × U) × (Q7 × LL × U)
def s64b : LS := ⟨[(2, oP 0 0), (5, oS 1), (23, oL), (24, oI), (25, oI)], [.box [dM, dL, dL, dI, dI, dI, dI, dI], .mat (.int .i64)], []⟩
def x64b : List (XS d64b) := [⟨.exit 2, ⟨[5], [.slot 5], [], []⟩, ⟨[(5, oS 0)], [.mat (.int .i64)], []⟩, LL, fun i y => (((), ()), y, ())⟩]
def impl_tonnesIn_l1K {R : Type} (a0 : LI) (a1 : Int) (a4 a5 : LI) (rc : Int → LL → Option R) (fin : LL → Option R) (a2 : Int) (a11 : LL) : Option R := cond (decide (a2 < a1)) ((lat a0 a2).bind fun e1 => cond (decide (e1 < 0)) (rc
 (i64.wrap (a2 + 1)) a11) (cond (decide ((0 : Int) ≤ e1) && decide (e1 < (a11.length : Int))) (cond (decide ((0 : Int) < ((a11.getD (0 + e1.toNat) []).length : Int))) ((lat a4 a2).bind fun e2 => cond (decide ((0 : Int) < ((a11.getD (0 +
 e1.toNat) []).length : Int))) ((some (a11.set (0 + e1.toNat) ((a11.getD (0 + e1.toNat) []).set (0 + 0) (i64.wrap (((a11.getD (0 + e1.toNat) []).getD (0 + 0) 0) + e2))))).bind fun v3 => (lat a5 a2).bind fun e4 => cond (decide (e4 > 0))
 (cond (decide ((0 : Int) ≤ e1) && decide (e1 < (v3.length : Int))) (cond (decide ((1 : Int) < ((v3.getD (0 + e1.toNat) []).length : Int))) ((lat a4 a2).bind fun e5 => cond (decide ((1 : Int) < ((v3.getD (0 + e1.toNat) []).length : Int)))
 ((some (v3.set (0 + e1.toNat) ((v3.getD (0 + e1.toNat) []).set (0 + 1) (i64.wrap (((v3.getD (0 + e1.toNat) []).getD (0 + 1) 0) + e5))))).bind fun v6 => rc (i64.wrap (a2 + 1)) v6) none) none) none) (rc (i64.wrap (a2 + 1)) v3)) none) none)
 none)) (fin a11)
def impl_tonnesIn_l1 (a0 : LI) (a1 : Int) (a4 a5 : LI) (a2 : Int) (a11 : LL) : Option (LL) := lim (fun r (x : Q35) => impl_tonnesIn_l1K a0 a1 a4 a5 (fun a2 a11 => r (a2, a11)) some x.1 x.2) (a2, a11)
theorem impl_tonnesIn_l1_eq (a0 : LI) (a1 : Int) (a4 a5 : LI) (a2 : Int) (a11 : LL) : impl_tonnesIn_l1 a0 a1 a4 a5 a2 a11 = impl_tonnesIn_l1K a0 a1 a4 a5 (impl_tonnesIn_l1 a0 a1 a4 a5) some a2 a11 := lim_eqI (fun x =>
 by unfold impl_tonnesIn_l1K; repeat' (first | constructor | intro _)) _
def L64b : Loop := mkM ⟨[2, 5, 23, 24, 25], [.slot 2, .slot 5], [], []⟩ s64b x64b fun (x : d64b) => impl_tonnesIn_l1 x.1.2.2.1 x.1.2.2.2.1 x.2.1.2.1 x.2.1.2.2.1 x.1.2.2.2.2.1 x.2.2.1
def impl_tonnesInK {R : Type} (fin : LL → Option R) (x0 : DJob) (x1 : DPlan) : Option R := cond (decide ((0 : Int) ≤ x0.2.2.2.2.1) && (decide (x0.2.2.2.2.1 ≤ x0.2.2.2.2.1) && decide (x0.2.2.2.2.1 ≤ 1099511627776))) ((some ((List.replicate
 x0.2.2.2.2.1.toNat [] : LL))).bind fun v1 => (impl_tonnesIn_l0 (v1.length : Int) 0 v1).bind fun y4 => (impl_tonnesIn_l1 x1.2.1 (x1.2.1.length : Int) x0.2.1 x0.2.2.1 0 y4).bind fun y11 => fin y11) none
def impl_tonnesIn (x0 : DJob) (x1 : DPlan) : Option (LL) := impl_tonnesInK some x0 x1
def or64 : Ora := { lo := addL 8 L64b (addL 3 L64a lo0), fin := [] }
theorem o64a : LOk EL64 or64 Tryz.f64 0 L64a := loop_rnd (fun (x : d64a) => (x.1.2.2.2.2.1, x.2.2.2.1)) (fun (i : d64a) v => (((), (), (), i.1.2.2.2.1, v.1, ()), (i.2.1.1, i.2.1.2.1, i.2.1.2.2.1, i.2.1.2.2.2.1, i.2.1.2.2.2.2.1,
 i.2.1.2.2.2.2.2.1, i.2.1.2.2.2.2.2.2.1, i.2.1.2.2.2.2.2.2.2.1, ()), (i.2.2.1.1, i.2.2.1.2.1, ()), v.2, ())) (fun (i : d64a) _ rc fin v => impl_tonnesIn_l0K i.1.2.2.2.1 (fun a1 a12 => rc (a1, a12)) fin v.1 v.2) (fun _ => rfl) (fun _ =>
 rfl) (fun i k v => by kernel_rfl) fun i _ rc _ _ hr v => by unfold impl_tonnesIn_l0K; repeat' (first | exact .of (hr _) | constructor | intro _)
theorem o64b : LOk EL64 or64 Tryz.f64 1 L64b := loop_rnd (fun (x : d64b) => (x.1.2.2.2.2.1, x.2.2.1)) (fun (i : d64b) v => (((), (), i.1.2.2.1, i.1.2.2.2.1, v.1, ()), (i.2.1.1, i.2.1.2.1, i.2.1.2.2.1, i.2.1.2.2.2.1, i.2.1.2.2.2.2.1,
 i.2.1.2.2.2.2.2.1, i.2.1.2.2.2.2.2.2.1, i.2.1.2.2.2.2.2.2.2.1, ()), v.2, ())) (fun (i : d64b) _ rc fin v => impl_tonnesIn_l1K i.1.2.2.1 i.1.2.2.2.1 i.2.1.2.1 i.2.1.2.2.1 (fun a2 a11 => rc (a2, a11)) fin v.1 v.2) (fun _ => rfl) (fun _ =>
 rfl) (fun i k v => by kernel_rfl) fun i _ rc _ _ hr v => by unfold impl_tonnesIn_l1K; repeat' (first | exact .of (hr _) | constructor | intro _)
def c64 : Callee := mkC [.agg [.ro TJob], .agg [.ro TPlan]] 1 [.one (.mat (.int .i64))] fun x => impl_tonnesIn x.1 x.2
theorem k64 : Cal Tryz.prog 64 c64 := cal_mk (or := or64) Tryz.func64 (by kernel_rfl) (by kernel_rfl) mixed (EnvOk.nil : EnvOk _ EL64) (LoOk.mk (by kernel_rfl) (all2 ⟨_, by kernel_rfl, o64a⟩ ⟨_, by kernel_rfl, o64b⟩)) (fun _ fin x =>
 impl_tonnesInK fin x.1 x.2) (fun _ => rfl) (fun x => by kernel_rfl) fun x _ _ => by unfold impl_tonnesInK; repeat' (first | constructor | intro _)
def EL100 : Nat → Option Callee := env0
abbrev d100a := Q27 × (U)
def s100a : LS := ⟨[(0, oI), (1, oI), (5, oI)], [], []⟩
def x100a : List (XS d100a) := [⟨.exit 0, ⟨[5], [], [], []⟩, ⟨[(5, oI)], [], []⟩, Int, fun i y => ((y, ()), ())⟩]
def impl_power_l0K {R : Type} (a0 : Int) (rc : Int → Int → Option R) (fin : Int → Option R) (a1 a2 : Int) : Option R := cond (decide (a1 > 0)) (rc (i64.wrap (a1 - 1)) (i64.wrap (a2 * a0))) (fin a2)
def impl_power_l0 (a0 : Int) (a1 a2 : Int) : Option (Int) := lim (fun r (x : Q32) => impl_power_l0K a0 (fun a1 a2 => r (a1, a2)) some x.1 x.2) (a1, a2)
theorem impl_power_l0_eq (a0 : Int) (a1 a2 : Int) : impl_power_l0 a0 a1 a2 = impl_power_l0K a0 (impl_power_l0 a0) some a1 a2 := lim_eqI (fun x => by unfold impl_power_l0K; repeat' (first | constructor | intro _)) _
def L100a : Loop := mkM ⟨[0, 1, 5], [], [], []⟩ s100a x100a fun (x : d100a) => impl_power_l0 x.1.1 x.1.2.1 x.1.2.2.1
def impl_powerK {R : Type} (fin : Int → Option R) (x0 x1 : Int) : Option R := (impl_power_l0 x0 x1 1).bind fun y1 => fin y1
def impl_power (x0 x1 : Int) : Option (Int) := impl_powerK some x0 x1
def or100 : Ora := { lo := addL 2 L100a lo0, fin := [] }
theorem o100a : LOk EL100 or100 Tryz.f100 0 L100a := loop_rnd (fun (x : d100a) => (x.1.2.1, x.1.2.2.1)) (fun (i : d100a) v => ((i.1.1, v.1, v.2, ()), ())) (fun (i : d100a) _ rc fin v => impl_power_l0K i.1.1 (fun a1 a2 => rc (a1, a2)) fin
 v.1 v.2) (fun _ => rfl) (fun _ => rfl) (fun i k v => by kernel_rfl) fun i _ rc _ _ hr v => by unfold impl_power_l0K; repeat' (first | exact .of (hr _) | constructor | intro _)
def c100 : Callee := mkC [rI, rI] 1 [rI] fun x => impl_power x.1 x.2
theorem k100 : Cal Tryz.prog 100 c100 := cal_mk (or := or100) Tryz.func100 (by kernel_rfl) (by kernel_rfl) mixed (EnvOk.nil : EnvOk _ EL100) (LoOk.mk (by kernel_rfl) (all1 ⟨_, by kernel_rfl, o100a⟩)) (fun _ fin x => impl_powerK fin x.1
 x.2) (fun _ => rfl) (fun x => by kernel_rfl) fun x _ _ => by unfold impl_powerK; repeat' (first | constructor | intro _)
def EL56 : Nat → Option Callee := addE 100 c100 (addE 64 c64 (addE 99 c99 env0))
abbrev d56a := (U × U × Int × U) × (Q7 × Q1 × LI × LL × LI × LI × U)
def s56a : LS := ⟨[(2, oP 0 0), (5, oP 1 0), (6, oI)], [.box [dM, dL, dL, dI, dI, dI, dI, dI], .box [dM, dL, dL, dI, dI, dI, dI, dI, dI, .fix (.sref 2), .fix (.sref 3), .fix (.sref 4), dI, .fix (.sref 5), dI, dI, dI, dI, dB], .sl (.int
 .i64), .mat (.int .i64), .sl (.int .i64), .sl (.int .i64)], []⟩
def x56a : List (XS d56a) := [⟨.exit 0, ⟨[5], [.slot 5, .cell 5 9, .cell 5 10, .cell 5 11, .cell 5 13], [], []⟩, ⟨[(5, oP 0 0)], [.box [dM, dL, dL, dI, dI, dI, dI, dI, dI, .fix (.sref 1), .fix (.sref 2), .fix (.sref 3), dI, .fix (.sref 4),
 dI, dI, dI, dI, dB], .sl (.int .i64), .mat (.int .i64), .sl (.int .i64), .sl (.int .i64)], []⟩, LI, fun i y => (((), ()), (i.2.2.1.1, i.2.2.1.2.1, i.2.2.1.2.2.1, i.2.2.1.2.2.2.1, i.2.2.1.2.2.2.2.1, i.2.2.1.2.2.2.2.2.1,
 i.2.2.1.2.2.2.2.2.2.1, i.2.2.1.2.2.2.2.2.2.2.1, i.2.2.1.2.2.2.2.2.2.2.2.1, (), (), (), i.2.2.1.2.2.2.2.2.2.2.2.2.2.2.2.1, (), i.2.2.1.2.2.2.2.2.2.2.2.2.2.2.2.2.2.1, i.2.2.1.2.2.2.2.2.2.2.2.2.2.2.2.2.2.2.1,
 i.2.2.1.2.2.2.2.2.2.2.2.2.2.2.2.2.2.2.2.1, i.2.2.1.2.2.2.2.2.2.2.2.2.2.2.2.2.2.2.2.2.1, i.2.2.1.2.2.2.2.2.2.2.2.2.2.2.2.2.2.2.2.2.2.1, ()), i.2.2.2.1, i.2.2.2.2.1, y, i.2.2.2.2.2.2.1, ())⟩]
def impl_newSearch_l0K {R : Type} (a3 : LI) (a6 a8 : Int) (rc : Int → LI → Option R) (fin : LI → Option R) (a0 : Int) (a26 : LI) : Option R := cond (decide (a0 ≥ 0)) (cond (decide ((0 : Int) ≤ i64.wrap (a0 + 1)) && decide (i64.wrap (a0 +
 1) < (a26.length : Int))) ((lat a3 a0).bind fun e1 => (impl_power a8 (i64.wrap (a6 - 1))).bind fun y2 => (some (i64.wrap ((a26.getD (0 + (i64.wrap (a0 + 1)).toNat) 0) + (i64.wrap ((if e1 > 0 then e1 else 0) * y2))))).bind fun v3 => cond
 (decide ((0 : Int) ≤ a0) && decide (a0 < (a26.length : Int))) ((some (a26.set (0 + a0.toNat) v3)).bind fun v4 => rc (i64.wrap (a0 - 1)) v4) none) none) (fin a26)
def impl_newSearch_l0 (a3 : LI) (a6 a8 : Int) (a0 : Int) (a26 : LI) : Option (LI) := lim (fun r (x : Q34) => impl_newSearch_l0K a3 a6 a8 (fun a0 a26 => r (a0, a26)) some x.1 x.2) (a0, a26)
theorem impl_newSearch_l0_eq (a3 : LI) (a6 a8 : Int) (a0 : Int) (a26 : LI) : impl_newSearch_l0 a3 a6 a8 a0 a26 = impl_newSearch_l0K a3 a6 a8 (impl_newSearch_l0 a3 a6 a8) some a0 a26 := lim_eqI (fun x =>
 by unfold impl_newSearch_l0K; repeat' (first | constructor | intro _)) _
def L56a : Loop := mkM ⟨[2, 5, 6], [.slot 2, .slot 5, .cell 5 9, .cell 5 10, .cell 5 11, .cell 5 13], [], []⟩ s56a x56a fun (x : d56a) => impl_newSearch_l0 x.2.1.2.2.1 x.2.1.2.2.2.2.2.1 x.2.1.2.2.2.2.2.2.2.1 x.1.2.2.1 x.2.2.2.2.2.1
def impl_newSearchK {R : Type} (fin : LL × LI × LI × Int × Int × Int × Int × Int × Int × LI × LL × LI × Int × LI × Int × Int × Int × Int × Bool → Option R) (x0 : DJob) (x1 : Int) : Option R := (impl_emptyPlan x0).bind fun y1 =>
 (impl_emptyPlan x0).bind fun y2 => (impl_tonnesIn x0 (y1.1, y1.2, ())).bind fun y3 => cond (decide ((0 : Int) ≤ i64.wrap ((x0.1.length : Int) + 1)) && (decide (i64.wrap ((x0.1.length : Int) + 1) ≤ i64.wrap ((x0.1.length : Int) + 1)) &&
 decide (i64.wrap ((x0.1.length : Int) + 1) ≤ 1099511627776))) ((some ((List.replicate ((i64.wrap ((x0.1.length : Int) + 1)).toNat) 0 : LI))).bind fun v4 => (impl_newSearch_l0 x0.2.2.1 x0.2.2.2.2.1 x0.2.2.2.2.2.2.1 (i64.wrap ((x0.1.length
 : Int) - 1)) v4).bind fun y9 => fin (x0.1, x0.2.1, x0.2.2.1, x0.2.2.2.1.1, x0.2.2.2.1.2.1, x0.2.2.2.2.1, x0.2.2.2.2.2.1, x0.2.2.2.2.2.2.1, y1.1, y1.2, y3, y9, y2.1, y2.2, 0, x1, 0, 0, false)) none
def impl_newSearch (x0 : DJob) (x1 : Int) : Option Q2 := impl_newSearchK some x0 x1
def or56 : Ora := { lo := addL 5 L56a lo0, fin := [] }
theorem o56a : LOk EL56 or56 Tryz.f56 0 L56a := loop_rnd (fun (x : d56a) => (x.1.2.2.1, x.2.2.2.2.2.1)) (fun (i : d56a) v => (((), (), v.1, ()), (i.2.1.1, i.2.1.2.1, i.2.1.2.2.1, i.2.1.2.2.2.1, i.2.1.2.2.2.2.1, i.2.1.2.2.2.2.2.1,
 i.2.1.2.2.2.2.2.2.1, i.2.1.2.2.2.2.2.2.2.1, ()), (i.2.2.1.1, i.2.2.1.2.1, i.2.2.1.2.2.1, i.2.2.1.2.2.2.1, i.2.2.1.2.2.2.2.1, i.2.2.1.2.2.2.2.2.1, i.2.2.1.2.2.2.2.2.2.1, i.2.2.1.2.2.2.2.2.2.2.1, i.2.2.1.2.2.2.2.2.2.2.2.1, (), (), (),
 i.2.2.1.2.2.2.2.2.2.2.2.2.2.2.2.1, (), i.2.2.1.2.2.2.2.2.2.2.2.2.2.2.2.2.2.1, i.2.2.1.2.2.2.2.2.2.2.2.2.2.2.2.2.2.2.1, i.2.2.1.2.2.2.2.2.2.2.2.2.2.2.2.2.2.2.2.1, i.2.2.1.2.2.2.2.2.2.2.2.2.2.2.2.2.2.2.2.2.1,
 i.2.2.1.2.2.2.2.2.2.2.2.2.2.2.2.2.2.2.2.2.2.1, ()), i.2.2.2.1, i.2.2.2.2.1, v.2, i.2.2.2.2.2.2.1, ())) (fun (i : d56a) _ rc fin v => impl_newSearch_l0K i.2.1.2.2.1 i.2.1.2.2.2.2.2.1 i.2.1.2.2.2.2.2.2.2.1 (fun a0 a26 => rc (a0, a26)) fin
 v.1 v.2) (fun _ => rfl) (fun _ => rfl) (fun i k v => by kernel_rfl) fun i _ rc _ _ hr v => by unfold impl_newSearch_l0K; repeat' (first | exact .of (hr _) | constructor | intro _)
def c56 : Callee := mkC [.agg [.ro TJob], rI] 1 [.box [kM, kL, kL, kI, kI, kI, kI, kI, kI, .sl (.int .i64), .mat (.int .i64), .sl (.int .i64), kI, .sl (.int .i64), kI, kI, kI, kI, kB]] fun x => impl_newSearch x.1 x.2
theorem k56 : Cal Tryz.prog 56 c56 := cal_mk (or := or56) Tryz.func56 (by kernel_rfl) (by kernel_rfl) mixed (EnvOk.nil |>.a k99 |>.a k64 |>.a k100 : EnvOk _ EL56) (LoOk.mk (by kernel_rfl) (all1 ⟨_, by kernel_rfl, o56a⟩)) (fun _ fin x =>
 impl_newSearchK fin x.1 x.2) (fun _ => rfl) (fun x => by kernel_rfl) fun x _ _ => by unfold impl_newSearchK; repeat' (first | constructor | intro _)
def EL101 : Nat → Option Callee := env0
def impl_copyPlanK {R : Type} (fin : Int × LI → Option R) (x0 : DPlan) : Option R := cond (decide (([] : LI).length + x0.2.1.length ≤ 1099511627776)) (fin (x0.1, ([] : LI) ++ x0.2.1)) none
def impl_copyPlan (x0 : DPlan) : Option Q34 := impl_copyPlanK some x0
def c101 : Callee := mkC [.agg [.ro TPlan]] 1 [.agg [kI, .sl (.int .i64)]] fun x => impl_copyPlan x
theorem k101 : Cal Tryz.prog 101 c101 := cal_mk (or := or0) Tryz.func101 (by kernel_rfl) (by kernel_rfl) mixed (EnvOk.nil : EnvOk _ EL101) (LoOk.nil (by kernel_rfl)) (fun _ fin x => impl_copyPlanK fin x) (fun _ => rfl) (fun x =>
 by kernel_rfl) fun x _ _ => by unfold impl_copyPlanK; repeat' (first | constructor | intro _)
def EL103 : Nat → Option Callee := env0
def impl_planSearch_putK {R : Type} (fin : LL × LI × LI × Int × Int × Int × Int × Int × Int × LI × LL × LI × Int × LI × Int × Int × Int × Int × Bool → Option R) (x0 : Q2) (x1 x2 : Int) : Option R := cond (decide ((0 : Int) ≤ x1) && decide
 (x1 < (x0.2.2.2.2.2.2.2.2.2.1.length : Int))) ((some (x0.2.2.2.2.2.2.2.2.2.1.set (0 + x1.toNat) x2)).bind fun v1 => cond (decide (x2 < 0)) (fin (x0.1, x0.2.1, x0.2.2.1, x0.2.2.2.1, x0.2.2.2.2.1, x0.2.2.2.2.2.1, x0.2.2.2.2.2.2.1,
 x0.2.2.2.2.2.2.2.1, x0.2.2.2.2.2.2.2.2.1, v1, x0.2.2.2.2.2.2.2.2.2.2)) (cond (decide ((0 : Int) ≤ x2) && decide (x2 < (x0.2.2.2.2.2.2.2.2.2.2.1.length : Int))) (cond (decide ((0 : Int) < ((x0.2.2.2.2.2.2.2.2.2.2.1.getD (0 + x2.toNat)
 []).length : Int))) ((lat x0.2.1 x1).bind fun e2 => (some (i64.wrap (((x0.2.2.2.2.2.2.2.2.2.2.1.getD (0 + x2.toNat) []).getD (0 + 0) 0) + e2))).bind fun v3 => cond (decide ((0 : Int) < ((x0.2.2.2.2.2.2.2.2.2.2.1.getD (0 + x2.toNat)
 []).length : Int))) ((some (x0.2.2.2.2.2.2.2.2.2.2.1.set (0 + x2.toNat) ((x0.2.2.2.2.2.2.2.2.2.2.1.getD (0 + x2.toNat) []).set (0 + 0) v3))).bind fun v4 => (lat x0.2.2.1 x1).bind fun e5 => cond (decide (e5 > 0)) (cond (decide ((0 : Int) ≤
 x2) && decide (x2 < (v4.length : Int))) (cond (decide ((1 : Int) < ((v4.getD (0 + x2.toNat) []).length : Int))) ((lat x0.2.1 x1).bind fun e6 => cond (decide ((1 : Int) < ((v4.getD (0 + x2.toNat) []).length : Int))) ((some (v4.set (0 +
 x2.toNat) ((v4.getD (0 + x2.toNat) []).set (0 + 1) (i64.wrap (((v4.getD (0 + x2.toNat) []).getD (0 + 1) 0) + e6))))).bind fun v7 => fin (x0.1, x0.2.1, x0.2.2.1, x0.2.2.2.1, x0.2.2.2.2.1, x0.2.2.2.2.2.1, x0.2.2.2.2.2.2.1,
 x0.2.2.2.2.2.2.2.1, x0.2.2.2.2.2.2.2.2.1, v1, v7, x0.2.2.2.2.2.2.2.2.2.2.2)) none) none) none) (fin (x0.1, x0.2.1, x0.2.2.1, x0.2.2.2.1, x0.2.2.2.2.1, x0.2.2.2.2.2.1, x0.2.2.2.2.2.2.1, x0.2.2.2.2.2.2.2.1, x0.2.2.2.2.2.2.2.2.1, v1, v4,
 x0.2.2.2.2.2.2.2.2.2.2.2))) none) none) none)) none
def impl_planSearch_put (x0 : Q2) (x1 x2 : Int) : Option Q2 := impl_planSearch_putK some x0 x1 x2
def c103 : Callee := mkC [.box [kM, kL, kL, kI, kI, kI, kI, kI, kI, .sl (.int .i64), .mat (.int .i64), .sl (.int .i64), kI, .sl (.int .i64), kI, kI, kI, kI, kB], rI, rI] 0 [.box [kM, kL, kL, kI, kI, kI, kI, kI, kI, .sl (.int .i64), .mat
 (.int .i64), .sl (.int .i64), kI, .sl (.int .i64), kI, kI, kI, kI, kB]] fun x => impl_planSearch_put x.1 x.2.1 x.2.2
set_option maxHeartbeats 4000000 in
theorem k103 : Cal Tryz.prog 103 c103 := cal_mk (or := or0) Tryz.func103 (by kernel_rfl) (by kernel_rfl) mixed (EnvOk.nil : EnvOk _ EL103) (LoOk.nil (by kernel_rfl)) (fun _ fin x => impl_planSearch_putK fin x.1 x.2.1 x.2.2) (fun _ => rfl)
 (fun x => by kernel_rfl) fun x _ _ => by unfold impl_planSearch_putK; repeat' (first | constructor | intro _)
def EL126 : Nat → Option Callee := env0
abbrev d126a := (Int × U × LI × Int × Int × U) × ((Int × LI × U) × U)
def s126a : LS := ⟨[(2, oI), (4, oP 0 0), (13, oL), (14, oI), (15, oI)], [.box [dI, dL]], []⟩
def x126a : List (XS d126a) := [⟨.ret, ⟨[6], [], [], []⟩, ⟨[(6, oB)], [], []⟩, Bool, fun i y => ((y, ()), ())⟩, ⟨.exit 0, ⟨[], [], [], []⟩, ⟨[], [], []⟩, U, fun i y => ((), ())⟩]
def impl_keepsOrder_l0K {R : Type} (a0 : Int) (a1 : LI) (a2 : Int) (a5 : LI) (rc : Int → Option R) (fin : Q33 → Option R) (a3 : Int) : Option R := cond (decide (a3 < a2)) ((lat a1 a3).bind fun e1 => (lat a5 a0).bind fun e2 => cond (decide
 (e2 ≥ 0)) ((lat a5 e1).bind fun e3 => cond (decide (e3 < 0)) (fin (.inl false)) ((lat a5 e1).bind fun e4 => (lat a5 a0).bind fun e5 => cond (decide (e4 > e5)) (fin (.inl false)) (rc (i64.wrap (a3 + 1))))) (rc (i64.wrap (a3 + 1)))) (fin
 (.inr ()))
def impl_keepsOrder_l0 (a0 : Int) (a1 : LI) (a2 : Int) (a5 : LI) (a3 : Int) : Option Q33 := lim (fun r (x : Int) => impl_keepsOrder_l0K a0 a1 a2 a5 (fun a3 => r a3) some x) a3
theorem impl_keepsOrder_l0_eq (a0 : Int) (a1 : LI) (a2 : Int) (a5 : LI) (a3 : Int) : impl_keepsOrder_l0 a0 a1 a2 a5 a3 = impl_keepsOrder_l0K a0 a1 a2 a5 (impl_keepsOrder_l0 a0 a1 a2 a5) some a3 := lim_eqI (fun x =>
 by unfold impl_keepsOrder_l0K; repeat' (first | constructor | intro _)) _
def L126a : Loop := mkM ⟨[2, 4, 13, 14, 15], [.slot 4], [], []⟩ s126a x126a fun (x : d126a) => impl_keepsOrder_l0 x.1.1 x.1.2.2.1 x.1.2.2.2.1 x.2.1.2.1 x.1.2.2.2.2.1
def impl_keepsOrderK {R : Type} (fin : Bool → Option R) (x0 : DJob) (x1 : DPlan) (x2 : Int) : Option R := (lat x0.1 x2).bind fun e1 => (impl_keepsOrder_l0 x2 e1 (e1.length : Int) x1.2.1 0).bind fun y7 => sumO y7 (fun y8 => fin y8) (fun y9
 => fin true)
def impl_keepsOrder (x0 : DJob) (x1 : DPlan) (x2 : Int) : Option (Bool) := impl_keepsOrderK some x0 x1 x2
def or126 : Ora := { lo := addL 2 L126a lo0, fin := [] }
theorem o126a : LOk EL126 or126 Tryz.f126 0 L126a := loop_rnd (fun (x : d126a) => x.1.2.2.2.2.1) (fun (i : d126a) v => ((i.1.1, (), i.1.2.2.1, i.1.2.2.2.1, v, ()), (i.2.1.1, i.2.1.2.1, ()), ())) (fun (i : d126a) _ rc fin v =>
 impl_keepsOrder_l0K i.1.1 i.1.2.2.1 i.1.2.2.2.1 i.2.1.2.1 (fun a3 => rc a3) fin v) (fun _ => rfl) (fun _ => rfl) (fun i k v => by kernel_rfl) fun i _ rc _ _ hr v =>
 by unfold impl_keepsOrder_l0K; repeat' (first | exact .of (hr _) | constructor | intro _)
def c126 : Callee := mkC [.agg [.ro TJob], .agg [.ro TPlan], rI] 1 [rB] fun x => impl_keepsOrder x.1 x.2.1 x.2.2
theorem k126 : Cal Tryz.prog 126 c126 := cal_mk (or := or126) Tryz.func126 (by kernel_rfl) (by kernel_rfl) mixed (EnvOk.nil : EnvOk _ EL126) (LoOk.mk (by kernel_rfl) (all1 ⟨_, by kernel_rfl, o126a⟩)) (fun _ fin x => impl_keepsOrderK fin
 x.1 x.2.1 x.2.2) (fun _ => rfl) (fun x => by kernel_rfl) fun x _ _ => by unfold impl_keepsOrderK; repeat' (first | constructor | intro _)
def EL105 : Nat → Option Callee := env0
def impl_planSearch_removeK {R : Type} (fin : LL × LI × LI × Int × Int × Int × Int × Int × Int × LI × LL × LI × Int × LI × Int × Int × Int × Int × Bool → Option R) (x0 : Q2) (x1 : Int) : Option R := cond (decide ((0 : Int) ≤ x1) && decide
 (x1 < (x0.2.2.2.2.2.2.2.2.2.1.length : Int))) (cond (decide ((0 : Int) ≤ x1) && decide (x1 < (x0.2.2.2.2.2.2.2.2.2.1.length : Int))) ((some (x0.2.2.2.2.2.2.2.2.2.1.set (0 + x1.toNat) (-1))).bind fun v1 => cond (decide
 ((x0.2.2.2.2.2.2.2.2.2.1.getD (0 + x1.toNat) 0) < 0)) (fin (x0.1, x0.2.1, x0.2.2.1, x0.2.2.2.1, x0.2.2.2.2.1, x0.2.2.2.2.2.1, x0.2.2.2.2.2.2.1, x0.2.2.2.2.2.2.2.1, x0.2.2.2.2.2.2.2.2.1, v1, x0.2.2.2.2.2.2.2.2.2.2)) (cond (decide ((0 :
 Int) ≤ x0.2.2.2.2.2.2.2.2.2.1.getD (0 + x1.toNat) 0) && decide (x0.2.2.2.2.2.2.2.2.2.1.getD (0 + x1.toNat) 0 < (x0.2.2.2.2.2.2.2.2.2.2.1.length : Int))) (cond (decide ((0 : Int) < ((x0.2.2.2.2.2.2.2.2.2.2.1.getD (0 +
 (x0.2.2.2.2.2.2.2.2.2.1.getD (0 + x1.toNat) 0).toNat) []).length : Int))) ((lat x0.2.1 x1).bind fun e2 => (some (i64.wrap (((x0.2.2.2.2.2.2.2.2.2.2.1.getD (0 + (x0.2.2.2.2.2.2.2.2.2.1.getD (0 + x1.toNat) 0).toNat) []).getD (0 + 0) 0) -
 e2))).bind fun v3 => cond (decide ((0 : Int) < ((x0.2.2.2.2.2.2.2.2.2.2.1.getD (0 + (x0.2.2.2.2.2.2.2.2.2.1.getD (0 + x1.toNat) 0).toNat) []).length : Int))) ((some (x0.2.2.2.2.2.2.2.2.2.2.1.set (0 + (x0.2.2.2.2.2.2.2.2.2.1.getD (0 +
 x1.toNat) 0).toNat) ((x0.2.2.2.2.2.2.2.2.2.2.1.getD (0 + (x0.2.2.2.2.2.2.2.2.2.1.getD (0 + x1.toNat) 0).toNat) []).set (0 + 0) v3))).bind fun v4 => (lat x0.2.2.1 x1).bind fun e5 => cond (decide (e5 > 0)) (cond (decide ((0 : Int) ≤
 x0.2.2.2.2.2.2.2.2.2.1.getD (0 + x1.toNat) 0) && decide (x0.2.2.2.2.2.2.2.2.2.1.getD (0 + x1.toNat) 0 < (v4.length : Int))) (cond (decide ((1 : Int) < ((v4.getD (0 + (x0.2.2.2.2.2.2.2.2.2.1.getD (0 + x1.toNat) 0).toNat) []).length :
 Int))) ((lat x0.2.1 x1).bind fun e6 => (some (i64.wrap (((v4.getD (0 + (x0.2.2.2.2.2.2.2.2.2.1.getD (0 + x1.toNat) 0).toNat) []).getD (0 + 1) 0) - e6))).bind fun v7 => cond (decide ((1 : Int) < ((v4.getD (0 + (x0.2.2.2.2.2.2.2.2.2.1.getD
 (0 + x1.toNat) 0).toNat) []).length : Int))) ((some (v4.set (0 + (x0.2.2.2.2.2.2.2.2.2.1.getD (0 + x1.toNat) 0).toNat) ((v4.getD (0 + (x0.2.2.2.2.2.2.2.2.2.1.getD (0 + x1.toNat) 0).toNat) []).set (0 + 1) v7))).bind fun v8 => fin (x0.1,
 x0.2.1, x0.2.2.1, x0.2.2.2.1, x0.2.2.2.2.1, x0.2.2.2.2.2.1, x0.2.2.2.2.2.2.1, x0.2.2.2.2.2.2.2.1, x0.2.2.2.2.2.2.2.2.1, v1, v8, x0.2.2.2.2.2.2.2.2.2.2.2)) none) none) none) (fin (x0.1, x0.2.1, x0.2.2.1, x0.2.2.2.1, x0.2.2.2.2.1,
 x0.2.2.2.2.2.1, x0.2.2.2.2.2.2.1, x0.2.2.2.2.2.2.2.1, x0.2.2.2.2.2.2.2.2.1, v1, v4, x0.2.2.2.2.2.2.2.2.2.2.2))) none) none) none)) none) none
def impl_planSearch_remove (x0 : Q2) (x1 : Int) : Option Q2 := impl_planSearch_removeK some x0 x1
def c105 : Callee := mkC [.box [kM, kL, kL, kI, kI, kI, kI, kI, kI, .sl (.int .i64), .mat (.int .i64), .sl (.int .i64), kI, .sl (.int .i64), kI, kI, kI, kI, kB], rI] 0 [.box [kM, kL, kL, kI, kI, kI, kI, kI, kI, .sl (.int .i64), .mat (.int
 .i64), .sl (.int .i64), kI, .sl (.int .i64), kI, kI, kI, kI, kB]] fun x => impl_planSearch_remove x.1 x.2
set_option maxHeartbeats 4000000 in
theorem k105 : Cal Tryz.prog 105 c105 := cal_mk (or := or0) Tryz.func105 (by kernel_rfl) (by kernel_rfl) mixed (EnvOk.nil : EnvOk _ EL105) (LoOk.nil (by kernel_rfl)) (fun _ fin x => impl_planSearch_removeK fin x.1 x.2) (fun _ => rfl) (fun
 x => by kernel_rfl) fun x _ _ => by unfold impl_planSearch_removeK; repeat' (first | constructor | intro _)
def EL102 : Nat → Option Callee := addE 105 c105 (addE 126 c126 (addE 103 c103 env0))
abbrev d102a := (U × Int × U × Int × U) × Q37
def s102a : LS := ⟨[(0, oP 0 0), (1, oI), (5, oS 5), (6, oI)], [.box [dM, dL, dL, dI, dI, dI, dI, dI, dI, .fix (.sref 1), .fix (.sref 2), .fix (.sref 3), dI, .fix (.sref 4), dI, dI, dI, dI, dB], .sl (.int .i64), .mat (.int .i64), .sl (.int
 .i64), .sl (.int .i64), .sl (.int .i64)], [0]⟩
def x102a : List (XS d102a) := [⟨.exit 0, ⟨[0, 5], [.slot 0, .cell 0 9, .cell 0 10, .cell 0 11, .cell 0 13, .slot 5], [0], []⟩, ⟨[(0, oP 0 0), (5, oS 5)], [.box [dM, dL, dL, dI, dI, dI, dI, dI, dI, .fix (.sref 1), .fix (.sref 2), .fix
 (.sref 3), dI, .fix (.sref 4), dI, dI, dI, dI, dB], .sl (.int .i64), .mat (.int .i64), .sl (.int .i64), .sl (.int .i64), .sl (.int .i64)], [0]⟩, LL × LI × LI × Int × Int × Int × Int × Int × Int × Int × Int × Int × Int × Int × Bool × LI ×
 LL × LI × LI × LI, fun i y => (((), (), ()), (y.1, y.2.1, y.2.2.1, y.2.2.2.1, y.2.2.2.2.1, y.2.2.2.2.2.1, y.2.2.2.2.2.2.1, y.2.2.2.2.2.2.2.1, y.2.2.2.2.2.2.2.2.1, (), (), (), y.2.2.2.2.2.2.2.2.2.1, (), y.2.2.2.2.2.2.2.2.2.2.1,
 y.2.2.2.2.2.2.2.2.2.2.2.1, y.2.2.2.2.2.2.2.2.2.2.2.2.1, y.2.2.2.2.2.2.2.2.2.2.2.2.2.1, y.2.2.2.2.2.2.2.2.2.2.2.2.2.2.1, ()), y.2.2.2.2.2.2.2.2.2.2.2.2.2.2.2.1, y.2.2.2.2.2.2.2.2.2.2.2.2.2.2.2.2.1, y.2.2.2.2.2.2.2.2.2.2.2.2.2.2.2.2.2.1,
 y.2.2.2.2.2.2.2.2.2.2.2.2.2.2.2.2.2.2.1, y.2.2.2.2.2.2.2.2.2.2.2.2.2.2.2.2.2.2.2, ())⟩]
def impl_planSearch_children_l0K {R : Type} (a0 : Int) (rc : Int → LL → LI → LI → Int → Int → Int → Int → Int → Int → Int → Int → Int → Int → Int → Bool → LI → LL → LI → LI → LI → Option R) (fin : LL × LI × LI × Int × Int × Int × Int × Int
 × Int × Int × Int × Int × Int × Int × Bool × LI × LL × LI × LI × LI → Option R) (a1 : Int) (a2 : LL) (a3 a4 : LI) (a5 a6 a7 a8 a9 a10 a11 a12 a13 a14 a15 : Int) (a16 : Bool) (a17 : LI) (a18 : LL) (a19 a20 a21 : LI) : Option R := cond
 (decide (a1 < a7)) ((impl_planSearch_put (a2, a3, a4, a5, a6, a7, a8, a9, a10, a17, a18, a19, a11, a20, a12, a13, a14, a15, a16) a0 a1).bind fun y1 => (impl_keepsOrder (y1.1, y1.2.1, y1.2.2.1, (y1.2.2.2.1, y1.2.2.2.2.1, ()),
 y1.2.2.2.2.2.1, y1.2.2.2.2.2.2.1, y1.2.2.2.2.2.2.2.1, ()) (y1.2.2.2.2.2.2.2.2.1, y1.2.2.2.2.2.2.2.2.2.1, ()) a0).bind fun y2 => cond (y2) (cond (decide ((0 : Int) ≤ a1) && decide (a1 < (y1.2.2.2.2.2.2.2.2.2.2.1.length : Int))) (cond
 (decide ((0 : Int) < ((y1.2.2.2.2.2.2.2.2.2.2.1.getD (0 + a1.toNat) []).length : Int))) (cond (decide (((y1.2.2.2.2.2.2.2.2.2.2.1.getD (0 + a1.toNat) []).getD (0 + 0) 0) ≤ y1.2.2.2.1)) (cond (decide ((0 : Int) ≤ a1) && decide (a1 <
 (y1.2.2.2.2.2.2.2.2.2.2.1.length : Int))) (cond (decide ((1 : Int) < ((y1.2.2.2.2.2.2.2.2.2.2.1.getD (0 + a1.toNat) []).length : Int))) ((impl_planSearch_remove y1 a0).bind fun y3 => cond (decide (((y1.2.2.2.2.2.2.2.2.2.2.1.getD (0 +
 a1.toNat) []).getD (0 + 1) 0) ≤ y1.2.2.2.2.1)) (cond (decide (a21.length + [a1].length ≤ 1099511627776)) (rc (i64.wrap (a1 + 1)) y3.1 y3.2.1 y3.2.2.1 y3.2.2.2.1 y3.2.2.2.2.1 y3.2.2.2.2.2.1 y3.2.2.2.2.2.2.1 y3.2.2.2.2.2.2.2.1
 y3.2.2.2.2.2.2.2.2.1 y3.2.2.2.2.2.2.2.2.2.2.2.2.1 y3.2.2.2.2.2.2.2.2.2.2.2.2.2.2.1 y3.2.2.2.2.2.2.2.2.2.2.2.2.2.2.2.1 y3.2.2.2.2.2.2.2.2.2.2.2.2.2.2.2.2.1 y3.2.2.2.2.2.2.2.2.2.2.2.2.2.2.2.2.2.1 y3.2.2.2.2.2.2.2.2.2.2.2.2.2.2.2.2.2.2
 y3.2.2.2.2.2.2.2.2.2.1 y3.2.2.2.2.2.2.2.2.2.2.1 y3.2.2.2.2.2.2.2.2.2.2.2.1 y3.2.2.2.2.2.2.2.2.2.2.2.2.2.1 (a21 ++ [a1])) none) (rc (i64.wrap (a1 + 1)) y3.1 y3.2.1 y3.2.2.1 y3.2.2.2.1 y3.2.2.2.2.1 y3.2.2.2.2.2.1 y3.2.2.2.2.2.2.1
 y3.2.2.2.2.2.2.2.1 y3.2.2.2.2.2.2.2.2.1 y3.2.2.2.2.2.2.2.2.2.2.2.2.1 y3.2.2.2.2.2.2.2.2.2.2.2.2.2.2.1 y3.2.2.2.2.2.2.2.2.2.2.2.2.2.2.2.1 y3.2.2.2.2.2.2.2.2.2.2.2.2.2.2.2.2.1 y3.2.2.2.2.2.2.2.2.2.2.2.2.2.2.2.2.2.1
 y3.2.2.2.2.2.2.2.2.2.2.2.2.2.2.2.2.2.2 y3.2.2.2.2.2.2.2.2.2.1 y3.2.2.2.2.2.2.2.2.2.2.1 y3.2.2.2.2.2.2.2.2.2.2.2.1 y3.2.2.2.2.2.2.2.2.2.2.2.2.2.1 a21)) none) none) ((impl_planSearch_remove y1 a0).bind fun y4 => rc (i64.wrap (a1 + 1)) y4.1
 y4.2.1 y4.2.2.1 y4.2.2.2.1 y4.2.2.2.2.1 y4.2.2.2.2.2.1 y4.2.2.2.2.2.2.1 y4.2.2.2.2.2.2.2.1 y4.2.2.2.2.2.2.2.2.1 y4.2.2.2.2.2.2.2.2.2.2.2.2.1 y4.2.2.2.2.2.2.2.2.2.2.2.2.2.2.1 y4.2.2.2.2.2.2.2.2.2.2.2.2.2.2.2.1
 y4.2.2.2.2.2.2.2.2.2.2.2.2.2.2.2.2.1 y4.2.2.2.2.2.2.2.2.2.2.2.2.2.2.2.2.2.1 y4.2.2.2.2.2.2.2.2.2.2.2.2.2.2.2.2.2.2 y4.2.2.2.2.2.2.2.2.2.1 y4.2.2.2.2.2.2.2.2.2.2.1 y4.2.2.2.2.2.2.2.2.2.2.2.1 y4.2.2.2.2.2.2.2.2.2.2.2.2.2.1 a21)) none) none)
 ((impl_planSearch_remove y1 a0).bind fun y5 => rc (i64.wrap (a1 + 1)) y5.1 y5.2.1 y5.2.2.1 y5.2.2.2.1 y5.2.2.2.2.1 y5.2.2.2.2.2.1 y5.2.2.2.2.2.2.1 y5.2.2.2.2.2.2.2.1 y5.2.2.2.2.2.2.2.2.1 y5.2.2.2.2.2.2.2.2.2.2.2.2.1
 y5.2.2.2.2.2.2.2.2.2.2.2.2.2.2.1 y5.2.2.2.2.2.2.2.2.2.2.2.2.2.2.2.1 y5.2.2.2.2.2.2.2.2.2.2.2.2.2.2.2.2.1 y5.2.2.2.2.2.2.2.2.2.2.2.2.2.2.2.2.2.1 y5.2.2.2.2.2.2.2.2.2.2.2.2.2.2.2.2.2.2 y5.2.2.2.2.2.2.2.2.2.1 y5.2.2.2.2.2.2.2.2.2.2.1
 y5.2.2.2.2.2.2.2.2.2.2.2.1 y5.2.2.2.2.2.2.2.2.2.2.2.2.2.1 a21)) (fin (a2, a3, a4, a5, a6, a7, a8, a9, a10, a11, a12, a13, a14, a15, a16, a17, a18, a19, a20, a21))
def impl_planSearch_children_l0 (a0 : Int) (a1 : Int) (a2 : LL) (a3 a4 : LI) (a5 a6 a7 a8 a9 a10 a11 a12 a13 a14 a15 : Int) (a16 : Bool) (a17 : LI) (a18 : LL) (a19 a20 a21 : LI) : Option (LL × LI × LI × Int × Int × Int × Int × Int × Int ×
 Int × Int × Int × Int × Int × Bool × LI × LL × LI × LI × LI) := lim (fun r (x : Int × LL × LI × LI × Int × Int × Int × Int × Int × Int × Int × Int × Int × Int × Int × Bool × LI × LL × LI × LI × LI) => impl_planSearch_children_l0K a0 (fun
 a1 a2 a3 a4 a5 a6 a7 a8 a9 a10 a11 a12 a13 a14 a15 a16 a17 a18 a19 a20 a21 => r (a1, a2, a3, a4, a5, a6, a7, a8, a9, a10, a11, a12, a13, a14, a15, a16, a17, a18, a19, a20, a21)) some x.1 x.2.1 x.2.2.1 x.2.2.2.1 x.2.2.2.2.1 x.2.2.2.2.2.1
 x.2.2.2.2.2.2.1 x.2.2.2.2.2.2.2.1 x.2.2.2.2.2.2.2.2.1 x.2.2.2.2.2.2.2.2.2.1 x.2.2.2.2.2.2.2.2.2.2.1 x.2.2.2.2.2.2.2.2.2.2.2.1 x.2.2.2.2.2.2.2.2.2.2.2.2.1 x.2.2.2.2.2.2.2.2.2.2.2.2.2.1 x.2.2.2.2.2.2.2.2.2.2.2.2.2.2.1
 x.2.2.2.2.2.2.2.2.2.2.2.2.2.2.2.1 x.2.2.2.2.2.2.2.2.2.2.2.2.2.2.2.2.1 x.2.2.2.2.2.2.2.2.2.2.2.2.2.2.2.2.2.1 x.2.2.2.2.2.2.2.2.2.2.2.2.2.2.2.2.2.2.1 x.2.2.2.2.2.2.2.2.2.2.2.2.2.2.2.2.2.2.2.1 x.2.2.2.2.2.2.2.2.2.2.2.2.2.2.2.2.2.2.2.2) (a1,
 a2, a3, a4, a5, a6, a7, a8, a9, a10, a11, a12, a13, a14, a15, a16, a17, a18, a19, a20, a21)
set_option maxHeartbeats 4000000 in
theorem impl_planSearch_children_l0_eq (a0 : Int) (a1 : Int) (a2 : LL) (a3 a4 : LI) (a5 a6 a7 a8 a9 a10 a11 a12 a13 a14 a15 : Int) (a16 : Bool) (a17 : LI) (a18 : LL) (a19 a20 a21 : LI) : impl_planSearch_children_l0 a0 a1 a2 a3 a4 a5 a6 a7
 a8 a9 a10 a11 a12 a13 a14 a15 a16 a17 a18 a19 a20 a21 = impl_planSearch_children_l0K a0 (impl_planSearch_children_l0 a0) some a1 a2 a3 a4 a5 a6 a7 a8 a9 a10 a11 a12 a13 a14 a15 a16 a17 a18 a19 a20 a21 := lim_eqI (fun x =>
 by unfold impl_planSearch_children_l0K; repeat' (first | constructor | intro _)) _
def L102a : Loop := mkM ⟨[0, 1, 5, 6], [.slot 0, .cell 0 9, .cell 0 10, .cell 0 11, .cell 0 13, .slot 5], [0], []⟩ s102a x102a fun (x : d102a) => impl_planSearch_children_l0 x.1.2.1 x.1.2.2.2.1 x.2.1.1 x.2.1.2.1 x.2.1.2.2.1 x.2.1.2.2.2.1
 x.2.1.2.2.2.2.1 x.2.1.2.2.2.2.2.1 x.2.1.2.2.2.2.2.2.1 x.2.1.2.2.2.2.2.2.2.1 x.2.1.2.2.2.2.2.2.2.2.1 x.2.1.2.2.2.2.2.2.2.2.2.2.2.2.1 x.2.1.2.2.2.2.2.2.2.2.2.2.2.2.2.2.1 x.2.1.2.2.2.2.2.2.2.2.2.2.2.2.2.2.2.1
 x.2.1.2.2.2.2.2.2.2.2.2.2.2.2.2.2.2.2.1 x.2.1.2.2.2.2.2.2.2.2.2.2.2.2.2.2.2.2.2.1 x.2.1.2.2.2.2.2.2.2.2.2.2.2.2.2.2.2.2.2.2.1 x.2.2.1 x.2.2.2.1 x.2.2.2.2.1 x.2.2.2.2.2.1 x.2.2.2.2.2.2.1
def impl_planSearch_childrenK {R : Type} (fin : LI × Q2 → Option R) (x0 : Q2) (x1 : Int) : Option R := (impl_planSearch_children_l0 x1 0 x0.1 x0.2.1 x0.2.2.1 x0.2.2.2.1 x0.2.2.2.2.1 x0.2.2.2.2.2.1 x0.2.2.2.2.2.2.1 x0.2.2.2.2.2.2.2.1
 x0.2.2.2.2.2.2.2.2.1 x0.2.2.2.2.2.2.2.2.2.2.2.2.1 x0.2.2.2.2.2.2.2.2.2.2.2.2.2.2.1 x0.2.2.2.2.2.2.2.2.2.2.2.2.2.2.2.1 x0.2.2.2.2.2.2.2.2.2.2.2.2.2.2.2.2.1 x0.2.2.2.2.2.2.2.2.2.2.2.2.2.2.2.2.2.1 x0.2.2.2.2.2.2.2.2.2.2.2.2.2.2.2.2.2.2
 x0.2.2.2.2.2.2.2.2.2.1 x0.2.2.2.2.2.2.2.2.2.2.1 x0.2.2.2.2.2.2.2.2.2.2.2.1 x0.2.2.2.2.2.2.2.2.2.2.2.2.2.1 []).bind fun y6 => cond (decide (y6.2.2.2.2.2.2.2.2.2.2.2.2.2.2.2.2.2.2.2.length + [(-1)].length ≤ 1099511627776)) ((some
 (y6.2.2.2.2.2.2.2.2.2.2.2.2.2.2.2.2.2.2.2 ++ [(-1)])).bind fun v7 => fin (v7, y6.1, y6.2.1, y6.2.2.1, y6.2.2.2.1, y6.2.2.2.2.1, y6.2.2.2.2.2.1, y6.2.2.2.2.2.2.1, y6.2.2.2.2.2.2.2.1, y6.2.2.2.2.2.2.2.2.1,
 y6.2.2.2.2.2.2.2.2.2.2.2.2.2.2.2.1, y6.2.2.2.2.2.2.2.2.2.2.2.2.2.2.2.2.1, y6.2.2.2.2.2.2.2.2.2.2.2.2.2.2.2.2.2.1, y6.2.2.2.2.2.2.2.2.2.1, y6.2.2.2.2.2.2.2.2.2.2.2.2.2.2.2.2.2.2.1, y6.2.2.2.2.2.2.2.2.2.2.1, y6.2.2.2.2.2.2.2.2.2.2.2.1,
 y6.2.2.2.2.2.2.2.2.2.2.2.2.1, y6.2.2.2.2.2.2.2.2.2.2.2.2.2.1, y6.2.2.2.2.2.2.2.2.2.2.2.2.2.2.1)) none
def impl_planSearch_children (x0 : Q2) (x1 : Int) : Option (LI × Q2) := impl_planSearch_childrenK some x0 x1
def or102 : Ora := { lo := addL 3 L102a lo0, fin := [] }
set_option maxHeartbeats 4000000 in
theorem o102a : LOk EL102 or102 Tryz.f102 0 L102a := loop_rnd (fun (x : d102a) => (x.1.2.2.2.1, x.2.1.1, x.2.1.2.1, x.2.1.2.2.1, x.2.1.2.2.2.1, x.2.1.2.2.2.2.1, x.2.1.2.2.2.2.2.1, x.2.1.2.2.2.2.2.2.1, x.2.1.2.2.2.2.2.2.2.1,
 x.2.1.2.2.2.2.2.2.2.2.1, x.2.1.2.2.2.2.2.2.2.2.2.2.2.2.1, x.2.1.2.2.2.2.2.2.2.2.2.2.2.2.2.2.1, x.2.1.2.2.2.2.2.2.2.2.2.2.2.2.2.2.2.1, x.2.1.2.2.2.2.2.2.2.2.2.2.2.2.2.2.2.2.1, x.2.1.2.2.2.2.2.2.2.2.2.2.2.2.2.2.2.2.2.1,
 x.2.1.2.2.2.2.2.2.2.2.2.2.2.2.2.2.2.2.2.2.1, x.2.2.1, x.2.2.2.1, x.2.2.2.2.1, x.2.2.2.2.2.1, x.2.2.2.2.2.2.1)) (fun (i : d102a) v => (((), i.1.2.1, (), v.1, ()), (v.2.1, v.2.2.1, v.2.2.2.1, v.2.2.2.2.1, v.2.2.2.2.2.1, v.2.2.2.2.2.2.1,
 v.2.2.2.2.2.2.2.1, v.2.2.2.2.2.2.2.2.1, v.2.2.2.2.2.2.2.2.2.1, (), (), (), v.2.2.2.2.2.2.2.2.2.2.1, (), v.2.2.2.2.2.2.2.2.2.2.2.1, v.2.2.2.2.2.2.2.2.2.2.2.2.1, v.2.2.2.2.2.2.2.2.2.2.2.2.2.1, v.2.2.2.2.2.2.2.2.2.2.2.2.2.2.1,
 v.2.2.2.2.2.2.2.2.2.2.2.2.2.2.2.1, ()), v.2.2.2.2.2.2.2.2.2.2.2.2.2.2.2.2.1, v.2.2.2.2.2.2.2.2.2.2.2.2.2.2.2.2.2.1, v.2.2.2.2.2.2.2.2.2.2.2.2.2.2.2.2.2.2.1, v.2.2.2.2.2.2.2.2.2.2.2.2.2.2.2.2.2.2.2.1,
 v.2.2.2.2.2.2.2.2.2.2.2.2.2.2.2.2.2.2.2.2, ())) (fun (i : d102a) _ rc fin v => impl_planSearch_children_l0K i.1.2.1 (fun a1 a2 a3 a4 a5 a6 a7 a8 a9 a10 a11 a12 a13 a14 a15 a16 a17 a18 a19 a20 a21 => rc (a1, a2, a3, a4, a5, a6, a7, a8, a9,
 a10, a11, a12, a13, a14, a15, a16, a17, a18, a19, a20, a21)) fin v.1 v.2.1 v.2.2.1 v.2.2.2.1 v.2.2.2.2.1 v.2.2.2.2.2.1 v.2.2.2.2.2.2.1 v.2.2.2.2.2.2.2.1 v.2.2.2.2.2.2.2.2.1 v.2.2.2.2.2.2.2.2.2.1 v.2.2.2.2.2.2.2.2.2.2.1
 v.2.2.2.2.2.2.2.2.2.2.2.1 v.2.2.2.2.2.2.2.2.2.2.2.2.1 v.2.2.2.2.2.2.2.2.2.2.2.2.2.1 v.2.2.2.2.2.2.2.2.2.2.2.2.2.2.1 v.2.2.2.2.2.2.2.2.2.2.2.2.2.2.2.1 v.2.2.2.2.2.2.2.2.2.2.2.2.2.2.2.2.1 v.2.2.2.2.2.2.2.2.2.2.2.2.2.2.2.2.2.1
 v.2.2.2.2.2.2.2.2.2.2.2.2.2.2.2.2.2.2.1 v.2.2.2.2.2.2.2.2.2.2.2.2.2.2.2.2.2.2.2.1 v.2.2.2.2.2.2.2.2.2.2.2.2.2.2.2.2.2.2.2.2) (fun _ => rfl) (fun _ => rfl) (fun i k v => by kernel_rfl) fun i _ rc _ _ hr v =>
 by unfold impl_planSearch_children_l0K; repeat' (first | exact .of (hr _) | constructor | intro _)
def c102 : Callee := mkC [.box [kM, kL, kL, kI, kI, kI, kI, kI, kI, .sl (.int .i64), .mat (.int .i64), .sl (.int .i64), kI, .sl (.int .i64), kI, kI, kI, kI, kB], rI] 1 [.one (.sl (.int .i64)), .box [kM, kL, kL, kI, kI, kI, kI, kI, kI, .sl
 (.int .i64), .mat (.int .i64), .sl (.int .i64), kI, .sl (.int .i64), kI, kI, kI, kI, kB]] fun x => impl_planSearch_children x.1 x.2
theorem k102 : Cal Tryz.prog 102 c102 := cal_mk (or := or102) Tryz.func102 (by kernel_rfl) (by kernel_rfl) mixed (EnvOk.nil |>.a k103 |>.a k126 |>.a k105 : EnvOk _ EL102) (LoOk.mk (by kernel_rfl) (all1 ⟨_, by kernel_rfl, o102a⟩)) (fun _
 fin x => impl_planSearch_childrenK fin x.1 x.2) (fun _ => rfl) (fun x => by kernel_rfl) fun x _ _ => by unfold impl_planSearch_childrenK; repeat' (first | constructor | intro _)
def EL104 : Nat → Option Callee := addE 100 c100 env0
def impl_scaledFactorK {R : Type} (fin : Int → Option R) (x0 : DJob) (x1 : Int) : Option R := cond (decide (x1 < 0)) (fin 0) ((impl_power x0.2.2.2.2.2.1 x1).bind fun y1 => (impl_power x0.2.2.2.2.2.2.1 (i64.wrap ((i64.wrap (x0.2.2.2.2.1 -
 1)) - x1))).bind fun y2 => fin (i64.wrap (y1 * y2)))
def impl_scaledFactor (x0 : DJob) (x1 : Int) : Option (Int) := impl_scaledFactorK some x0 x1
def c104 : Callee := mkC [.agg [.ro TJob], rI] 1 [rI] fun x => impl_scaledFactor x.1 x.2
theorem k104 : Cal Tryz.prog 104 c104 := cal_mk (or := or0) Tryz.func104 (by kernel_rfl) (by kernel_rfl) mixed (EnvOk.nil |>.a k100 : EnvOk _ EL104) (LoOk.nil (by kernel_rfl)) (fun _ fin x => impl_scaledFactorK fin x.1 x.2) (fun _ => rfl)
 (fun x => by kernel_rfl) fun x _ _ => by unfold impl_scaledFactorK; repeat' (first | constructor | intro _)
abbrev ps57 : List PK := [.box [kM, kL, kL, kI, kI, kI, kI, kI, kI, .sl (.int .i64), .mat (.int .i64), .sl (.int .i64), kI, .sl (.int .i64), kI, kI, kI, kI, kB], rI, rI]
abbrev rs57 : List PK := [.box [kM, kL, kL, kI, kI, kI, kI, kI, kI, .sl (.int .i64), .mat (.int .i64), .sl (.int .i64), kI, .sl (.int .i64), kI, kI, kI, kI, kB]]
abbrev S57 := (Q2 × Int × Int) → Option Q2
abbrev M57 (slf : S57) : Callee := mkC ps57 0 rs57 slf
def EL57 : Nat → Option Callee := addE 105 c105 (addE 104 c104 (addE 103 c103 (addE 102 c102 (addE 101 c101 env0))))
theorem vL57 : EnvOk Tryz.prog EL57 := ((((EnvOk.nil.a k101).a k102).a k103).a k104).a k105
def simpl_planSearch_visit_l0 : LS := ⟨[(0, oP 0 0), (1, oI), (2, oI), (80, oS 5), (81, oI), (82, oI)], [.box [dM, dL, dL, dI, dI, dI, dI, dI, dI, .fix (.sref 1), .fix (.sref 2), .fix (.sref 3), dI, .fix (.sref 4), dI, dI, dI, dI, dB], .sl
 (.int .i64), .mat (.int .i64), .sl (.int .i64), .sl (.int .i64), .sl (.int .i64)], [0]⟩
def simpl_planSearch_visit_l0x0 : LS := ⟨[(0, oP 0 0)], [.box [dM, dL, dL, dI, dI, dI, dI, dI, dI, .fix (.sref 1), .fix (.sref 2), .fix (.sref 3), dI, .fix (.sref 4), dI, dI, dI, dI, dB], .sl (.int .i64), .mat (.int .i64), .sl (.int .i64),
 .sl (.int .i64)], [0]⟩
def ximpl_planSearch_visit_l0 : List (XS Q25) := [⟨.exit 0, ⟨[0], [.slot 0, .cell 0 9, .cell 0 10, .cell 0 11, .cell 0 13], [0], []⟩, simpl_planSearch_visit_l0x0, LL × LI × LI × Int × Int × Int × Int × Int × Int × Int × Int × Int × Int ×
 Int × Bool × LI × LL × LI × LI, fun i y => (((), ()), (y.1, y.2.1, y.2.2.1, y.2.2.2.1, y.2.2.2.2.1, y.2.2.2.2.2.1, y.2.2.2.2.2.2.1, y.2.2.2.2.2.2.2.1, y.2.2.2.2.2.2.2.2.1, (), (), (), y.2.2.2.2.2.2.2.2.2.1, (), y.2.2.2.2.2.2.2.2.2.2.1,
 y.2.2.2.2.2.2.2.2.2.2.2.1, y.2.2.2.2.2.2.2.2.2.2.2.2.1, y.2.2.2.2.2.2.2.2.2.2.2.2.2.1, y.2.2.2.2.2.2.2.2.2.2.2.2.2.2.1, ()), y.2.2.2.2.2.2.2.2.2.2.2.2.2.2.2.1, y.2.2.2.2.2.2.2.2.2.2.2.2.2.2.2.2.1, y.2.2.2.2.2.2.2.2.2.2.2.2.2.2.2.2.2.1,
 y.2.2.2.2.2.2.2.2.2.2.2.2.2.2.2.2.2.2, ())⟩]
def impl_planSearch_visit_l0K {R : Type} (slf : S57) (a0 : Int) (a1 : Int) (a2 : Int) (a23 : LI) (rc : Int → LL → LI → LI → Int → Int → Int → Int → Int → Int → Int → Int → Int → Int → Int → Bool → LI → LL → LI → LI → Option R) (fin : LL ×
 LI × LI × Int × Int × Int × Int × Int × Int × Int × Int × Int × Int × Int × Bool × LI × LL × LI × LI → Option R) (a3 : Int) (a4 : LL) (a5 : LI) (a6 : LI) (a7 : Int) (a8 : Int) (a9 : Int) (a10 : Int) (a11 : Int) (a12 : Int) (a13 : Int)
 (a14 : Int) (a15 : Int) (a16 : Int) (a17 : Int) (a18 : Bool) (a19 : LI) (a20 : LL) (a21 : LI) (a22 : LI) : Option R := cond (decide (a3 < a2)) (cond (decide ((0 : Int) ≤ a3) && decide (a3 < (a23.length : Int))) ((impl_planSearch_put (a4,
 a5, a6, a7, a8, a9, a10, a11, a12, a19, a20, a21, a13, a22, a14, a15, a16, a17, a18) a0 (a23.getD (0 + a3.toNat) 0)).bind fun y1 => (lat y1.2.2.1 a0).bind fun e2 => (impl_scaledFactor (y1.1, y1.2.1, y1.2.2.1, (y1.2.2.2.1, y1.2.2.2.2.1,
 ()), y1.2.2.2.2.2.1, y1.2.2.2.2.2.2.1, y1.2.2.2.2.2.2.2.1, ()) (a23.getD (0 + a3.toNat) 0)).bind fun y3 => (slf (y1, i64.wrap (a0 + 1), i64.wrap (a1 + (i64.wrap (e2 * y3))))).bind fun y4 => (impl_planSearch_remove y4 a0).bind fun y5 => rc
 (i64.wrap (a3 + 1)) y5.1 y5.2.1 y5.2.2.1 y5.2.2.2.1 y5.2.2.2.2.1 y5.2.2.2.2.2.1 y5.2.2.2.2.2.2.1 y5.2.2.2.2.2.2.2.1 y5.2.2.2.2.2.2.2.2.1 y5.2.2.2.2.2.2.2.2.2.2.2.2.1 y5.2.2.2.2.2.2.2.2.2.2.2.2.2.2.1 y5.2.2.2.2.2.2.2.2.2.2.2.2.2.2.2.1
 y5.2.2.2.2.2.2.2.2.2.2.2.2.2.2.2.2.1 y5.2.2.2.2.2.2.2.2.2.2.2.2.2.2.2.2.2.1 y5.2.2.2.2.2.2.2.2.2.2.2.2.2.2.2.2.2.2 y5.2.2.2.2.2.2.2.2.2.1 y5.2.2.2.2.2.2.2.2.2.2.1 y5.2.2.2.2.2.2.2.2.2.2.2.1 y5.2.2.2.2.2.2.2.2.2.2.2.2.2.1) none) (fin (a4,
 a5, a6, a7, a8, a9, a10, a11, a12, a13, a14, a15, a16, a17, a18, a19, a20, a21, a22))
def impl_planSearch_visit_l0F (slf : S57) (a0 : Int) (a1 : Int) (a2 : Int) (a23 : LI) (r : Q0 → Option Q3) (x : Q0) : Option Q3 := impl_planSearch_visit_l0K slf a0 a1 a2 a23 (fun a3 a4 a5 a6 a7 a8 a9 a10 a11 a12 a13 a14 a15 a16 a17 a18 a19
 a20 a21 a22 => r (a3, a4, a5, a6, a7, a8, a9, a10, a11, a12, a13, a14, a15, a16, a17, a18, a19, a20, a21, a22)) some x.1 x.2.1 x.2.2.1 x.2.2.2.1 x.2.2.2.2.1 x.2.2.2.2.2.1 x.2.2.2.2.2.2.1 x.2.2.2.2.2.2.2.1 x.2.2.2.2.2.2.2.2.1
 x.2.2.2.2.2.2.2.2.2.1 x.2.2.2.2.2.2.2.2.2.2.1 x.2.2.2.2.2.2.2.2.2.2.2.1 x.2.2.2.2.2.2.2.2.2.2.2.2.1 x.2.2.2.2.2.2.2.2.2.2.2.2.2.1 x.2.2.2.2.2.2.2.2.2.2.2.2.2.2.1 x.2.2.2.2.2.2.2.2.2.2.2.2.2.2.2.1 x.2.2.2.2.2.2.2.2.2.2.2.2.2.2.2.2.1
 x.2.2.2.2.2.2.2.2.2.2.2.2.2.2.2.2.2.1 x.2.2.2.2.2.2.2.2.2.2.2.2.2.2.2.2.2.2.1 x.2.2.2.2.2.2.2.2.2.2.2.2.2.2.2.2.2.2.2
theorem impl_planSearch_visit_l0c (slf : S57) (a0 : Int) (a1 : Int) (a2 : Int) (a23 : LI) (x : Q0) : Ct fun r => impl_planSearch_visit_l0F slf a0 a1 a2 a23 r x :=
 by unfold impl_planSearch_visit_l0F impl_planSearch_visit_l0K; apply CtI.ok; repeat' (first | constructor | intro _)
theorem impl_planSearch_visit_l0d (a0 : Int) (a1 : Int) (a2 : Int) (a23 : LI) (D : Q0 → (S57) → Option Q3) (hD : ∀ a, Ct (D a)) (x : Q0) : Ct fun slf => impl_planSearch_visit_l0F slf a0 a1 a2 a23 (fun a => D a slf) x :=
 by unfold impl_planSearch_visit_l0F impl_planSearch_visit_l0K; apply CtI.ok; repeat' (first | exact .of (hD _) | constructor | intro _)
def impl_planSearch_visit_l0 (slf : S57) (a0 : Int) (a1 : Int) (a2 : Int) (a23 : LI) (a3 : Int) (a4 : LL) (a5 : LI) (a6 : LI) (a7 : Int) (a8 : Int) (a9 : Int) (a10 : Int) (a11 : Int) (a12 : Int) (a13 : Int) (a14 : Int) (a15 : Int) (a16 :
 Int) (a17 : Int) (a18 : Bool) (a19 : LI) (a20 : LL) (a21 : LI) (a22 : LI) : Option Q3 := lim (impl_planSearch_visit_l0F slf a0 a1 a2 a23) (a3, a4, a5, a6, a7, a8, a9, a10, a11, a12, a13, a14, a15, a16, a17, a18, a19, a20, a21, a22)
theorem impl_planSearch_visit_l0_eq (slf : S57) (a0 : Int) (a1 : Int) (a2 : Int) (a23 : LI) (a3 : Int) (a4 : LL) (a5 : LI) (a6 : LI) (a7 : Int) (a8 : Int) (a9 : Int) (a10 : Int) (a11 : Int) (a12 : Int) (a13 : Int) (a14 : Int) (a15 : Int)
 (a16 : Int) (a17 : Int) (a18 : Bool) (a19 : LI) (a20 : LL) (a21 : LI) (a22 : LI) : impl_planSearch_visit_l0 slf a0 a1 a2 a23 a3 a4 a5 a6 a7 a8 a9 a10 a11 a12 a13 a14 a15 a16 a17 a18 a19 a20 a21 a22 = impl_planSearch_visit_l0K slf a0 a1 a2
 a23 (impl_planSearch_visit_l0 slf a0 a1 a2 a23) some a3 a4 a5 a6 a7 a8 a9 a10 a11 a12 a13 a14 a15 a16 a17 a18 a19 a20 a21 a22 := lim_eq (impl_planSearch_visit_l0c slf a0 a1 a2 a23) (a3, a4, a5, a6, a7, a8, a9, a10, a11, a12, a13, a14,
 a15, a16, a17, a18, a19, a20, a21, a22)
theorem impl_planSearch_visit_l0s (a0 : Int) (a1 : Int) (a2 : Int) (a23 : LI) (x : Q0) : Ct fun slf => lim (impl_planSearch_visit_l0F slf a0 a1 a2 a23) x := Ct.lim (fun slf a => impl_planSearch_visit_l0c slf a0 a1 a2 a23 a)
 (impl_planSearch_visit_l0d a0 a1 a2 a23) x
theorem impl_planSearch_visit_l0p {R : Type} (slf : S57) (a0 : Int) (a1 : Int) (a2 : Int) (a23 : LI) {rc : Int → LL → LI → LI → Int → Int → Int → Int → Int → Int → Int → Int → Int → Int → Int → Bool → LI → LL → LI → LI → Option Q3} {rc' :
 Int → LL → LI → LI → Int → Int → Int → Int → Int → Int → Int → Int → Int → Int → Int → Bool → LI → LL → LI → LI → Option R} {fin : LL × LI × LI × Int × Int × Int × Int × Int × Int × Int × Int × Int × Int × Int × Bool × LI × LL × LI × LI →
 Option R} (hr : ∀ a3 a4 a5 a6 a7 a8 a9 a10 a11 a12 a13 a14 a15 a16 a17 a18 a19 a20 a21 a22, Par fin (rc a3 a4 a5 a6 a7 a8 a9 a10 a11 a12 a13 a14 a15 a16 a17 a18 a19 a20 a21 a22) (rc' a3 a4 a5 a6 a7 a8 a9 a10 a11 a12 a13 a14 a15 a16 a17
 a18 a19 a20 a21 a22)) (a3 : Int) (a4 : LL) (a5 : LI) (a6 : LI) (a7 : Int) (a8 : Int) (a9 : Int) (a10 : Int) (a11 : Int) (a12 : Int) (a13 : Int) (a14 : Int) (a15 : Int) (a16 : Int) (a17 : Int) (a18 : Bool) (a19 : LI) (a20 : LL) (a21 : LI)
 (a22 : LI) : Par fin (impl_planSearch_visit_l0K slf a0 a1 a2 a23 rc some a3 a4 a5 a6 a7 a8 a9 a10 a11 a12 a13 a14 a15 a16 a17 a18 a19 a20 a21 a22) (impl_planSearch_visit_l0K slf a0 a1 a2 a23 rc' fin a3 a4 a5 a6 a7 a8 a9 a10 a11 a12 a13
 a14 a15 a16 a17 a18 a19 a20 a21 a22) := by unfold impl_planSearch_visit_l0K; apply ParI.ok; repeat' (first | exact .of (hr _ _ _ _ _ _ _ _ _ _ _ _ _ _ _ _ _ _ _ _) | constructor | intro _)
def Limpl_planSearch_visit_l0 (slf : S57) : Loop := mkL ⟨[0, 1, 2, 80, 81, 82], [.slot 0, .cell 0 9, .cell 0 10, .cell 0 11, .cell 0 13, .slot 80], [0], []⟩ simpl_planSearch_visit_l0 ximpl_planSearch_visit_l0 (fun (x : Q9 × Q37) =>
 (x.1.2.1, x.1.2.2.1, x.1.2.2.2.2.1, x.2.2.2.2.2.2.1)) fun (x : Q9 × Q37) => impl_planSearch_visit_l0 slf x.1.2.1 x.1.2.2.1 x.1.2.2.2.2.1 x.2.2.2.2.2.2.1 x.1.2.2.2.2.2.1 x.2.1.1 x.2.1.2.1 x.2.1.2.2.1 x.2.1.2.2.2.1 x.2.1.2.2.2.2.1
 x.2.1.2.2.2.2.2.1 x.2.1.2.2.2.2.2.2.1 x.2.1.2.2.2.2.2.2.2.1 x.2.1.2.2.2.2.2.2.2.2.1 x.2.1.2.2.2.2.2.2.2.2.2.2.2.2.1 x.2.1.2.2.2.2.2.2.2.2.2.2.2.2.2.2.1 x.2.1.2.2.2.2.2.2.2.2.2.2.2.2.2.2.2.1 x.2.1.2.2.2.2.2.2.2.2.2.2.2.2.2.2.2.2.1
 x.2.1.2.2.2.2.2.2.2.2.2.2.2.2.2.2.2.2.2.1 x.2.1.2.2.2.2.2.2.2.2.2.2.2.2.2.2.2.2.2.2.1 x.2.2.1 x.2.2.2.1 x.2.2.2.2.1 x.2.2.2.2.2.1
def impl_planSearch_visitK {R : Type} (slf : S57) (fin : LL × LI × LI × Int × Int × Int × Int × Int × Int × LI × LL × LI × Int × LI × Int × Int × Int × Int × Bool → Option R) (x0 : Q2) (x1 : Int) (x2 : Int) : Option R := cond
 (x0.2.2.2.2.2.2.2.2.2.2.2.2.2.2.2.2.1 == x0.2.2.2.2.2.2.2.2.2.2.2.2.2.2.2.1) (cond (decide ((0 : Int) ≤ x1) && decide (x1 < (x0.2.2.2.2.2.2.2.2.2.2.2.1.length : Int))) ((some (i64.wrap (x2 + (x0.2.2.2.2.2.2.2.2.2.2.2.1.getD (0 + x1.toNat)
 0)))).bind fun v1 => fin (x0.1, x0.2.1, x0.2.2.1, x0.2.2.2.1, x0.2.2.2.2.1, x0.2.2.2.2.2.1, x0.2.2.2.2.2.2.1, x0.2.2.2.2.2.2.2.1, x0.2.2.2.2.2.2.2.2.1, x0.2.2.2.2.2.2.2.2.2.1, x0.2.2.2.2.2.2.2.2.2.2.1, x0.2.2.2.2.2.2.2.2.2.2.2.1,
 x0.2.2.2.2.2.2.2.2.2.2.2.2.1, x0.2.2.2.2.2.2.2.2.2.2.2.2.2.1, x0.2.2.2.2.2.2.2.2.2.2.2.2.2.2.1, x0.2.2.2.2.2.2.2.2.2.2.2.2.2.2.2.1, x0.2.2.2.2.2.2.2.2.2.2.2.2.2.2.2.2.1, if v1 > x0.2.2.2.2.2.2.2.2.2.2.2.2.2.2.2.2.2.1 then v1 else
 x0.2.2.2.2.2.2.2.2.2.2.2.2.2.2.2.2.2.1, true)) none) (cond (decide ((0 : Int) ≤ x1) && decide (x1 < (x0.2.2.2.2.2.2.2.2.2.2.2.1.length : Int))) ((some (i64.wrap (x2 + (x0.2.2.2.2.2.2.2.2.2.2.2.1.getD (0 + x1.toNat) 0)))).bind fun v2 =>
 cond (decide (v2 ≤ x0.2.2.2.2.2.2.2.2.2.2.2.2.2.2.1)) (fin (x0.1, x0.2.1, x0.2.2.1, x0.2.2.2.1, x0.2.2.2.2.1, x0.2.2.2.2.2.1, x0.2.2.2.2.2.2.1, x0.2.2.2.2.2.2.2.1, x0.2.2.2.2.2.2.2.2.1, x0.2.2.2.2.2.2.2.2.2.1, x0.2.2.2.2.2.2.2.2.2.2.1,
 x0.2.2.2.2.2.2.2.2.2.2.2.1, x0.2.2.2.2.2.2.2.2.2.2.2.2.1, x0.2.2.2.2.2.2.2.2.2.2.2.2.2.1, x0.2.2.2.2.2.2.2.2.2.2.2.2.2.2.1, x0.2.2.2.2.2.2.2.2.2.2.2.2.2.2.2.1, i64.wrap (x0.2.2.2.2.2.2.2.2.2.2.2.2.2.2.2.2.1 + 1),
 x0.2.2.2.2.2.2.2.2.2.2.2.2.2.2.2.2.2)) (cond (x1 == (x0.1.length : Int)) ((impl_copyPlan (x0.2.2.2.2.2.2.2.2.1, x0.2.2.2.2.2.2.2.2.2.1, ())).bind fun y3 => fin (x0.1, x0.2.1, x0.2.2.1, x0.2.2.2.1, x0.2.2.2.2.1, x0.2.2.2.2.2.1,
 x0.2.2.2.2.2.2.1, x0.2.2.2.2.2.2.2.1, x0.2.2.2.2.2.2.2.2.1, x0.2.2.2.2.2.2.2.2.2.1, x0.2.2.2.2.2.2.2.2.2.2.1, x0.2.2.2.2.2.2.2.2.2.2.2.1, y3.1, y3.2, x2, x0.2.2.2.2.2.2.2.2.2.2.2.2.2.2.2.1, i64.wrap (x0.2.2.2.2.2.2.2.2.2.2.2.2.2.2.2.2.1 +
 1), x0.2.2.2.2.2.2.2.2.2.2.2.2.2.2.2.2.2)) ((impl_planSearch_children (x0.1, x0.2.1, x0.2.2.1, x0.2.2.2.1, x0.2.2.2.2.1, x0.2.2.2.2.2.1, x0.2.2.2.2.2.2.1, x0.2.2.2.2.2.2.2.1, x0.2.2.2.2.2.2.2.2.1, x0.2.2.2.2.2.2.2.2.2.1,
 x0.2.2.2.2.2.2.2.2.2.2.1, x0.2.2.2.2.2.2.2.2.2.2.2.1, x0.2.2.2.2.2.2.2.2.2.2.2.2.1, x0.2.2.2.2.2.2.2.2.2.2.2.2.2.1, x0.2.2.2.2.2.2.2.2.2.2.2.2.2.2.1, x0.2.2.2.2.2.2.2.2.2.2.2.2.2.2.2.1, i64.wrap (x0.2.2.2.2.2.2.2.2.2.2.2.2.2.2.2.2.1 + 1),
 x0.2.2.2.2.2.2.2.2.2.2.2.2.2.2.2.2.2) x1).bind fun y4 => (impl_planSearch_visit_l0 slf x1 x2 (y4.1.length : Int) y4.1 0 y4.2.1 y4.2.2.1 y4.2.2.2.1 y4.2.2.2.2.1 y4.2.2.2.2.2.1 y4.2.2.2.2.2.2.1 y4.2.2.2.2.2.2.2.1 y4.2.2.2.2.2.2.2.2.1
 y4.2.2.2.2.2.2.2.2.2.1 y4.2.2.2.2.2.2.2.2.2.2.2.2.2.1 y4.2.2.2.2.2.2.2.2.2.2.2.2.2.2.2.1 y4.2.2.2.2.2.2.2.2.2.2.2.2.2.2.2.2.1 y4.2.2.2.2.2.2.2.2.2.2.2.2.2.2.2.2.2.1 y4.2.2.2.2.2.2.2.2.2.2.2.2.2.2.2.2.2.2.1
 y4.2.2.2.2.2.2.2.2.2.2.2.2.2.2.2.2.2.2.2 y4.2.2.2.2.2.2.2.2.2.2.1 y4.2.2.2.2.2.2.2.2.2.2.2.1 y4.2.2.2.2.2.2.2.2.2.2.2.2.1 y4.2.2.2.2.2.2.2.2.2.2.2.2.2.2.1).bind fun y10 => fin (y10.1, y10.2.1, y10.2.2.1, y10.2.2.2.1, y10.2.2.2.2.1,
 y10.2.2.2.2.2.1, y10.2.2.2.2.2.2.1, y10.2.2.2.2.2.2.2.1, y10.2.2.2.2.2.2.2.2.1, y10.2.2.2.2.2.2.2.2.2.2.2.2.2.2.2.1, y10.2.2.2.2.2.2.2.2.2.2.2.2.2.2.2.2.1, y10.2.2.2.2.2.2.2.2.2.2.2.2.2.2.2.2.2.1, y10.2.2.2.2.2.2.2.2.2.1,
 y10.2.2.2.2.2.2.2.2.2.2.2.2.2.2.2.2.2.2, y10.2.2.2.2.2.2.2.2.2.2.1, y10.2.2.2.2.2.2.2.2.2.2.2.1, y10.2.2.2.2.2.2.2.2.2.2.2.2.1, y10.2.2.2.2.2.2.2.2.2.2.2.2.2.1, y10.2.2.2.2.2.2.2.2.2.2.2.2.2.2.1)))) none)
def impl_planSearch_visitF (slf : S57) (x : Q2 × Int × Int) : Option Q2 := impl_planSearch_visitK slf some x.1 x.2.1 x.2.2
theorem impl_planSearch_visitc (x : Q2 × Int × Int) : Ct fun slf => impl_planSearch_visitF slf x := by unfold impl_planSearch_visitF impl_planSearch_visitK; apply CtI.ok; repeat' (first | exact .of (impl_planSearch_visit_l0s _ _ _ _ _) | constructor | intro _)
def impl_planSearch_visit (x0 : Q2) (x1 : Int) (x2 : Int) : Option Q2 := lim impl_planSearch_visitF (x0, x1, x2)
theorem impl_planSearch_visit_eq (x0 : Q2) (x1 : Int) (x2 : Int) : impl_planSearch_visit x0 x1 x2 = impl_planSearch_visitK (fun x => impl_planSearch_visit x.1 x.2.1 x.2.2) some x0 x1 x2 := lim_eq impl_planSearch_visitc (x0, x1, x2)
theorem p57 {R : Type} (slf : S57) (fin : LL × LI × LI × Int × Int × Int × Int × Int × Int × LI × LL × LI × Int × LI × Int × Int × Int × Int × Bool → Option R) (x0 : Q2) (x1 : Int) (x2 : Int) : Par fin (impl_planSearch_visitK slf some x0
 x1 x2) (impl_planSearch_visitK slf fin x0 x1 x2) := by unfold impl_planSearch_visitK; apply ParI.ok; repeat' (first | constructor | intro _)
def or57 (slf : S57) : Ora := { lo := addL 8 (Limpl_planSearch_visit_l0 slf) lo0, fin := [] }
theorem impl_planSearch_visit_l0e (slf : S57) (a0 : Int) (a1 : Int) (a2 : Int) (a23 : LI) (k : Nat) (a3 : Int) (a4 : LL) (a5 : LI) (a6 : LI) (a7 : Int) (a8 : Int) (a9 : Int) (a10 : Int) (a11 : Int) (a12 : Int) (a13 : Int) (a14 : Int) (a15
 : Int) (a16 : Int) (a17 : Int) (a18 : Bool) (a19 : LI) (a20 : LL) (a21 : LI) (a22 : LI) : loopC Tryz.prog (addE 57 (M57 slf) EL57) (or57 slf) ((loopsIn (codeOf Tryz.f57)).getD 0 .skip) (Limpl_planSearch_visit_l0 slf).h
 (Limpl_planSearch_visit_l0 slf).ho Tryz.f57.ntmps (k + 1) (simpl_planSearch_visit_l0.out (((), a0, a1, (), a2, a3, ()), (a4, a5, a6, a7, a8, a9, a10, a11, a12, (), (), (), a13, (), a14, a15, a16, a17, a18, ()), a19, a20, a21, a22, a23,
 ())) = impl_planSearch_visit_l0K slf a0 a1 a2 a23 (fun a3 a4 a5 a6 a7 a8 a9 a10 a11 a12 a13 a14 a15 a16 a17 a18 a19 a20 a21 a22 => loopC Tryz.prog (addE 57 (M57 slf) EL57) (or57 slf) ((loopsIn (codeOf Tryz.f57)).getD 0 .skip)
 (Limpl_planSearch_visit_l0 slf).h (Limpl_planSearch_visit_l0 slf).ho Tryz.f57.ntmps k (simpl_planSearch_visit_l0.out (((), a0, a1, (), a2, a3, ()), (a4, a5, a6, a7, a8, a9, a10, a11, a12, (), (), (), a13, (), a14, a15, a16, a17, a18, ()),
 a19, a20, a21, a22, a23, ()))) (fun y => some (XS.out ximpl_planSearch_visit_l0 (a0, a1, a2, a23) y)) a3 a4 a5 a6 a7 a8 a9 a10 a11 a12 a13 a14 a15 a16 a17 a18 a19 a20 a21 a22 := by kernel_rfl
theorem impl_planSearch_visit_l0o (slf : S57) : LoopOk Tryz.prog (addE 57 (M57 slf) EL57) (or57 slf) Tryz.f57.ntmps ((loopsIn (codeOf Tryz.f57)).getD 0 .skip) (Limpl_planSearch_visit_l0 slf) :=
  loop_lim (hs := simpl_planSearch_visit_l0) (xs := ximpl_planSearch_visit_l0) (ι := fun (x : Q9 × Q37) => (x.1.2.1, x.1.2.2.1, x.1.2.2.2.2.1, x.2.2.2.2.2.2.1)) (φ := fun (x : Q9 × Q37) => (x.1.2.2.2.2.2.1, x.2.1.1, x.2.1.2.1, x.2.1.2.2.1,
 x.2.1.2.2.2.1, x.2.1.2.2.2.2.1, x.2.1.2.2.2.2.2.1, x.2.1.2.2.2.2.2.2.1, x.2.1.2.2.2.2.2.2.2.1, x.2.1.2.2.2.2.2.2.2.2.1, x.2.1.2.2.2.2.2.2.2.2.2.2.2.2.1, x.2.1.2.2.2.2.2.2.2.2.2.2.2.2.2.2.1, x.2.1.2.2.2.2.2.2.2.2.2.2.2.2.2.2.2.1,
 x.2.1.2.2.2.2.2.2.2.2.2.2.2.2.2.2.2.2.1, x.2.1.2.2.2.2.2.2.2.2.2.2.2.2.2.2.2.2.2.1, x.2.1.2.2.2.2.2.2.2.2.2.2.2.2.2.2.2.2.2.2.1, x.2.2.1, x.2.2.2.1, x.2.2.2.2.1, x.2.2.2.2.2.1)) (ψ := fun (i : Q25) (v : Q0) => (((), i.1, i.2.1, (),
 i.2.2.1, v.1, ()), (v.2.1, v.2.2.1, v.2.2.2.1, v.2.2.2.2.1, v.2.2.2.2.2.1, v.2.2.2.2.2.2.1, v.2.2.2.2.2.2.2.1, v.2.2.2.2.2.2.2.2.1, v.2.2.2.2.2.2.2.2.2.1, (), (), (), v.2.2.2.2.2.2.2.2.2.2.1, (), v.2.2.2.2.2.2.2.2.2.2.2.1,
 v.2.2.2.2.2.2.2.2.2.2.2.2.1, v.2.2.2.2.2.2.2.2.2.2.2.2.2.1, v.2.2.2.2.2.2.2.2.2.2.2.2.2.2.1, v.2.2.2.2.2.2.2.2.2.2.2.2.2.2.2.1, ()), v.2.2.2.2.2.2.2.2.2.2.2.2.2.2.2.2.1, v.2.2.2.2.2.2.2.2.2.2.2.2.2.2.2.2.2.1,
 v.2.2.2.2.2.2.2.2.2.2.2.2.2.2.2.2.2.2.1, v.2.2.2.2.2.2.2.2.2.2.2.2.2.2.2.2.2.2.2, i.2.2.2, ())) (F := fun (i : Q25) => impl_planSearch_visit_l0F slf i.1 i.2.1 i.2.2.1 i.2.2.2) (fun _ => rfl) fun i k hk v => Par.of_eq
 (impl_planSearch_visit_l0e slf i.1 i.2.1 i.2.2.1 i.2.2.2 k v.1 v.2.1 v.2.2.1 v.2.2.2.1 v.2.2.2.2.1 v.2.2.2.2.2.1 v.2.2.2.2.2.2.1 v.2.2.2.2.2.2.2.1 v.2.2.2.2.2.2.2.2.1 v.2.2.2.2.2.2.2.2.2.1 v.2.2.2.2.2.2.2.2.2.2.1 v.2.2.2.2.2.2.2.2.2.2.2.1
 v.2.2.2.2.2.2.2.2.2.2.2.2.1 v.2.2.2.2.2.2.2.2.2.2.2.2.2.1 v.2.2.2.2.2.2.2.2.2.2.2.2.2.2.1 v.2.2.2.2.2.2.2.2.2.2.2.2.2.2.2.1 v.2.2.2.2.2.2.2.2.2.2.2.2.2.2.2.2.1 v.2.2.2.2.2.2.2.2.2.2.2.2.2.2.2.2.2.1 v.2.2.2.2.2.2.2.2.2.2.2.2.2.2.2.2.2.2.1
 v.2.2.2.2.2.2.2.2.2.2.2.2.2.2.2.2.2.2.2) (impl_planSearch_visit_l0p slf i.1 i.2.1 i.2.2.1 i.2.2.2 (fun a3 a4 a5 a6 a7 a8 a9 a10 a11 a12 a13 a14 a15 a16 a17 a18 a19 a20 a21 a22 => hk (a3, a4, a5, a6, a7, a8, a9, a10, a11, a12, a13, a14,
 a15, a16, a17, a18, a19, a20, a21, a22)) v.1 v.2.1 v.2.2.1 v.2.2.2.1 v.2.2.2.2.1 v.2.2.2.2.2.1 v.2.2.2.2.2.2.1 v.2.2.2.2.2.2.2.1 v.2.2.2.2.2.2.2.2.1 v.2.2.2.2.2.2.2.2.2.1 v.2.2.2.2.2.2.2.2.2.2.1 v.2.2.2.2.2.2.2.2.2.2.2.1
 v.2.2.2.2.2.2.2.2.2.2.2.2.1 v.2.2.2.2.2.2.2.2.2.2.2.2.2.1 v.2.2.2.2.2.2.2.2.2.2.2.2.2.2.1 v.2.2.2.2.2.2.2.2.2.2.2.2.2.2.2.1 v.2.2.2.2.2.2.2.2.2.2.2.2.2.2.2.2.1 v.2.2.2.2.2.2.2.2.2.2.2.2.2.2.2.2.2.1 v.2.2.2.2.2.2.2.2.2.2.2.2.2.2.2.2.2.2.1
 v.2.2.2.2.2.2.2.2.2.2.2.2.2.2.2.2.2.2.2)
def c57 : Callee := M57 fun x => impl_planSearch_visit x.1 x.2.1 x.2.2
theorem e57 (slf : S57) (x : PK.dens ps57) : evalFn Tryz.prog (addE 57 (M57 slf) EL57) (or57 slf) Tryz.f57 (PK.outs ps57 x) = impl_planSearch_visitK slf (fun y => some (tupOf ((PK.outs rs57 y).take 0), (PK.outs rs57 y).drop 0)) x.1 x.2.1
 x.2.2 := by kernel_rfl
theorem o57 (slf : S57) : LoOk Tryz.prog (addE 57 (M57 slf) EL57) (or57 slf) Tryz.f57.ntmps (loopsIn (codeOf Tryz.f57)) :=
  LoOk.mk (m := 1) (by kernel_rfl) fun i hi => match i, hi with
    | 0, _ => ⟨Limpl_planSearch_visit_l0 slf, by kernel_rfl, impl_planSearch_visit_l0o slf⟩
    | i + 1, hi => absurd hi (by omega)
theorem k57 : Cal Tryz.prog 57 c57 := ⟨⟨_, _, Tryz.func57, rfl, by kernel_rfl⟩, callee_rec (ps := ps57) (rs := rs57) (F := impl_planSearch_visitF) fun slf hs => callee_mk Tryz.func57 (code := codeOf Tryz.f57) (by kernel_rfl) (vL57.add
 Tryz.func57 rfl (by kernel_rfl) hs) mixed (o57 slf) fun x y h => (e57 slf x).trans (p57 slf _ x.1 x.2.1 x.2.2 y h)⟩
def EL20 : Nat → Option Callee := addE 57 c57 (addE 56 c56 (addE 55 c55 env0))
def impl_SearchPlanK {R : Type} (fin : Q34 × Int × Int × Bool → Option R) (x0 : DJob) (x1 : Int) : Option R := (impl_IsSearchable x0).bind fun y1 => cond (!y1) (fin ((0, []), 0, 0, false)) (cond (decide (x1 < 1)) (fin ((0, []), 0, 0,
 false)) (cond (decide (x1 > 20000)) (fin ((0, []), 0, 0, false)) ((impl_newSearch x0 x1).bind fun y2 => (impl_planSearch_visit y2 0 0).bind fun y3 => fin ((y3.2.2.2.2.2.2.2.2.2.2.2.2.1, y3.2.2.2.2.2.2.2.2.2.2.2.2.2.1),
 y3.2.2.2.2.2.2.2.2.2.2.2.2.2.2.1, if y3.2.2.2.2.2.2.2.2.2.2.2.2.2.2.2.2.2.1 > y3.2.2.2.2.2.2.2.2.2.2.2.2.2.2.1 then y3.2.2.2.2.2.2.2.2.2.2.2.2.2.2.2.2.2.1 else y3.2.2.2.2.2.2.2.2.2.2.2.2.2.2.1, true))))
def impl_SearchPlan (x0 : DJob) (x1 : Int) : Option (Q34 × Int × Int × Bool) := impl_SearchPlanK some x0 x1
def or20 : Ora := { lo := lo0, fin := [.own (.cell 4 1) (.int .i64)] }
def c20 : Callee := mkC [.agg [.ro TJob], rI] 4 [.agg [kI, .sl (.int .i64)], rI, rI, rB] fun x => impl_SearchPlan x.1 x.2
theorem k20 : Cal Tryz.prog 20 c20 := cal_mk (or := or20) Tryz.func20 (by kernel_rfl) (by kernel_rfl) mixed (EnvOk.nil |>.a k55 |>.a k56 |>.a k57 : EnvOk _ EL20) (LoOk.nil (by kernel_rfl)) (fun _ fin x => impl_SearchPlanK fin x.1 x.2) (fun
 _ => rfl) (fun x => by kernel_rfl) fun x _ _ => by unfold impl_SearchPlanK; repeat' (first | constructor | intro _)
def EL58 : Nat → Option Callee := addE 106 c106 env0
def spec_srGoodK {R : Type} (fin : Bool → Option R) (x0 : DJob) : Option R := (spec_plJob x0).bind fun y1 => cond (y1) (cond (decide ((x0.1.length : Int) ≤ 12)) (fin (decide (x0.2.2.2.2.1 ≤ 3))) (fin false)) (fin false)
def spec_srGood (x0 : DJob) : Option (Bool) := spec_srGoodK some x0
def c58 : Callee := mkC [.agg [.ro TJob]] 1 [rB] fun x => spec_srGood x
theorem k58 : Cal Tryz.prog 58 c58 := cal_mk (or := or0) Tryz.func58 (by kernel_rfl) (by kernel_rfl) mixed (EnvOk.nil |>.a k106 : EnvOk _ EL58) (LoOk.nil (by kernel_rfl)) (fun _ fin x => spec_srGoodK fin x) (fun _ => rfl) (fun x =>
 by kernel_rfl) fun x _ _ => by unfold spec_srGoodK; repeat' (first | constructor | intro _)
def EL148 : Nat → Option Callee := env0
abbrev d148a := Q27 × (U)
def s148a : LS := ⟨[(0, oI), (1, oI), (5, oI)], [], []⟩
def x148a : List (XS d148a) := [⟨.exit 0, ⟨[5], [], [], []⟩, ⟨[(5, oI)], [], []⟩, Int, fun i y => ((y, ()), ())⟩]
def spec_srPower_l0K {R : Type} (a0 : Int) (rc : Int → Int → Option R) (fin : Int → Option R) (a1 a2 : Int) : Option R := cond (decide (a1 > 0)) (rc (i64.wrap (a1 - 1)) (i64.wrap (a2 * a0))) (fin a2)
def spec_srPower_l0 (a0 : Int) (a1 a2 : Int) : Option (Int) := lim (fun r (x : Q32) => spec_srPower_l0K a0 (fun a1 a2 => r (a1, a2)) some x.1 x.2) (a1, a2)
theorem spec_srPower_l0_eq (a0 : Int) (a1 a2 : Int) : spec_srPower_l0 a0 a1 a2 = spec_srPower_l0K a0 (spec_srPower_l0 a0) some a1 a2 := lim_eqI (fun x => by unfold spec_srPower_l0K; repeat' (first | constructor | intro _)) _
def L148a : Loop := mkM ⟨[0, 1, 5], [], [], []⟩ s148a x148a fun (x : d148a) => spec_srPower_l0 x.1.1 x.1.2.1 x.1.2.2.1
def spec_srPowerK {R : Type} (fin : Int → Option R) (x0 x1 : Int) : Option R := (spec_srPower_l0 x0 x1 1).bind fun y1 => fin y1
def spec_srPower (x0 x1 : Int) : Option (Int) := spec_srPowerK some x0 x1
def or148 : Ora := { lo := addL 2 L148a lo0, fin := [] }
theorem o148a : LOk EL148 or148 Tryz.f148 0 L148a := loop_rnd (fun (x : d148a) => (x.1.2.1, x.1.2.2.1)) (fun (i : d148a) v => ((i.1.1, v.1, v.2, ()), ())) (fun (i : d148a) _ rc fin v => spec_srPower_l0K i.1.1 (fun a1 a2 => rc (a1, a2)) fin
 v.1 v.2) (fun _ => rfl) (fun _ => rfl) (fun i k v => by kernel_rfl) fun i _ rc _ _ hr v => by unfold spec_srPower_l0K; repeat' (first | exact .of (hr _) | constructor | intro _)
def c148 : Callee := mkC [rI, rI] 1 [rI] fun x => spec_srPower x.1 x.2
theorem k148 : Cal Tryz.prog 148 c148 := cal_mk (or := or148) Tryz.func148 (by kernel_rfl) (by kernel_rfl) mixed (EnvOk.nil : EnvOk _ EL148) (LoOk.mk (by kernel_rfl) (all1 ⟨_, by kernel_rfl, o148a⟩)) (fun _ fin x => spec_srPowerK fin x.1
 x.2) (fun _ => rfl) (fun x => by kernel_rfl) fun x _ _ => by unfold spec_srPowerK; repeat' (first | constructor | intro _)
def EL158 : Nat → Option Callee := addE 148 c148 env0
def spec_srFactorK {R : Type} (fin : Int → Option R) (x0 : DJob) (x1 : Int) : Option R := (spec_srPower x0.2.2.2.2.2.1 x1).bind fun y1 => (spec_srPower x0.2.2.2.2.2.2.1 (i64.wrap ((i64.wrap (x0.2.2.2.2.1 - 1)) - x1))).bind fun y2 => fin
 (i64.wrap (y1 * y2))
def spec_srFactor (x0 : DJob) (x1 : Int) : Option (Int) := spec_srFactorK some x0 x1
def c158 : Callee := mkC [.agg [.ro TJob], rI] 1 [rI] fun x => spec_srFactor x.1 x.2
theorem k158 : Cal Tryz.prog 158 c158 := cal_mk (or := or0) Tryz.func158 (by kernel_rfl) (by kernel_rfl) mixed (EnvOk.nil |>.a k148 : EnvOk _ EL158) (LoOk.nil (by kernel_rfl)) (fun _ fin x => spec_srFactorK fin x.1 x.2) (fun _ => rfl) (fun
 x => by kernel_rfl) fun x _ _ => by unfold spec_srFactorK; repeat' (first | constructor | intro _)
def EL147 : Nat → Option Callee := addE 158 c158 env0
abbrev d147a := (U × Int × LI × Int × Int × U) × (Q7 × U)
def s147a : LS := ⟨[(2, oP 0 0), (5, oI), (8, oL), (9, oI), (10, oI)], [.box [dM, dL, dL, dI, dI, dI, dI, dI]], []⟩
def x147a : List (XS d147a) := [⟨.exit 0, ⟨[5], [], [], []⟩, ⟨[(5, oI)], [], []⟩, Int, fun i y => ((y, ()), ())⟩]
def spec_srWorth_l0K {R : Type} (a1 : LI) (a2 : Int) (a4 : LL) (a5 a6 : LI) (a7 a8 a9 a10 a11 : Int) (rc : Int → Int → Option R) (fin : Int → Option R) (a0 a3 : Int) : Option R := cond (decide (a3 < a2)) ((lat a1 a3).bind fun e1 => cond
 (decide (e1 ≥ 0)) ((lat a6 a3).bind fun e2 => (spec_srFactor (a4, a5, a6, (a7, a8, ()), a9, a10, a11, ()) e1).bind fun y3 => rc (i64.wrap (a0 + (i64.wrap (e2 * y3)))) (i64.wrap (a3 + 1))) (rc a0 (i64.wrap (a3 + 1)))) (fin a0)
def spec_srWorth_l0 (a1 : LI) (a2 : Int) (a4 : LL) (a5 a6 : LI) (a7 a8 a9 a10 a11 : Int) (a0 a3 : Int) : Option (Int) := lim (fun r (x : Q32) => spec_srWorth_l0K a1 a2 a4 a5 a6 a7 a8 a9 a10 a11 (fun a0 a3 => r (a0, a3)) some x.1 x.2) (a0,
 a3)
theorem spec_srWorth_l0_eq (a1 : LI) (a2 : Int) (a4 : LL) (a5 a6 : LI) (a7 a8 a9 a10 a11 : Int) (a0 a3 : Int) : spec_srWorth_l0 a1 a2 a4 a5 a6 a7 a8 a9 a10 a11 a0 a3 = spec_srWorth_l0K a1 a2 a4 a5 a6 a7 a8 a9 a10 a11 (spec_srWorth_l0 a1 a2
 a4 a5 a6 a7 a8 a9 a10 a11) some a0 a3 := lim_eqI (fun x => by unfold spec_srWorth_l0K; repeat' (first | constructor | intro _)) _
def L147a : Loop := mkM ⟨[2, 5, 8, 9, 10], [.slot 2], [], []⟩ s147a x147a fun (x : d147a) => spec_srWorth_l0 x.1.2.2.1 x.1.2.2.2.1 x.2.1.1 x.2.1.2.1 x.2.1.2.2.1 x.2.1.2.2.2.1 x.2.1.2.2.2.2.1 x.2.1.2.2.2.2.2.1 x.2.1.2.2.2.2.2.2.1
 x.2.1.2.2.2.2.2.2.2.1 x.1.2.1 x.1.2.2.2.2.1
def spec_srWorthK {R : Type} (fin : Int → Option R) (x0 : DJob) (x1 : LI) : Option R := (spec_srWorth_l0 x1 (x1.length : Int) x0.1 x0.2.1 x0.2.2.1 x0.2.2.2.1.1 x0.2.2.2.1.2.1 x0.2.2.2.2.1 x0.2.2.2.2.2.1 x0.2.2.2.2.2.2.1 0 0).bind fun y4 =>
 fin y4
def spec_srWorth (x0 : DJob) (x1 : LI) : Option (Int) := spec_srWorthK some x0 x1
def or147 : Ora := { lo := addL 3 L147a lo0, fin := [] }
theorem o147a : LOk EL147 or147 Tryz.f147 0 L147a := loop_rnd (fun (x : d147a) => (x.1.2.1, x.1.2.2.2.2.1)) (fun (i : d147a) v => (((), v.1, i.1.2.2.1, i.1.2.2.2.1, v.2, ()), (i.2.1.1, i.2.1.2.1, i.2.1.2.2.1, i.2.1.2.2.2.1,
 i.2.1.2.2.2.2.1, i.2.1.2.2.2.2.2.1, i.2.1.2.2.2.2.2.2.1, i.2.1.2.2.2.2.2.2.2.1, ()), ())) (fun (i : d147a) _ rc fin v => spec_srWorth_l0K i.1.2.2.1 i.1.2.2.2.1 i.2.1.1 i.2.1.2.1 i.2.1.2.2.1 i.2.1.2.2.2.1 i.2.1.2.2.2.2.1 i.2.1.2.2.2.2.2.1
 i.2.1.2.2.2.2.2.2.1 i.2.1.2.2.2.2.2.2.2.1 (fun a0 a3 => rc (a0, a3)) fin v.1 v.2) (fun _ => rfl) (fun _ => rfl) (fun i k v => by kernel_rfl) fun i _ rc _ _ hr v =>
 by unfold spec_srWorth_l0K; repeat' (first | exact .of (hr _) | constructor | intro _)
def c147 : Callee := mkC [.agg [.ro TJob], rL] 1 [rI] fun x => spec_srWorth x.1 x.2
theorem k147 : Cal Tryz.prog 147 c147 := cal_mk (or := or147) Tryz.func147 (by kernel_rfl) (by kernel_rfl) mixed (EnvOk.nil |>.a k158 : EnvOk _ EL147) (LoOk.mk (by kernel_rfl) (all1 ⟨_, by kernel_rfl, o147a⟩)) (fun _ fin x => spec_srWorthK
 fin x.1 x.2) (fun _ => rfl) (fun x => by kernel_rfl) fun x _ _ => by unfold spec_srWorthK; repeat' (first | constructor | intro _)
def EL127 : Nat → Option Callee := addE 148 c148 (addE 61 c61 (addE 147 c147 env0))
abbrev d127a := (U × Int × LI × Int × Int × U) × (Q7 × U)
def s127a : LS := ⟨[(2, oP 0 0), (5, oI), (15, oL), (16, oI), (17, oI)], [.box [dM, dL, dL, dI, dI, dI, dI, dI]], []⟩
def x127a : List (XS d127a) := [⟨.exit 0, ⟨[5], [], [], []⟩, ⟨[(5, oI)], [], []⟩, Int, fun i y => ((y, ()), ())⟩]
def spec_srBound_l0K {R : Type} (a1 : LI) (a2 a9 a11 : Int) (rc : Int → Int → Option R) (fin : Int → Option R) (a0 a3 : Int) : Option R := cond (decide (a3 < a2)) ((lat a1 a3).bind fun e1 => (spec_l1Most e1 0).bind fun y2 => (spec_srPower
 a11 (i64.wrap (a9 - 1))).bind fun y3 => rc (i64.wrap (a0 + (i64.wrap (y2 * y3)))) (i64.wrap (a3 + 1))) (fin a0)
def spec_srBound_l0 (a1 : LI) (a2 a9 a11 : Int) (a0 a3 : Int) : Option (Int) := lim (fun r (x : Q32) => spec_srBound_l0K a1 a2 a9 a11 (fun a0 a3 => r (a0, a3)) some x.1 x.2) (a0, a3)
theorem spec_srBound_l0_eq (a1 : LI) (a2 a9 a11 : Int) (a0 a3 : Int) : spec_srBound_l0 a1 a2 a9 a11 a0 a3 = spec_srBound_l0K a1 a2 a9 a11 (spec_srBound_l0 a1 a2 a9 a11) some a0 a3 := lim_eqI (fun x =>
 by unfold spec_srBound_l0K; repeat' (first | constructor | intro _)) _
def L127a : Loop := mkM ⟨[2, 5, 15, 16, 17], [.slot 2], [], []⟩ s127a x127a fun (x : d127a) => spec_srBound_l0 x.1.2.2.1 x.1.2.2.2.1 x.2.1.2.2.2.2.2.1 x.2.1.2.2.2.2.2.2.2.1 x.1.2.1 x.1.2.2.2.2.1
def spec_srBoundK {R : Type} (fin : Int → Option R) (x0 : DJob) (x1 : LI) : Option R := (spec_srWorth x0 x1).bind fun y1 => cond (decide ((0 : Int) ≤ (x1.length : Int)) && (decide ((x1.length : Int) ≤ (x0.2.2.1.length : Int)) && decide
 ((x0.2.2.1.length : Int) ≤ (x0.2.2.1.length : Int)))) ((spec_srBound_l0 ((x0.2.2.1.drop ((x1.length : Int).toNat)).take ((x0.2.2.1.length : Int).toNat - (x1.length : Int).toNat)) (((x0.2.2.1.drop ((x1.length : Int).toNat)).take
 ((x0.2.2.1.length : Int).toNat - (x1.length : Int).toNat)).length : Int) x0.2.2.2.2.1 x0.2.2.2.2.2.2.1 y1 0).bind fun y5 => fin y5) none
def spec_srBound (x0 : DJob) (x1 : LI) : Option (Int) := spec_srBoundK some x0 x1
def or127 : Ora := { lo := addL 3 L127a lo0, fin := [] }
theorem o127a : LOk EL127 or127 Tryz.f127 0 L127a := loop_rnd (fun (x : d127a) => (x.1.2.1, x.1.2.2.2.2.1)) (fun (i : d127a) v => (((), v.1, i.1.2.2.1, i.1.2.2.2.1, v.2, ()), (i.2.1.1, i.2.1.2.1, i.2.1.2.2.1, i.2.1.2.2.2.1,
 i.2.1.2.2.2.2.1, i.2.1.2.2.2.2.2.1, i.2.1.2.2.2.2.2.2.1, i.2.1.2.2.2.2.2.2.2.1, ()), ())) (fun (i : d127a) _ rc fin v => spec_srBound_l0K i.1.2.2.1 i.1.2.2.2.1 i.2.1.2.2.2.2.2.1 i.2.1.2.2.2.2.2.2.2.1 (fun a0 a3 => rc (a0, a3)) fin v.1
 v.2) (fun _ => rfl) (fun _ => rfl) (fun i k v => by kernel_rfl) fun i _ rc _ _ hr v => by unfold spec_srBound_l0K; repeat' (first | exact .of (hr _) | constructor | intro _)
def c127 : Callee := mkC [.agg [.ro TJob], rL] 1 [rI] fun x => spec_srBound x.1 x.2
theorem k127 : Cal Tryz.prog 127 c127 := cal_mk (or := or127) Tryz.func127 (by kernel_rfl) (by kernel_rfl) mixed (EnvOk.nil |>.a k147 |>.a k61 |>.a k148 : EnvOk _ EL127) (LoOk.mk (by kernel_rfl) (all1 ⟨_, by kernel_rfl, o127a⟩)) (fun _ fin
 x => spec_srBoundK fin x.1 x.2) (fun _ => rfl) (fun x => by kernel_rfl) fun x _ _ => by unfold spec_srBoundK; repeat' (first | constructor | intro _)
def EL60 : Nat → Option Callee := env0
def spec_l1OwnK {R : Type} (fin : LI → Option R) (x0 : LI) : Option R := cond (decide (([] : LI).length + x0.length ≤ 1099511627776)) (fin (([] : LI) ++ x0)) none
def spec_l1Own (x0 : LI) : Option (LI) := spec_l1OwnK some x0
def c60 : Callee := mkC [rL] 1 [.one (.sl (.int .i64))] fun x => spec_l1Own x
theorem k60 : Cal Tryz.prog 60 c60 := cal_mk (or := or0) Tryz.func60 (by kernel_rfl) (by kernel_rfl) mixed (EnvOk.nil : EnvOk _ EL60) (LoOk.nil (by kernel_rfl)) (fun _ fin x => spec_l1OwnK fin x) (fun _ => rfl) (fun x => by kernel_rfl) fun
 x _ _ => by unfold spec_l1OwnK; repeat' (first | constructor | intro _)
def EL149 : Nat → Option Callee := addE 40 c40 env0
abbrev d149a := (LI × U × Int × LI × Int × Int × U) × (Q7 × U)
def s149a : LS := ⟨[(1, oL), (2, oP 0 0), (6, oI), (26, oL), (27, oI), (28, oI)], [.box [dM, dL, dL, dI, dI, dI, dI, dI]], []⟩
def x149a : List (XS d149a) := [⟨.ret, ⟨[4], [], [], []⟩, ⟨[(4, oB)], [], []⟩, Bool, fun i y => ((y, ()), ())⟩, ⟨.exit 0, ⟨[1, 2, 6], [.slot 2], [], []⟩, ⟨[(1, oL), (2, oP 0 0), (6, oI)], [.box [dM, dL, dL, dI, dI, dI, dI, dI]], []⟩, U,
 fun i y => ((i.1.1, (), i.1.2.2.1, ()), (i.2.1.1, i.2.1.2.1, i.2.1.2.2.1, i.2.1.2.2.2.1, i.2.1.2.2.2.2.1, i.2.1.2.2.2.2.2.1, i.2.1.2.2.2.2.2.2.1, i.2.1.2.2.2.2.2.2.2.1, ()), ())⟩]
def spec_srFits_l0K {R : Type} (a0 : LI) (a1 : Int) (a2 : LI) (a3 : Int) (rc : Int → Option R) (fin : Q33 → Option R) (a4 : Int) : Option R := cond (decide (a4 < a3)) ((lat a2 a4).bind fun e1 => (lat a0 e1).bind fun e2 => (spec_l1In e2 0
 a1).bind fun y3 => cond (!y3) (fin (.inl false)) (rc (i64.wrap (a4 + 1)))) (fin (.inr ()))
def spec_srFits_l0 (a0 : LI) (a1 : Int) (a2 : LI) (a3 : Int) (a4 : Int) : Option Q33 := lim (fun r (x : Int) => spec_srFits_l0K a0 a1 a2 a3 (fun a4 => r a4) some x) a4
theorem spec_srFits_l0_eq (a0 : LI) (a1 : Int) (a2 : LI) (a3 : Int) (a4 : Int) : spec_srFits_l0 a0 a1 a2 a3 a4 = spec_srFits_l0K a0 a1 a2 a3 (spec_srFits_l0 a0 a1 a2 a3) some a4 := lim_eqI (fun x =>
 by unfold spec_srFits_l0K; repeat' (first | constructor | intro _)) _
def L149a : Loop := mkM ⟨[1, 2, 6, 26, 27, 28], [.slot 2], [], []⟩ s149a x149a fun (x : d149a) => spec_srFits_l0 x.1.1 x.1.2.2.1 x.1.2.2.2.1 x.1.2.2.2.2.1 x.1.2.2.2.2.2.1
abbrev d149b := (U × Int × Int × Int × LI × Int × Int × U) × (Q7 × U)
def s149b : LS := ⟨[(2, oP 0 0), (6, oI), (9, oI), (10, oI), (40, oL), (41, oI), (42, oI)], [.box [dM, dL, dL, dI, dI, dI, dI, dI]], []⟩
def x149b : List (XS d149b) := [⟨.exit 2, ⟨[2, 9, 10], [.slot 2], [], []⟩, ⟨[(2, oP 0 0), (9, oI), (10, oI)], [.box [dM, dL, dL, dI, dI, dI, dI, dI]], []⟩, Int × Int, fun i y => (((), y.1, y.2, ()), (i.2.1.1, i.2.1.2.1, i.2.1.2.2.1,
 i.2.1.2.2.2.1, i.2.1.2.2.2.2.1, i.2.1.2.2.2.2.2.1, i.2.1.2.2.2.2.2.2.1, i.2.1.2.2.2.2.2.2.2.1, ()), ())⟩]
def spec_srFits_l1K {R : Type} (a0 : Int) (a3 : LI) (a4 : Int) (a7 a8 : LI) (rc : Int → Int → Int → Option R) (fin : Int × Int → Option R) (a1 a2 a5 : Int) : Option R := cond (decide (a5 < a4)) ((lat a3 a5).bind fun e1 => cond (e1 == a0)
 ((lat a7 a5).bind fun e2 => (lat a8 a5).bind fun e3 => cond (decide (e3 > 0)) ((lat a7 a5).bind fun e4 => rc (i64.wrap (a1 + e2)) (i64.wrap (a2 + e4)) (i64.wrap (a5 + 1))) (rc (i64.wrap (a1 + e2)) a2 (i64.wrap (a5 + 1)))) (rc a1 a2
 (i64.wrap (a5 + 1)))) (fin (a1, a2))
def spec_srFits_l1 (a0 : Int) (a3 : LI) (a4 : Int) (a7 a8 : LI) (a1 a2 a5 : Int) : Option Q32 := lim (fun r (x : Int × Int × Int) => spec_srFits_l1K a0 a3 a4 a7 a8 (fun a1 a2 a5 => r (a1, a2, a5)) some x.1 x.2.1 x.2.2) (a1, a2, a5)
theorem spec_srFits_l1_eq (a0 : Int) (a3 : LI) (a4 : Int) (a7 a8 : LI) (a1 a2 a5 : Int) : spec_srFits_l1 a0 a3 a4 a7 a8 a1 a2 a5 = spec_srFits_l1K a0 a3 a4 a7 a8 (spec_srFits_l1 a0 a3 a4 a7 a8) some a1 a2 a5 := lim_eqI (fun x =>
 by unfold spec_srFits_l1K; repeat' (first | constructor | intro _)) _
def L149b : Loop := mkM ⟨[2, 6, 9, 10, 40, 41, 42], [.slot 2], [], []⟩ s149b x149b fun (x : d149b) => spec_srFits_l1 x.1.2.1 x.1.2.2.2.2.1 x.1.2.2.2.2.2.1 x.2.1.2.1 x.2.1.2.2.1 x.1.2.2.1 x.1.2.2.2.1 x.1.2.2.2.2.2.2.1
def spec_srFitsK {R : Type} (fin : Bool → Option R) (x0 : DJob) (x1 : LI) : Option R := (lat x1 (i64.wrap ((x1.length : Int) - 1))).bind fun e1 => cond (decide (e1 < 0)) (fin true) ((lat x0.1 (i64.wrap ((x1.length : Int) - 1))).bind fun e2
 => (spec_srFits_l0 x1 e1 e2 (e2.length : Int) 0).bind fun y6 => sumO y6 (fun y7 => fin y7) (fun y8 => (spec_srFits_l1 e1 x1 (x1.length : Int) x0.2.1 x0.2.2.1 0 0 0).bind fun y13 => cond (decide (y13.1 ≤ x0.2.2.2.1.1)) (fin (decide (y13.2
 ≤ x0.2.2.2.1.2.1))) (fin false)))
def spec_srFits (x0 : DJob) (x1 : LI) : Option (Bool) := spec_srFitsK some x0 x1
def or149 : Ora := { lo := addL 13 L149b (addL 6 L149a lo0), fin := [] }
theorem o149a : LOk EL149 or149 Tryz.f149 0 L149a := loop_rnd (fun (x : d149a) => x.1.2.2.2.2.2.1) (fun (i : d149a) v => ((i.1.1, (), i.1.2.2.1, i.1.2.2.2.1, i.1.2.2.2.2.1, v, ()), (i.2.1.1, i.2.1.2.1, i.2.1.2.2.1, i.2.1.2.2.2.1,
 i.2.1.2.2.2.2.1, i.2.1.2.2.2.2.2.1, i.2.1.2.2.2.2.2.2.1, i.2.1.2.2.2.2.2.2.2.1, ()), ())) (fun (i : d149a) _ rc fin v => spec_srFits_l0K i.1.1 i.1.2.2.1 i.1.2.2.2.1 i.1.2.2.2.2.1 (fun a4 => rc a4) fin v) (fun _ => rfl) (fun _ => rfl) (fun
 i k v => by kernel_rfl) fun i _ rc _ _ hr v => by unfold spec_srFits_l0K; repeat' (first | exact .of (hr _) | constructor | intro _)
theorem o149b : LOk EL149 or149 Tryz.f149 1 L149b := loop_rnd (fun (x : d149b) => (x.1.2.2.1, x.1.2.2.2.1, x.1.2.2.2.2.2.2.1)) (fun (i : d149b) v => (((), i.1.2.1, v.1, v.2.1, i.1.2.2.2.2.1, i.1.2.2.2.2.2.1, v.2.2, ()), (i.2.1.1,
 i.2.1.2.1, i.2.1.2.2.1, i.2.1.2.2.2.1, i.2.1.2.2.2.2.1, i.2.1.2.2.2.2.2.1, i.2.1.2.2.2.2.2.2.1, i.2.1.2.2.2.2.2.2.2.1, ()), ())) (fun (i : d149b) _ rc fin v => spec_srFits_l1K i.1.2.1 i.1.2.2.2.2.1 i.1.2.2.2.2.2.1 i.2.1.2.1 i.2.1.2.2.1
 (fun a1 a2 a5 => rc (a1, a2, a5)) fin v.1 v.2.1 v.2.2) (fun _ => rfl) (fun _ => rfl) (fun i k v => by kernel_rfl) fun i _ rc _ _ hr v => by unfold spec_srFits_l1K; repeat' (first | exact .of (hr _) | constructor | intro _)
def c149 : Callee := mkC [.agg [.ro TJob], rL] 1 [rB] fun x => spec_srFits x.1 x.2
theorem k149 : Cal Tryz.prog 149 c149 := cal_mk (or := or149) Tryz.func149 (by kernel_rfl) (by kernel_rfl) mixed (EnvOk.nil |>.a k40 : EnvOk _ EL149) (LoOk.mk (by kernel_rfl) (all2 ⟨_, by kernel_rfl, o149a⟩ ⟨_, by kernel_rfl, o149b⟩)) (fun
 _ fin x => spec_srFitsK fin x.1 x.2) (fun _ => rfl) (fun x => by kernel_rfl) fun x _ _ => by unfold spec_srFitsK; repeat' (first | constructor | intro _)
def EL128 : Nat → Option Callee := addE 149 c149 (addE 60 c60 env0)
abbrev d128a := (LI × U × U × Int × U) × (Q7 × LL × U)
def s128a : LS := ⟨[(1, oL), (2, oP 0 0), (5, oS 1), (6, oI)], [.box [dM, dL, dL, dI, dI, dI, dI, dI], .mat (.int .i64)], []⟩
def x128a : List (XS d128a) := [⟨.exit 0, ⟨[5], [.slot 5], [], []⟩, ⟨[(5, oS 0)], [.mat (.int .i64)], []⟩, LL, fun i y => (((), ()), y, ())⟩]
def spec_srKids_l0K {R : Type} (a0 : LI) (a2 : LL) (a3 a4 : LI) (a5 a6 a7 a8 a9 : Int) (rc : Int → LL → Option R) (fin : LL → Option R) (a1 : Int) (a10 : LL) : Option R := cond (decide (a1 ≤ a7)) (cond (a1 == a7) ((spec_l1Own a0).bind fun
 y1 => cond (decide (y1.length + [(-1)].length ≤ 1099511627776)) ((some (y1 ++ [(-1)])).bind fun v2 => (spec_srFits (a2, a3, a4, (a5, a6, ()), a7, a8, a9, ()) v2).bind fun y3 => cond (y3) (cond (decide (a10.length + [v2].length ≤
 1099511627776)) (rc (i64.wrap (a1 + 1)) (a10 ++ [v2])) none) (rc (i64.wrap (a1 + 1)) a10)) none) ((spec_l1Own a0).bind fun y4 => cond (decide (y4.length + [a1].length ≤ 1099511627776)) ((spec_srFits (a2, a3, a4, (a5, a6, ()), a7, a8, a9,
 ()) (y4 ++ [a1])).bind fun y5 => cond (y5) (cond (decide (a10.length + [y4 ++ [a1]].length ≤ 1099511627776)) ((some (a10 ++ [y4 ++ [a1]])).bind fun v6 => rc (i64.wrap (a1 + 1)) v6) none) (rc (i64.wrap (a1 + 1)) a10)) none)) (fin a10)
def spec_srKids_l0 (a0 : LI) (a2 : LL) (a3 a4 : LI) (a5 a6 a7 a8 a9 : Int) (a1 : Int) (a10 : LL) : Option (LL) := lim (fun r (x : Q35) => spec_srKids_l0K a0 a2 a3 a4 a5 a6 a7 a8 a9 (fun a1 a10 => r (a1, a10)) some x.1 x.2) (a1, a10)
theorem spec_srKids_l0_eq (a0 : LI) (a2 : LL) (a3 a4 : LI) (a5 a6 a7 a8 a9 : Int) (a1 : Int) (a10 : LL) : spec_srKids_l0 a0 a2 a3 a4 a5 a6 a7 a8 a9 a1 a10 = spec_srKids_l0K a0 a2 a3 a4 a5 a6 a7 a8 a9 (spec_srKids_l0 a0 a2 a3 a4 a5 a6 a7 a8
 a9) some a1 a10 := lim_eqI (fun x => by unfold spec_srKids_l0K; repeat' (first | constructor | intro _)) _
def L128a : Loop := mkM ⟨[1, 2, 5, 6], [.slot 2, .slot 5], [], [.ownm (.slot 5) (.int .i64)]⟩ s128a x128a fun (x : d128a) => spec_srKids_l0 x.1.1 x.2.1.1 x.2.1.2.1 x.2.1.2.2.1 x.2.1.2.2.2.1 x.2.1.2.2.2.2.1 x.2.1.2.2.2.2.2.1
 x.2.1.2.2.2.2.2.2.1 x.2.1.2.2.2.2.2.2.2.1 x.1.2.2.2.1 x.2.2.1
def spec_srKidsK {R : Type} (fin : LL → Option R) (x0 : DJob) (x1 : LI) : Option R := (spec_srKids_l0 x1 x0.1 x0.2.1 x0.2.2.1 x0.2.2.2.1.1 x0.2.2.2.1.2.1 x0.2.2.2.2.1 x0.2.2.2.2.2.1 x0.2.2.2.2.2.2.1 0 []).bind fun y12 => fin y12
def spec_srKids (x0 : DJob) (x1 : LI) : Option (LL) := spec_srKidsK some x0 x1
def or128 : Ora := { lo := addL 3 L128a lo0, fin := [] }
theorem o128a : LOk EL128 or128 Tryz.f128 0 L128a := loop_rnd (fun (x : d128a) => (x.1.2.2.2.1, x.2.2.1)) (fun (i : d128a) v => ((i.1.1, (), (), v.1, ()), (i.2.1.1, i.2.1.2.1, i.2.1.2.2.1, i.2.1.2.2.2.1, i.2.1.2.2.2.2.1, i.2.1.2.2.2.2.2.1,
 i.2.1.2.2.2.2.2.2.1, i.2.1.2.2.2.2.2.2.2.1, ()), v.2, ())) (fun (i : d128a) _ rc fin v => spec_srKids_l0K i.1.1 i.2.1.1 i.2.1.2.1 i.2.1.2.2.1 i.2.1.2.2.2.1 i.2.1.2.2.2.2.1 i.2.1.2.2.2.2.2.1 i.2.1.2.2.2.2.2.2.1 i.2.1.2.2.2.2.2.2.2.1 (fun
 a1 a10 => rc (a1, a10)) fin v.1 v.2) (fun _ => rfl) (fun _ => rfl) (fun i k v => by kernel_rfl) fun i _ rc _ _ hr v => by unfold spec_srKids_l0K; repeat' (first | exact .of (hr _) | constructor | intro _)
def c128 : Callee := mkC [.agg [.ro TJob], rL] 1 [.one (.mat (.int .i64))] fun x => spec_srKids x.1 x.2
theorem k128 : Cal Tryz.prog 128 c128 := cal_mk (or := or128) Tryz.func128 (by kernel_rfl) (by kernel_rfl) mixed (EnvOk.nil |>.a k60 |>.a k149 : EnvOk _ EL128) (LoOk.mk (by kernel_rfl) (all1 ⟨_, by kernel_rfl, o128a⟩)) (fun _ fin x =>
 spec_srKidsK fin x.1 x.2) (fun _ => rfl) (fun x => by kernel_rfl) fun x _ _ => by unfold spec_srKidsK; repeat' (first | constructor | intro _)
abbrev ps107 : List PK := [.box [kM, kL, kL, kI, kI, kI, kI, kI, kI, kL, kI, kI, kI], rL]
abbrev rs107 : List PK := [.box [kM, kL, kL, kI, kI, kI, kI, kI, kI, kL, kI, kI, kI]]
abbrev S107 := (Q6 × LI) → Option Q6
abbrev M107 (slf : S107) : Callee := mkC ps107 0 rs107 slf
def EL107 : Nat → Option Callee := addE 128 c128 (addE 61 c61 (addE 127 c127 env0))
theorem vL107 : EnvOk Tryz.prog EL107 := ((EnvOk.nil.a k127).a k61).a k128
def sspec_srState_visit_l0 : LS := ⟨[(0, oP 0 0), (66, oM), (67, oI), (68, oI)], [.box [dM, dL, dL, dI, dI, dI, dI, dI, dI, dL, dI, dI, dI]], [0]⟩
def sspec_srState_visit_l0x0 : LS := ⟨[(0, oP 0 0)], [.box [dM, dL, dL, dI, dI, dI, dI, dI, dI, dL, dI, dI, dI]], [0]⟩
def xspec_srState_visit_l0 : List (XS (LL × Int)) := [⟨.exit 0, ⟨[0], [.slot 0], [0], []⟩, sspec_srState_visit_l0x0, LL × LI × LI × Int × Int × Int × Int × Int × Int × LI × Int × Int × Int, fun i y => (((), ()), (y.1, y.2.1, y.2.2.1,
 y.2.2.2.1, y.2.2.2.2.1, y.2.2.2.2.2.1, y.2.2.2.2.2.2.1, y.2.2.2.2.2.2.2.1, y.2.2.2.2.2.2.2.2.1, y.2.2.2.2.2.2.2.2.2.1, y.2.2.2.2.2.2.2.2.2.2.1, y.2.2.2.2.2.2.2.2.2.2.2.1, y.2.2.2.2.2.2.2.2.2.2.2.2, ()), ())⟩]
def spec_srState_visit_l0K {R : Type} (slf : S107) (a0 : LL) (a1 : Int) (rc : Int → LL → LI → LI → Int → Int → Int → Int → Int → Int → LI → Int → Int → Int → Option R) (fin : LL × LI × LI × Int × Int × Int × Int × Int × Int × LI × Int ×
 Int × Int → Option R) (a2 : Int) (a3 : LL) (a4 : LI) (a5 : LI) (a6 : Int) (a7 : Int) (a8 : Int) (a9 : Int) (a10 : Int) (a11 : Int) (a12 : LI) (a13 : Int) (a14 : Int) (a15 : Int) : Option R := cond (decide (a2 < a1)) ((lat a0 a2).bind fun
 e1 => (slf ((a3, a4, a5, a6, a7, a8, a9, a10, a11, a12, a13, a14, a15), e1)).bind fun y2 => rc (i64.wrap (a2 + 1)) y2.1 y2.2.1 y2.2.2.1 y2.2.2.2.1 y2.2.2.2.2.1 y2.2.2.2.2.2.1 y2.2.2.2.2.2.2.1 y2.2.2.2.2.2.2.2.1 y2.2.2.2.2.2.2.2.2.1
 y2.2.2.2.2.2.2.2.2.2.1 y2.2.2.2.2.2.2.2.2.2.2.1 y2.2.2.2.2.2.2.2.2.2.2.2.1 y2.2.2.2.2.2.2.2.2.2.2.2.2) (fin (a3, a4, a5, a6, a7, a8, a9, a10, a11, a12, a13, a14, a15))
def spec_srState_visit_l0F (slf : S107) (a0 : LL) (a1 : Int) (r : Q4 → Option Q6) (x : Q4) : Option Q6 := spec_srState_visit_l0K slf a0 a1 (fun a2 a3 a4 a5 a6 a7 a8 a9 a10 a11 a12 a13 a14 a15 => r (a2, a3, a4, a5, a6, a7, a8, a9, a10, a11,
 a12, a13, a14, a15)) some x.1 x.2.1 x.2.2.1 x.2.2.2.1 x.2.2.2.2.1 x.2.2.2.2.2.1 x.2.2.2.2.2.2.1 x.2.2.2.2.2.2.2.1 x.2.2.2.2.2.2.2.2.1 x.2.2.2.2.2.2.2.2.2.1 x.2.2.2.2.2.2.2.2.2.2.1 x.2.2.2.2.2.2.2.2.2.2.2.1 x.2.2.2.2.2.2.2.2.2.2.2.2.1
 x.2.2.2.2.2.2.2.2.2.2.2.2.2
theorem spec_srState_visit_l0c (slf : S107) (a0 : LL) (a1 : Int) (x : Q4) : Ct fun r => spec_srState_visit_l0F slf a0 a1 r x := by unfold spec_srState_visit_l0F spec_srState_visit_l0K; apply CtI.ok; repeat' (first | constructor | intro _)
theorem spec_srState_visit_l0d (a0 : LL) (a1 : Int) (D : Q4 → (S107) → Option Q6) (hD : ∀ a, Ct (D a)) (x : Q4) : Ct fun slf => spec_srState_visit_l0F slf a0 a1 (fun a => D a slf) x :=
 by unfold spec_srState_visit_l0F spec_srState_visit_l0K; apply CtI.ok; repeat' (first | exact .of (hD _) | constructor | intro _)
def spec_srState_visit_l0 (slf : S107) (a0 : LL) (a1 : Int) (a2 : Int) (a3 : LL) (a4 : LI) (a5 : LI) (a6 : Int) (a7 : Int) (a8 : Int) (a9 : Int) (a10 : Int) (a11 : Int) (a12 : LI) (a13 : Int) (a14 : Int) (a15 : Int) : Option Q6 := lim
 (spec_srState_visit_l0F slf a0 a1) (a2, a3, a4, a5, a6, a7, a8, a9, a10, a11, a12, a13, a14, a15)
theorem spec_srState_visit_l0_eq (slf : S107) (a0 : LL) (a1 : Int) (a2 : Int) (a3 : LL) (a4 : LI) (a5 : LI) (a6 : Int) (a7 : Int) (a8 : Int) (a9 : Int) (a10 : Int) (a11 : Int) (a12 : LI) (a13 : Int) (a14 : Int) (a15 : Int) :
 spec_srState_visit_l0 slf a0 a1 a2 a3 a4 a5 a6 a7 a8 a9 a10 a11 a12 a13 a14 a15 = spec_srState_visit_l0K slf a0 a1 (spec_srState_visit_l0 slf a0 a1) some a2 a3 a4 a5 a6 a7 a8 a9 a10 a11 a12 a13 a14 a15 := lim_eq (spec_srState_visit_l0c
 slf a0 a1) (a2, a3, a4, a5, a6, a7, a8, a9, a10, a11, a12, a13, a14, a15)
theorem spec_srState_visit_l0s (a0 : LL) (a1 : Int) (x : Q4) : Ct fun slf => lim (spec_srState_visit_l0F slf a0 a1) x := Ct.lim (fun slf a => spec_srState_visit_l0c slf a0 a1 a) (spec_srState_visit_l0d a0 a1) x
theorem spec_srState_visit_l0p {R : Type} (slf : S107) (a0 : LL) (a1 : Int) {rc : Int → LL → LI → LI → Int → Int → Int → Int → Int → Int → LI → Int → Int → Int → Option Q6} {rc' : Int → LL → LI → LI → Int → Int → Int → Int → Int → Int → LI
 → Int → Int → Int → Option R} {fin : LL × LI × LI × Int × Int × Int × Int × Int × Int × LI × Int × Int × Int → Option R} (hr : ∀ a2 a3 a4 a5 a6 a7 a8 a9 a10 a11 a12 a13 a14 a15, Par fin (rc a2 a3 a4 a5 a6 a7 a8 a9 a10 a11 a12 a13 a14 a15)
 (rc' a2 a3 a4 a5 a6 a7 a8 a9 a10 a11 a12 a13 a14 a15)) (a2 : Int) (a3 : LL) (a4 : LI) (a5 : LI) (a6 : Int) (a7 : Int) (a8 : Int) (a9 : Int) (a10 : Int) (a11 : Int) (a12 : LI) (a13 : Int) (a14 : Int) (a15 : Int) : Par fin
 (spec_srState_visit_l0K slf a0 a1 rc some a2 a3 a4 a5 a6 a7 a8 a9 a10 a11 a12 a13 a14 a15) (spec_srState_visit_l0K slf a0 a1 rc' fin a2 a3 a4 a5 a6 a7 a8 a9 a10 a11 a12 a13 a14 a15) :=
 by unfold spec_srState_visit_l0K; apply ParI.ok; repeat' (first | exact .of (hr _ _ _ _ _ _ _ _ _ _ _ _ _ _) | constructor | intro _)
def Lspec_srState_visit_l0 (slf : S107) : Loop := mkL ⟨[0, 66, 67, 68], [.slot 0], [0], [.frz (.slot 66)]⟩ sspec_srState_visit_l0 xspec_srState_visit_l0 (fun (x : Q22 × (Q5 × U)) => (x.1.2.1, x.1.2.2.1)) fun (x : Q22 × (Q5 × U)) =>
 spec_srState_visit_l0 slf x.1.2.1 x.1.2.2.1 x.1.2.2.2.1 x.2.1.1 x.2.1.2.1 x.2.1.2.2.1 x.2.1.2.2.2.1 x.2.1.2.2.2.2.1 x.2.1.2.2.2.2.2.1 x.2.1.2.2.2.2.2.2.1 x.2.1.2.2.2.2.2.2.2.1 x.2.1.2.2.2.2.2.2.2.2.1 x.2.1.2.2.2.2.2.2.2.2.2.1
 x.2.1.2.2.2.2.2.2.2.2.2.2.1 x.2.1.2.2.2.2.2.2.2.2.2.2.2.1 x.2.1.2.2.2.2.2.2.2.2.2.2.2.2.1
def spec_srState_visitK {R : Type} (slf : S107) (fin : LL × LI × LI × Int × Int × Int × Int × Int × Int × LI × Int × Int × Int → Option R) (x0 : Q6) (x1 : LI) : Option R := (spec_srBound (x0.1, x0.2.1, x0.2.2.1, (x0.2.2.2.1, x0.2.2.2.2.1,
 ()), x0.2.2.2.2.2.1, x0.2.2.2.2.2.2.1, x0.2.2.2.2.2.2.2.1, ()) x1).bind fun y1 => cond (x0.2.2.2.2.2.2.2.2.2.2.2.2 == x0.2.2.2.2.2.2.2.2.1) ((spec_l1Most x0.2.2.2.2.2.2.2.2.2.2.2.1 y1).bind fun y2 => fin (x0.1, x0.2.1, x0.2.2.1,
 x0.2.2.2.1, x0.2.2.2.2.1, x0.2.2.2.2.2.1, x0.2.2.2.2.2.2.1, x0.2.2.2.2.2.2.2.1, x0.2.2.2.2.2.2.2.2.1, x0.2.2.2.2.2.2.2.2.2.1, x0.2.2.2.2.2.2.2.2.2.2.1, y2, x0.2.2.2.2.2.2.2.2.2.2.2.2)) (cond (decide (y1 ≤ x0.2.2.2.2.2.2.2.2.2.2.1)) (fin
 (x0.1, x0.2.1, x0.2.2.1, x0.2.2.2.1, x0.2.2.2.2.1, x0.2.2.2.2.2.1, x0.2.2.2.2.2.2.1, x0.2.2.2.2.2.2.2.1, x0.2.2.2.2.2.2.2.2.1, x0.2.2.2.2.2.2.2.2.2.1, x0.2.2.2.2.2.2.2.2.2.2.1, x0.2.2.2.2.2.2.2.2.2.2.2.1, i64.wrap
 (x0.2.2.2.2.2.2.2.2.2.2.2.2 + 1))) (cond ((x1.length : Int) == (x0.1.length : Int)) (fin (x0.1, x0.2.1, x0.2.2.1, x0.2.2.2.1, x0.2.2.2.2.1, x0.2.2.2.2.2.1, x0.2.2.2.2.2.2.1, x0.2.2.2.2.2.2.2.1, x0.2.2.2.2.2.2.2.2.1, x1, y1,
 x0.2.2.2.2.2.2.2.2.2.2.2.1, i64.wrap (x0.2.2.2.2.2.2.2.2.2.2.2.2 + 1))) ((spec_srKids (x0.1, x0.2.1, x0.2.2.1, (x0.2.2.2.1, x0.2.2.2.2.1, ()), x0.2.2.2.2.2.1, x0.2.2.2.2.2.2.1, x0.2.2.2.2.2.2.2.1, ()) x1).bind fun y3 =>
 (spec_srState_visit_l0 slf y3 (y3.length : Int) 0 x0.1 x0.2.1 x0.2.2.1 x0.2.2.2.1 x0.2.2.2.2.1 x0.2.2.2.2.2.1 x0.2.2.2.2.2.2.1 x0.2.2.2.2.2.2.2.1 x0.2.2.2.2.2.2.2.2.1 x0.2.2.2.2.2.2.2.2.2.1 x0.2.2.2.2.2.2.2.2.2.2.1
 x0.2.2.2.2.2.2.2.2.2.2.2.1 (i64.wrap (x0.2.2.2.2.2.2.2.2.2.2.2.2 + 1))).bind fun y7 => fin y7)))
def spec_srState_visitF (slf : S107) (x : Q6 × LI) : Option Q6 := spec_srState_visitK slf some x.1 x.2
theorem spec_srState_visitc (x : Q6 × LI) : Ct fun slf => spec_srState_visitF slf x := by unfold spec_srState_visitF spec_srState_visitK; apply CtI.ok; repeat' (first | exact .of (spec_srState_visit_l0s _ _ _) | constructor | intro _)
def spec_srState_visit (x0 : Q6) (x1 : LI) : Option Q6 := lim spec_srState_visitF (x0, x1)
theorem spec_srState_visit_eq (x0 : Q6) (x1 : LI) : spec_srState_visit x0 x1 = spec_srState_visitK (fun x => spec_srState_visit x.1 x.2) some x0 x1 := lim_eq spec_srState_visitc (x0, x1)
theorem p107 {R : Type} (slf : S107) (fin : LL × LI × LI × Int × Int × Int × Int × Int × Int × LI × Int × Int × Int → Option R) (x0 : Q6) (x1 : LI) : Par fin (spec_srState_visitK slf some x0 x1) (spec_srState_visitK slf fin x0 x1) :=
 by unfold spec_srState_visitK; apply ParI.ok; repeat' (first | constructor | intro _)
def or107 (slf : S107) : Ora := { lo := addL 9 (Lspec_srState_visit_l0 slf) lo0, fin := [] }
theorem spec_srState_visit_l0e (slf : S107) (a0 : LL) (a1 : Int) (k : Nat) (a2 : Int) (a3 : LL) (a4 : LI) (a5 : LI) (a6 : Int) (a7 : Int) (a8 : Int) (a9 : Int) (a10 : Int) (a11 : Int) (a12 : LI) (a13 : Int) (a14 : Int) (a15 : Int) : loopC
 Tryz.prog (addE 107 (M107 slf) EL107) (or107 slf) ((loopsIn (codeOf Tryz.f107)).getD 0 .skip) (Lspec_srState_visit_l0 slf).h (Lspec_srState_visit_l0 slf).ho Tryz.f107.ntmps (k + 1) (sspec_srState_visit_l0.out (((), a0, a1, a2, ()), (a3,
 a4, a5, a6, a7, a8, a9, a10, a11, a12, a13, a14, a15, ()), ())) = spec_srState_visit_l0K slf a0 a1 (fun a2 a3 a4 a5 a6 a7 a8 a9 a10 a11 a12 a13 a14 a15 => loopC Tryz.prog (addE 107 (M107 slf) EL107) (or107 slf) ((loopsIn (codeOf
 Tryz.f107)).getD 0 .skip) (Lspec_srState_visit_l0 slf).h (Lspec_srState_visit_l0 slf).ho Tryz.f107.ntmps k (sspec_srState_visit_l0.out (((), a0, a1, a2, ()), (a3, a4, a5, a6, a7, a8, a9, a10, a11, a12, a13, a14, a15, ()), ()))) (fun y =>
 some (XS.out xspec_srState_visit_l0 (a0, a1) y)) a2 a3 a4 a5 a6 a7 a8 a9 a10 a11 a12 a13 a14 a15 := by kernel_rfl
theorem spec_srState_visit_l0o (slf : S107) : LoopOk Tryz.prog (addE 107 (M107 slf) EL107) (or107 slf) Tryz.f107.ntmps ((loopsIn (codeOf Tryz.f107)).getD 0 .skip) (Lspec_srState_visit_l0 slf) :=
  loop_lim (hs := sspec_srState_visit_l0) (xs := xspec_srState_visit_l0) (ι := fun (x : Q22 × (Q5 × U)) => (x.1.2.1, x.1.2.2.1)) (φ := fun (x : Q22 × (Q5 × U)) => (x.1.2.2.2.1, x.2.1.1, x.2.1.2.1, x.2.1.2.2.1, x.2.1.2.2.2.1,
 x.2.1.2.2.2.2.1, x.2.1.2.2.2.2.2.1, x.2.1.2.2.2.2.2.2.1, x.2.1.2.2.2.2.2.2.2.1, x.2.1.2.2.2.2.2.2.2.2.1, x.2.1.2.2.2.2.2.2.2.2.2.1, x.2.1.2.2.2.2.2.2.2.2.2.2.1, x.2.1.2.2.2.2.2.2.2.2.2.2.2.1, x.2.1.2.2.2.2.2.2.2.2.2.2.2.2.1)) (ψ := fun (i
 : LL × Int) (v : Q4) => (((), i.1, i.2, v.1, ()), (v.2.1, v.2.2.1, v.2.2.2.1, v.2.2.2.2.1, v.2.2.2.2.2.1, v.2.2.2.2.2.2.1, v.2.2.2.2.2.2.2.1, v.2.2.2.2.2.2.2.2.1, v.2.2.2.2.2.2.2.2.2.1, v.2.2.2.2.2.2.2.2.2.2.1, v.2.2.2.2.2.2.2.2.2.2.2.1,
 v.2.2.2.2.2.2.2.2.2.2.2.2.1, v.2.2.2.2.2.2.2.2.2.2.2.2.2, ()), ())) (F := fun (i : LL × Int) => spec_srState_visit_l0F slf i.1 i.2) (fun _ => rfl) fun i k hk v => Par.of_eq (spec_srState_visit_l0e slf i.1 i.2 k v.1 v.2.1 v.2.2.1 v.2.2.2.1
 v.2.2.2.2.1 v.2.2.2.2.2.1 v.2.2.2.2.2.2.1 v.2.2.2.2.2.2.2.1 v.2.2.2.2.2.2.2.2.1 v.2.2.2.2.2.2.2.2.2.1 v.2.2.2.2.2.2.2.2.2.2.1 v.2.2.2.2.2.2.2.2.2.2.2.1 v.2.2.2.2.2.2.2.2.2.2.2.2.1 v.2.2.2.2.2.2.2.2.2.2.2.2.2) (spec_srState_visit_l0p slf
 i.1 i.2 (fun a2 a3 a4 a5 a6 a7 a8 a9 a10 a11 a12 a13 a14 a15 => hk (a2, a3, a4, a5, a6, a7, a8, a9, a10, a11, a12, a13, a14, a15)) v.1 v.2.1 v.2.2.1 v.2.2.2.1 v.2.2.2.2.1 v.2.2.2.2.2.1 v.2.2.2.2.2.2.1 v.2.2.2.2.2.2.2.1 v.2.2.2.2.2.2.2.2.1
 v.2.2.2.2.2.2.2.2.2.1 v.2.2.2.2.2.2.2.2.2.2.1 v.2.2.2.2.2.2.2.2.2.2.2.1 v.2.2.2.2.2.2.2.2.2.2.2.2.1 v.2.2.2.2.2.2.2.2.2.2.2.2.2)
def c107 : Callee := M107 fun x => spec_srState_visit x.1 x.2
theorem e107 (slf : S107) (x : PK.dens ps107) : evalFn Tryz.prog (addE 107 (M107 slf) EL107) (or107 slf) Tryz.f107 (PK.outs ps107 x) = spec_srState_visitK slf (fun y => some (tupOf ((PK.outs rs107 y).take 0), (PK.outs rs107 y).drop 0)) x.1
 x.2 := by kernel_rfl
theorem o107 (slf : S107) : LoOk Tryz.prog (addE 107 (M107 slf) EL107) (or107 slf) Tryz.f107.ntmps (loopsIn (codeOf Tryz.f107)) :=
  LoOk.mk (m := 1) (by kernel_rfl) fun i hi => match i, hi with
    | 0, _ => ⟨Lspec_srState_visit_l0 slf, by kernel_rfl, spec_srState_visit_l0o slf⟩
    | i + 1, hi => absurd hi (by omega)
theorem k107 : Cal Tryz.prog 107 c107 := ⟨⟨_, _, Tryz.func107, rfl, by kernel_rfl⟩, callee_rec (ps := ps107) (rs := rs107) (F := spec_srState_visitF) fun slf hs => callee_mk Tryz.func107 (code := codeOf Tryz.f107) (by kernel_rfl)
 (vL107.add Tryz.func107 rfl (by kernel_rfl) hs) mixed (o107 slf) fun x y h => (e107 slf x).trans (p107 slf _ x.1 x.2 y h)⟩
def EL59 : Nat → Option Callee := addE 107 c107 env0
abbrev d59a := Q30 × ((LL × LI × LI × Int × Int × Int × Int × Int × Int × U × Int × Int × Int × U) × LI × U)
def s59a : LS := ⟨[(5, oP 0 0), (12, oI), (13, oI)], [.box [dM, dL, dL, dI, dI, dI, dI, dI, dI, .fix (.sref 1), dI, dI, dI], .sl (.int .i64)], []⟩
def x59a : List (XS d59a) := [⟨.exit 0, ⟨[5], [.slot 5, .cell 5 9], [], []⟩, ⟨[(5, oP 0 0)], [.box [dM, dL, dL, dI, dI, dI, dI, dI, dI, .fix (.sref 1), dI, dI, dI], .sl (.int .i64)], []⟩, LI, fun i y => (((), ()), (i.2.1.1, i.2.1.2.1,
 i.2.1.2.2.1, i.2.1.2.2.2.1, i.2.1.2.2.2.2.1, i.2.1.2.2.2.2.2.1, i.2.1.2.2.2.2.2.2.1, i.2.1.2.2.2.2.2.2.2.1, i.2.1.2.2.2.2.2.2.2.2.1, (), i.2.1.2.2.2.2.2.2.2.2.2.2.1, i.2.1.2.2.2.2.2.2.2.2.2.2.2.1, i.2.1.2.2.2.2.2.2.2.2.2.2.2.2.1, ()), y,
 ())⟩]
def spec_srSearch_l0K {R : Type} (a0 : Int) (rc : Int → LI → Option R) (fin : LI → Option R) (a1 : Int) (a14 : LI) : Option R := cond (decide (a1 < a0)) (cond (decide (a14.length + [(-1)].length ≤ 1099511627776)) ((some (a14 ++
 [(-1)])).bind fun v1 => rc (i64.wrap (a1 + 1)) v1) none) (fin a14)
def spec_srSearch_l0 (a0 : Int) (a1 : Int) (a14 : LI) : Option (LI) := lim (fun r (x : Q34) => spec_srSearch_l0K a0 (fun a1 a14 => r (a1, a14)) some x.1 x.2) (a1, a14)
theorem spec_srSearch_l0_eq (a0 : Int) (a1 : Int) (a14 : LI) : spec_srSearch_l0 a0 a1 a14 = spec_srSearch_l0K a0 (spec_srSearch_l0 a0) some a1 a14 := lim_eqI (fun x => by unfold spec_srSearch_l0K; repeat' (first | constructor | intro _)) _
def L59a : Loop := mkM ⟨[5, 12, 13], [.slot 5, .cell 5 9], [], [.own (.cell 5 9) (.int .i64)]⟩ s59a x59a fun (x : d59a) => spec_srSearch_l0 x.1.2.1 x.1.2.2.1 x.2.2.1
def spec_srSearchK {R : Type} (fin : LL × LI × LI × Int × Int × Int × Int × Int × Int × LI × Int × Int × Int → Option R) (x0 : DJob) (x1 : Int) : Option R := (spec_srSearch_l0 (x0.1.length : Int) 0 []).bind fun y2 => (spec_srState_visit
 (x0.1, x0.2.1, x0.2.2.1, x0.2.2.2.1.1, x0.2.2.2.1.2.1, x0.2.2.2.2.1, x0.2.2.2.2.2.1, x0.2.2.2.2.2.2.1, x1, y2, 0, 0, 0) []).bind fun y3 => fin y3
def spec_srSearch (x0 : DJob) (x1 : Int) : Option Q6 := spec_srSearchK some x0 x1
def or59 : Ora := { lo := addL 3 L59a lo0, fin := [], fz := fun i => cond (decide (i = 6)) [.frz (.cell 5 9)] <| [] }
theorem o59a : LOk EL59 or59 Tryz.f59 0 L59a := loop_rnd (fun (x : d59a) => (x.1.2.2.1, x.2.2.1)) (fun (i : d59a) v => (((), i.1.2.1, v.1, ()), (i.2.1.1, i.2.1.2.1, i.2.1.2.2.1, i.2.1.2.2.2.1, i.2.1.2.2.2.2.1, i.2.1.2.2.2.2.2.1,
 i.2.1.2.2.2.2.2.2.1, i.2.1.2.2.2.2.2.2.2.1, i.2.1.2.2.2.2.2.2.2.2.1, (), i.2.1.2.2.2.2.2.2.2.2.2.2.1, i.2.1.2.2.2.2.2.2.2.2.2.2.2.1, i.2.1.2.2.2.2.2.2.2.2.2.2.2.2.1, ()), v.2, ())) (fun (i : d59a) _ rc fin v => spec_srSearch_l0K i.1.2.1
 (fun a1 a14 => rc (a1, a14)) fin v.1 v.2) (fun _ => rfl) (fun _ => rfl) (fun i k v => by kernel_rfl) fun i _ rc _ _ hr v => by unfold spec_srSearch_l0K; repeat' (first | exact .of (hr _) | constructor | intro _)
def c59 : Callee := mkC [.agg [.ro TJob], rI] 1 [.box [kM, kL, kL, kI, kI, kI, kI, kI, kI, kL, kI, kI, kI]] fun x => spec_srSearch x.1 x.2
theorem k59 : Cal Tryz.prog 59 c59 := cal_mk (or := or59) Tryz.func59 (by kernel_rfl) (by kernel_rfl) mixed (EnvOk.nil |>.a k107 : EnvOk _ EL59) (LoOk.mk (by kernel_rfl) (all1 ⟨_, by kernel_rfl, o59a⟩)) (fun _ fin x => spec_srSearchK fin
 x.1 x.2) (fun _ => rfl) (fun x => by kernel_rfl) fun x _ _ => by unfold spec_srSearchK; repeat' (first | constructor | intro _)
def EL21 : Nat → Option Callee := addE 61 c61 (addE 60 c60 (addE 59 c59 (addE 40 c40 (addE 58 c58 env0))))
def spec_SearchPlanK {R : Type} (fin : Q34 × Int × Int × Bool → Option R) (x0 : DJob) (x1 : Int) : Option R := (spec_srGood x0).bind fun y1 => cond (!y1) (fin ((0, []), 0, 0, false)) ((spec_l1In x1 1 20000).bind fun y2 => cond (!y2) (fin
 ((0, []), 0, 0, false)) ((spec_srSearch x0 x1).bind fun y3 => (spec_l1Own y3.2.2.2.2.2.2.2.2.2.1).bind fun y4 => (spec_l1Most y3.2.2.2.2.2.2.2.2.2.2.1 y3.2.2.2.2.2.2.2.2.2.2.2.1).bind fun y5 => fin ((x0.2.2.2.2.1, y4),
 y3.2.2.2.2.2.2.2.2.2.2.1, y5, true)))
def spec_SearchPlan (x0 : DJob) (x1 : Int) : Option (Q34 × Int × Int × Bool) := spec_SearchPlanK some x0 x1
def or21 : Ora := { lo := lo0, fin := [.own (.cell 4 1) (.int .i64)] }
def c21 : Callee := mkC [.agg [.ro TJob], rI] 4 [.agg [kI, .sl (.int .i64)], rI, rI, rB] fun x => spec_SearchPlan x.1 x.2
theorem k21 : Cal Tryz.prog 21 c21 := cal_mk (or := or21) Tryz.func21 (by kernel_rfl) (by kernel_rfl) mixed (EnvOk.nil |>.a k58 |>.a k40 |>.a k59 |>.a k60 |>.a k61 : EnvOk _ EL21) (LoOk.nil (by kernel_rfl)) (fun _ fin x => spec_SearchPlanK
 fin x.1 x.2) (fun _ => rfl) (fun x => by kernel_rfl) fun x _ _ => by unfold spec_SearchPlanK; repeat' (first | constructor | intro _)
end
end Go.OAI
