/- Contracts: GO. -/
import Derived.Test.YtejiaikhdjanoaaGreatGA
import Derived.Test.YtejiaikhdjanoaaGreatGX
namespace Go.OAI
open Go.Proofs
open Go.IntKind (i64 u64 u8)
set_option linter.unusedVariables false
noncomputable section
def EL22 : Nat → Option Callee := addE 63 c63 (addE 62 c62 env0)
abbrev d22b := (U × U × U × Int × Int × LI × Int × Int × LI × Int × Int × U) × (Q7 × (Int × LI × U) × LL × U)
def s22b : LS := ⟨[(2, oP 0 0), (3, oP 1 0), (6, oS 2), (7, oI), (8, oI), (22, oL), (23, oI), (24, oI), (33, oL), (34, oI), (35, oI)], [.box [dM, dL, dL, dI, dI, dI, dI, dI], .box [dI, dL], .mat (.int .i64)], []⟩
def x22b : List (XS d22b) := [⟨.exit 2, ⟨[2, 3, 6, 22, 23, 24], [.slot 2, .slot 3, .slot 6], [], []⟩, ⟨[(2, oP 0 0), (3, oP 1 0), (6, oS 2), (22, oL), (23, oI), (24, oI)], [.box [dM, dL, dL, dI, dI, dI, dI, dI], .box [dI, dL], .mat (.int
 .i64)], []⟩, LL, fun i y => (((), (), (), i.1.2.2.2.2.2.1, i.1.2.2.2.2.2.2.1, i.1.2.2.2.2.2.2.2.1, ()), (i.2.1.1, i.2.1.2.1, i.2.1.2.2.1, i.2.1.2.2.2.1, i.2.1.2.2.2.2.1, i.2.1.2.2.2.2.2.1, i.2.1.2.2.2.2.2.2.1, i.2.1.2.2.2.2.2.2.2.1, ()),
 (i.2.2.1.1, i.2.2.1.2.1, ()), y, ())⟩]
def impl_OrderFaults_l1K {R : Type} (a0 a1 : Int) (a5 : LI) (a6 : Int) (a17 : LI) (rc : Int → LL → Option R) (fin : LL → Option R) (a7 : Int) (a18 : LL) : Option R := cond (decide (a7 < a6)) ((lat a5 a7).bind fun e1 => cond (decide (a1 ≥
 0)) ((lat a17 e1).bind fun e2 => cond (decide (e2 < 0)) (cond (decide (a18.length + [[a0, e1]].length ≤ 1099511627776)) ((some (a18 ++ [[a0, e1]])).bind fun v3 => rc (i64.wrap (a7 + 1)) v3) none) ((lat a17 e1).bind fun e4 => cond (decide
 (e4 > a1)) (cond (decide (a18.length + [[a0, e1]].length ≤ 1099511627776)) ((some (a18 ++ [[a0, e1]])).bind fun v5 => rc (i64.wrap (a7 + 1)) v5) none) (rc (i64.wrap (a7 + 1)) a18))) (rc (i64.wrap (a7 + 1)) a18)) (fin a18)
def impl_OrderFaults_l1 (a0 a1 : Int) (a5 : LI) (a6 : Int) (a17 : LI) (a7 : Int) (a18 : LL) : Option (LL) := lim (fun r (x : Q35) => impl_OrderFaults_l1K a0 a1 a5 a6 a17 (fun a7 a18 => r (a7, a18)) some x.1 x.2) (a7, a18)
theorem impl_OrderFaults_l1_eq (a0 a1 : Int) (a5 : LI) (a6 : Int) (a17 : LI) (a7 : Int) (a18 : LL) : impl_OrderFaults_l1 a0 a1 a5 a6 a17 a7 a18 = impl_OrderFaults_l1K a0 a1 a5 a6 a17 (impl_OrderFaults_l1 a0 a1 a5 a6 a17) some a7 a18 :=
 lim_eqI (fun x => by unfold impl_OrderFaults_l1K; repeat' (first | constructor | intro _)) _
def L22b : Loop := mkM ⟨[2, 3, 6, 7, 8, 22, 23, 24, 33, 34, 35], [.slot 2, .slot 3, .slot 6], [], []⟩ s22b x22b fun (x : d22b) => impl_OrderFaults_l1 x.1.2.2.2.1 x.1.2.2.2.2.1 x.1.2.2.2.2.2.2.2.2.1 x.1.2.2.2.2.2.2.2.2.2.1 x.2.2.1.2.1
 x.1.2.2.2.2.2.2.2.2.2.2.1 x.2.2.2.1
abbrev d22a := (U × U × U × LI × Int × Int × U) × (Q7 × (Int × LI × U) × LL × U)
def s22a : LS := ⟨[(2, oP 0 0), (3, oP 1 0), (6, oS 2), (22, oL), (23, oI), (24, oI)], [.box [dM, dL, dL, dI, dI, dI, dI, dI], .box [dI, dL], .mat (.int .i64)], []⟩
def x22a : List (XS d22a) := [⟨.exit 0, ⟨[6], [.slot 6], [], []⟩, ⟨[(6, oS 0)], [.mat (.int .i64)], []⟩, LL, fun i y => (((), ()), y, ())⟩]
def impl_OrderFaults_l0K {R : Type} (a0 : LI) (a1 : Int) (a3 : LL) (a12 : LI) (rc : Int → LL → Option R) (fin : LL → Option R) (a2 : Int) (a13 : LL) : Option R := cond (decide (a2 < a1)) ((lat a0 a2).bind fun e1 => (lat a3 a2).bind fun e2
 => (impl_OrderFaults_l1 a2 e1 e2 (e2.length : Int) a12 0 a13).bind fun y8 => rc (i64.wrap (a2 + 1)) y8) (fin a13)
def impl_OrderFaults_l0 (a0 : LI) (a1 : Int) (a3 : LL) (a12 : LI) (a2 : Int) (a13 : LL) : Option (LL) := lim (fun r (x : Q35) => impl_OrderFaults_l0K a0 a1 a3 a12 (fun a2 a13 => r (a2, a13)) some x.1 x.2) (a2, a13)
theorem impl_OrderFaults_l0_eq (a0 : LI) (a1 : Int) (a3 : LL) (a12 : LI) (a2 : Int) (a13 : LL) : impl_OrderFaults_l0 a0 a1 a3 a12 a2 a13 = impl_OrderFaults_l0K a0 a1 a3 a12 (impl_OrderFaults_l0 a0 a1 a3 a12) some a2 a13 := lim_eqI (fun x
 => by unfold impl_OrderFaults_l0K; repeat' (first | constructor | intro _)) _
def L22a : Loop := mkM ⟨[2, 3, 6, 22, 23, 24], [.slot 2, .slot 3, .slot 6], [], []⟩ s22a x22a fun (x : d22a) => impl_OrderFaults_l0 x.1.2.2.2.1 x.1.2.2.2.2.1 x.2.1.1 x.2.2.1.2.1 x.1.2.2.2.2.2.1 x.2.2.2.1
def impl_OrderFaultsK {R : Type} (fin : LL × Bool → Option R) (x0 : DJob) (x1 : DPlan) : Option R := (impl_IsJob x0).bind fun y1 => cond (!y1) (fin ([], false)) ((impl_isPlan x0 x1).bind fun y2 => cond (!y2) (fin ([], false))
 ((impl_OrderFaults_l0 x1.2.1 (x1.2.1.length : Int) x0.1 x1.2.1 0 []).bind fun y11 => fin (y11, true)))
def impl_OrderFaults (x0 : DJob) (x1 : DPlan) : Option (LL × Bool) := impl_OrderFaultsK some x0 x1
def or22 : Ora := { lo := addL 5 L22a (addL 8 L22b lo0), fin := [.ownm (.slot 4) (.int .i64)] }
theorem o22b : LOk EL22 or22 Tryz.f22 1 L22b := loop_rnd (fun (x : d22b) => (x.1.2.2.2.2.2.2.2.2.2.2.1, x.2.2.2.1)) (fun (i : d22b) v => (((), (), (), i.1.2.2.2.1, i.1.2.2.2.2.1, i.1.2.2.2.2.2.1, i.1.2.2.2.2.2.2.1, i.1.2.2.2.2.2.2.2.1,
 i.1.2.2.2.2.2.2.2.2.1, i.1.2.2.2.2.2.2.2.2.2.1, v.1, ()), (i.2.1.1, i.2.1.2.1, i.2.1.2.2.1, i.2.1.2.2.2.1, i.2.1.2.2.2.2.1, i.2.1.2.2.2.2.2.1, i.2.1.2.2.2.2.2.2.1, i.2.1.2.2.2.2.2.2.2.1, ()), (i.2.2.1.1, i.2.2.1.2.1, ()), v.2, ())) (fun
 (i : d22b) _ rc fin v => impl_OrderFaults_l1K i.1.2.2.2.1 i.1.2.2.2.2.1 i.1.2.2.2.2.2.2.2.2.1 i.1.2.2.2.2.2.2.2.2.2.1 i.2.2.1.2.1 (fun a7 a18 => rc (a7, a18)) fin v.1 v.2) (fun _ => rfl) (fun _ => rfl) (fun i k v => by kernel_rfl) fun i _
 rc _ _ hr v => by unfold impl_OrderFaults_l1K; repeat' (first | exact .of (hr _) | constructor | intro _)
theorem o22a : LOk EL22 or22 Tryz.f22 0 L22a := loop_rnd (fun (x : d22a) => (x.1.2.2.2.2.2.1, x.2.2.2.1)) (fun (i : d22a) v => (((), (), (), i.1.2.2.2.1, i.1.2.2.2.2.1, v.1, ()), (i.2.1.1, i.2.1.2.1, i.2.1.2.2.1, i.2.1.2.2.2.1,
 i.2.1.2.2.2.2.1, i.2.1.2.2.2.2.2.1, i.2.1.2.2.2.2.2.2.1, i.2.1.2.2.2.2.2.2.2.1, ()), (i.2.2.1.1, i.2.2.1.2.1, ()), v.2, ())) (fun (i : d22a) _ rc fin v => impl_OrderFaults_l0K i.1.2.2.2.1 i.1.2.2.2.2.1 i.2.1.1 i.2.2.1.2.1 (fun a2 a13 =>
 rc (a2, a13)) fin v.1 v.2) (fun _ => rfl) (fun _ => rfl) (fun i k v => by kernel_rfl) fun i _ rc _ _ hr v => by unfold impl_OrderFaults_l0K; repeat' (first | exact .of (hr _) | constructor | intro _)
def c22 : Callee := mkC [.agg [.ro TJob], .agg [.ro TPlan]] 2 [.one (.mat (.int .i64)), rB] fun x => impl_OrderFaults x.1 x.2
theorem k22 : Cal Tryz.prog 22 c22 := cal_mk (or := or22) Tryz.func22 (by kernel_rfl) (by kernel_rfl) mixed (EnvOk.nil |>.a k62 |>.a k63 : EnvOk _ EL22) (LoOk.mk (by kernel_rfl) (all2 ⟨_, by kernel_rfl, o22a⟩ ⟨_, by kernel_rfl, o22b⟩))
 (fun _ fin x => impl_OrderFaultsK fin x.1 x.2) (fun _ => rfl) (fun x => by kernel_rfl) fun x _ _ => by unfold impl_OrderFaultsK; repeat' (first | constructor | intro _)
def EL23 : Nat → Option Callee := addE 64 c64 (addE 63 c63 (addE 62 c62 env0))
abbrev d23a := Q15 × (Q7 × LI × LL × U)
def s23a : LS := ⟨[(2, oP 0 0), (6, oS 1), (21, oS 2), (22, oI), (23, oI)], [.box [dM, dL, dL, dI, dI, dI, dI, dI], .sl (.int .i64), .mat (.int .i64)], []⟩
def x23a : List (XS d23a) := [⟨.exit 0, ⟨[6], [.slot 6], [], []⟩, ⟨[(6, oS 0)], [.sl (.int .i64)], []⟩, LI, fun i y => (((), ()), y, ())⟩]
def impl_OverLimits_l0K {R : Type} (a0 a5 a6 : Int) (a11 : LL) (rc : Int → LI → Option R) (fin : LI → Option R) (a1 : Int) (a10 : LI) : Option R := cond (decide (a1 < a0)) (cond (decide ((0 : Int) ≤ a1) && decide (a1 < (a11.length : Int)))
 (cond (decide ((0 : Int) < ((a11.getD (0 + a1.toNat) []).length : Int))) (cond (decide (((a11.getD (0 + a1.toNat) []).getD (0 + 0) 0) > a5)) (cond (decide (a10.length + [a1].length ≤ 1099511627776)) (rc (i64.wrap (a1 + 1)) (a10 ++ [a1]))
 none) (cond (decide ((1 : Int) < ((a11.getD (0 + a1.toNat) []).length : Int))) (cond (decide (((a11.getD (0 + a1.toNat) []).getD (0 + 1) 0) > a6)) (cond (decide (a10.length + [a1].length ≤ 1099511627776)) (rc (i64.wrap (a1 + 1)) (a10 ++
 [a1])) none) (rc (i64.wrap (a1 + 1)) a10)) none)) none) none) (fin a10)
def impl_OverLimits_l0 (a0 a5 a6 : Int) (a11 : LL) (a1 : Int) (a10 : LI) : Option (LI) := lim (fun r (x : Q34) => impl_OverLimits_l0K a0 a5 a6 a11 (fun a1 a10 => r (a1, a10)) some x.1 x.2) (a1, a10)
theorem impl_OverLimits_l0_eq (a0 a5 a6 : Int) (a11 : LL) (a1 : Int) (a10 : LI) : impl_OverLimits_l0 a0 a5 a6 a11 a1 a10 = impl_OverLimits_l0K a0 a5 a6 a11 (impl_OverLimits_l0 a0 a5 a6 a11) some a1 a10 := lim_eqI (fun x =>
 by unfold impl_OverLimits_l0K; repeat' (first | constructor | intro _)) _
def L23a : Loop := mkM ⟨[2, 6, 21, 22, 23], [.slot 2, .slot 6, .slot 21], [], []⟩ s23a x23a fun (x : d23a) => impl_OverLimits_l0 x.1.2.2.2.1 x.2.1.2.2.2.1 x.2.1.2.2.2.2.1 x.2.2.2.1 x.1.2.2.2.2.1 x.2.2.1
def impl_OverLimitsK {R : Type} (fin : LI × Bool → Option R) (x0 : DJob) (x1 : DPlan) : Option R := (impl_IsJob x0).bind fun y1 => cond (!y1) (fin ([], false)) ((impl_isPlan x0 x1).bind fun y2 => cond (!y2) (fin ([], false))
 ((impl_tonnesIn x0 x1).bind fun y3 => (impl_OverLimits_l0 (y3.length : Int) x0.2.2.2.1.1 x0.2.2.2.1.2.1 y3 0 []).bind fun y4 => fin (y4, true)))
def impl_OverLimits (x0 : DJob) (x1 : DPlan) : Option (LI × Bool) := impl_OverLimitsK some x0 x1
def or23 : Ora := { lo := addL 5 L23a lo0, fin := [.own (.slot 4) (.int .i64)] }
theorem o23a : LOk EL23 or23 Tryz.f23 0 L23a := loop_rnd (fun (x : d23a) => (x.1.2.2.2.2.1, x.2.2.1)) (fun (i : d23a) v => (((), (), (), i.1.2.2.2.1, v.1, ()), (i.2.1.1, i.2.1.2.1, i.2.1.2.2.1, i.2.1.2.2.2.1, i.2.1.2.2.2.2.1,
 i.2.1.2.2.2.2.2.1, i.2.1.2.2.2.2.2.2.1, i.2.1.2.2.2.2.2.2.2.1, ()), v.2, i.2.2.2.1, ())) (fun (i : d23a) _ rc fin v => impl_OverLimits_l0K i.1.2.2.2.1 i.2.1.2.2.2.1 i.2.1.2.2.2.2.1 i.2.2.2.1 (fun a1 a10 => rc (a1, a10)) fin v.1 v.2) (fun
 _ => rfl) (fun _ => rfl) (fun i k v => by kernel_rfl) fun i _ rc _ _ hr v => by unfold impl_OverLimits_l0K; repeat' (first | exact .of (hr _) | constructor | intro _)
def c23 : Callee := mkC [.agg [.ro TJob], .agg [.ro TPlan]] 2 [.one (.sl (.int .i64)), rB] fun x => impl_OverLimits x.1 x.2
theorem k23 : Cal Tryz.prog 23 c23 := cal_mk (or := or23) Tryz.func23 (by kernel_rfl) (by kernel_rfl) mixed (EnvOk.nil |>.a k62 |>.a k63 |>.a k64 : EnvOk _ EL23) (LoOk.mk (by kernel_rfl) (all1 ⟨_, by kernel_rfl, o23a⟩)) (fun _ fin x =>
 impl_OverLimitsK fin x.1 x.2) (fun _ => rfl) (fun x => by kernel_rfl) fun x _ _ => by unfold impl_OverLimitsK; repeat' (first | constructor | intro _)
def EL66 : Nat → Option Callee := env0
def impl_isLotK {R : Type} (fin : Bool → Option R) (x0 : DLimits) : Option R := cond (decide (x0.1 ≥ 1)) (cond (decide (x0.1 ≤ 1000000)) (cond (decide (x0.2.1 ≥ 0)) (fin (decide (x0.2.1 ≤ (i64.wrap (1000 * x0.1))))) (fin false)) (fin
 false)) (fin false)
def impl_isLot (x0 : DLimits) : Option (Bool) := impl_isLotK some x0
def c66 : Callee := mkC [.agg [.ro TLimits]] 1 [rB] fun x => impl_isLot x
theorem k66 : Cal Tryz.prog 66 c66 := cal_mk (or := or0) Tryz.func66 (by kernel_rfl) (by kernel_rfl) mixed (EnvOk.nil : EnvOk _ EL66) (LoOk.nil (by kernel_rfl)) (fun _ fin x => impl_isLotK fin x) (fun _ => rfl) (fun x => by kernel_rfl) fun
 x _ _ => by unfold impl_isLotK; repeat' (first | constructor | intro _)
def EL65 : Nat → Option Callee := addE 66 c66 env0
abbrev d65a := (U × Int × (List DLimits) × Int × Int × U) × ((Bool × Int × (List DLimits) × U) × U)
def s65a : LS := ⟨[(1, oP 0 0), (3, oI), (31, .one (.dat (.slice TLimits))), (32, oI), (33, oI)], [.box [dB, dI, .dat (.slice TLimits)]], []⟩
def x65a : List (XS d65a) := [⟨.ret, ⟨[2], [], [], []⟩, ⟨[(2, oB)], [], []⟩, Bool, fun i y => ((y, ()), ())⟩, ⟨.exit 0, ⟨[1, 3], [.slot 1], [], []⟩, ⟨[(1, oP 0 0), (3, oI)], [.box [dB, dI, .dat (.slice TLimits)]], []⟩, Int, fun i y =>
 (((), y, ()), (i.2.1.1, i.2.1.2.1, i.2.1.2.2.1, ()), ())⟩]
def impl_IsPile_l0K {R : Type} (a1 : List DLimits) (a2 : Int) (rc : Int → Int → Option R) (fin : (Bool ⊕ Int) → Option R) (a0 a3 : Int) : Option R := cond (decide (a3 < a2)) ((lat a1 a3).bind fun e1 => (impl_isLot e1).bind fun y2 => cond
 (!y2) (fin (.inl false)) (rc (i64.wrap (a0 + e1.1)) (i64.wrap (a3 + 1)))) (fin (.inr a0))
def impl_IsPile_l0 (a1 : List DLimits) (a2 : Int) (a0 a3 : Int) : Option (Bool ⊕ Int) := lim (fun r (x : Q32) => impl_IsPile_l0K a1 a2 (fun a0 a3 => r (a0, a3)) some x.1 x.2) (a0, a3)
theorem impl_IsPile_l0_eq (a1 : List DLimits) (a2 : Int) (a0 a3 : Int) : impl_IsPile_l0 a1 a2 a0 a3 = impl_IsPile_l0K a1 a2 (impl_IsPile_l0 a1 a2) some a0 a3 := lim_eqI (fun x =>
 by unfold impl_IsPile_l0K; repeat' (first | constructor | intro _)) _
def L65a : Loop := mkM ⟨[1, 3, 31, 32, 33], [.slot 1], [], []⟩ s65a x65a fun (x : d65a) => impl_IsPile_l0 x.1.2.2.1 x.1.2.2.2.1 x.1.2.1 x.1.2.2.2.2.1
def impl_IsPileK {R : Type} (fin : Bool → Option R) (x0 : DPile) : Option R := cond (decide (x0.2.1 < 0)) (fin false) (cond (decide (x0.2.1 > 10000000)) (fin false) (cond (decide ((x0.2.2.1.length : Int) > 40)) (fin false) (cond (x0.1)
 (cond (decide ((x0.2.2.1.length : Int) > 1)) (fin false) ((impl_IsPile_l0 x0.2.2.1 (x0.2.2.1.length : Int) 0 0).bind fun y3 => sumO y3 (fun y4 => fin y4) (fun y5 => fin (decide (y5 ≤ x0.2.1))))) ((impl_IsPile_l0 x0.2.2.1 (x0.2.2.1.length
 : Int) 0 0).bind fun y6 => sumO y6 (fun y7 => fin y7) (fun y8 => fin (decide (y8 ≤ x0.2.1)))))))
def impl_IsPile (x0 : DPile) : Option (Bool) := impl_IsPileK some x0
def or65 : Ora := { lo := addL 5 L65a lo0, fin := [] }
theorem o65a : LOk EL65 or65 Tryz.f65 0 L65a := loop_rnd (fun (x : d65a) => (x.1.2.1, x.1.2.2.2.2.1)) (fun (i : d65a) v => (((), v.1, i.1.2.2.1, i.1.2.2.2.1, v.2, ()), (i.2.1.1, i.2.1.2.1, i.2.1.2.2.1, ()), ())) (fun (i : d65a) _ rc fin v
 => impl_IsPile_l0K i.1.2.2.1 i.1.2.2.2.1 (fun a0 a3 => rc (a0, a3)) fin v.1 v.2) (fun _ => rfl) (fun _ => rfl) (fun i k v => by kernel_rfl) fun i _ rc _ _ hr v =>
 by unfold impl_IsPile_l0K; repeat' (first | exact .of (hr _) | constructor | intro _)
def c65 : Callee := mkC [.agg [.ro TPile]] 1 [rB] fun x => impl_IsPile x
theorem k65 : Cal Tryz.prog 65 c65 := cal_mk (or := or65) Tryz.func65 (by kernel_rfl) (by kernel_rfl) mixed (EnvOk.nil |>.a k66 : EnvOk _ EL65) (LoOk.mk (by kernel_rfl) (all1 ⟨_, by kernel_rfl, o65a⟩)) (fun _ fin x => impl_IsPileK fin x)
 (fun _ => rfl) (fun x => by kernel_rfl) fun x _ _ => by unfold impl_IsPileK; repeat' (first | constructor | intro _)
def EL108 : Nat → Option Callee := env0
def impl_copyPileK {R : Type} (fin : Bool × Int × (List DLimits) → Option R) (x0 : DPile) : Option R := cond (decide (([] : List DLimits).length + x0.2.2.1.length ≤ 1099511627776)) (fin (x0.1, x0.2.1, ([] : List DLimits) ++ x0.2.2.1)) none
def impl_copyPile (x0 : DPile) : Option (Bool × Int × (List DLimits)) := impl_copyPileK some x0
def c108 : Callee := mkC [.agg [.ro TPile]] 1 [.agg [kB, kI, .sl TLimits]] fun x => impl_copyPile x
theorem k108 : Cal Tryz.prog 108 c108 := cal_mk (or := or0) Tryz.func108 (by kernel_rfl) (by kernel_rfl) mixed (EnvOk.nil : EnvOk _ EL108) (LoOk.nil (by kernel_rfl)) (fun _ fin x => impl_copyPileK fin x) (fun _ => rfl) (fun x =>
 by kernel_rfl) fun x _ _ => by unfold impl_copyPileK; repeat' (first | constructor | intro _)
def EL68 : Nat → Option Callee := env0
abbrev d68a := (U × U × (List DLimits) × Int × Int × U) × ((Int × Int × U) × (Int × Int × U) × U)
def s68a : LS := ⟨[(2, oP 0 0), (3, oP 1 0), (7, .one (.dat (.slice TLimits))), (8, oI), (9, oI)], [.box [dI, dI], .box [dI, dI]], []⟩
def x68a : List (XS d68a) := [⟨.exit 0, ⟨[2, 3], [.slot 2, .slot 3], [], []⟩, ⟨[(2, oP 0 0), (3, oP 1 0)], [.box [dI, dI], .box [dI, dI]], []⟩, Int × Int, fun i y => (((), (), ()), (i.2.1.1, i.2.1.2.1, ()), (y.1, y.2, ()), ())⟩]
def impl_lotSum_l0K {R : Type} (a0 : List DLimits) (a1 : Int) (rc : Int → Int → Int → Option R) (fin : Int × Int → Option R) (a2 a5 a6 : Int) : Option R := cond (decide (a2 < a1)) ((lat a0 a2).bind fun e1 => rc (i64.wrap (a2 + 1))
 (i64.wrap (a5 + e1.1)) (i64.wrap (a6 + e1.2.1))) (fin (a5, a6))
def impl_lotSum_l0 (a0 : List DLimits) (a1 : Int) (a2 a5 a6 : Int) : Option Q32 := lim (fun r (x : Int × Int × Int) => impl_lotSum_l0K a0 a1 (fun a2 a5 a6 => r (a2, a5, a6)) some x.1 x.2.1 x.2.2) (a2, a5, a6)
theorem impl_lotSum_l0_eq (a0 : List DLimits) (a1 : Int) (a2 a5 a6 : Int) : impl_lotSum_l0 a0 a1 a2 a5 a6 = impl_lotSum_l0K a0 a1 (impl_lotSum_l0 a0 a1) some a2 a5 a6 := lim_eqI (fun x =>
 by unfold impl_lotSum_l0K; repeat' (first | constructor | intro _)) _
def L68a : Loop := mkM ⟨[2, 3, 7, 8, 9], [.slot 2, .slot 3], [], []⟩ s68a x68a fun (x : d68a) => impl_lotSum_l0 x.1.2.2.1 x.1.2.2.2.1 x.1.2.2.2.2.1 x.2.2.1.1 x.2.2.1.2.1
def impl_lotSumK {R : Type} (fin : DLimits → Option R) (x0 : List DLimits) : Option R := (impl_lotSum_l0 x0 (x0.length : Int) 0 0 0).bind fun y2 => fin (y2.1, y2.2, ())
def impl_lotSum (x0 : List DLimits) : Option (DLimits) := impl_lotSumK some x0
def or68 : Ora := { lo := addL 3 L68a lo0, fin := [] }
theorem o68a : LOk EL68 or68 Tryz.f68 0 L68a := loop_rnd (fun (x : d68a) => (x.1.2.2.2.2.1, x.2.2.1.1, x.2.2.1.2.1)) (fun (i : d68a) v => (((), (), i.1.2.2.1, i.1.2.2.2.1, v.1, ()), (i.2.1.1, i.2.1.2.1, ()), (v.2.1, v.2.2, ()), ())) (fun
 (i : d68a) _ rc fin v => impl_lotSum_l0K i.1.2.2.1 i.1.2.2.2.1 (fun a2 a5 a6 => rc (a2, a5, a6)) fin v.1 v.2.1 v.2.2) (fun _ => rfl) (fun _ => rfl) (fun i k v => by kernel_rfl) fun i _ rc _ _ hr v =>
 by unfold impl_lotSum_l0K; repeat' (first | exact .of (hr _) | constructor | intro _)
def c68 : Callee := mkC [.one (.ro (.slice TLimits))] 1 [.agg [.ro TLimits]] fun x => impl_lotSum x
theorem k68 : Cal Tryz.prog 68 c68 := cal_mk (or := or68) Tryz.func68 (by kernel_rfl) (by kernel_rfl) mixed (EnvOk.nil : EnvOk _ EL68) (LoOk.mk (by kernel_rfl) (all1 ⟨_, by kernel_rfl, o68a⟩)) (fun _ fin x => impl_lotSumK fin x) (fun _ =>
 rfl) (fun x => by kernel_rfl) fun x _ _ => by unfold impl_lotSumK; repeat' (first | constructor | intro _)
def EL67 : Nat → Option Callee := addE 65 c65 (addE 68 c68 (addE 108 c108 env0))
def impl_putLotK {R : Type} (fin : (Bool × Int × (List DLimits)) × Bool → Option R) (x0 : DPile) (x1 : DLimits) : Option R := (impl_copyPile x0).bind fun y1 => cond (y1.1) (cond (decide ((y1.2.2.length : Int) > 0)) (cond (decide ((0 : Int)
 < (y1.2.2.length : Int))) ((impl_lotSum [((y1.2.2.getD (0 + 0) TLimits.dflt).1, ((y1.2.2.getD (0 + 0) TLimits.dflt).2).1, ()), x1]).bind fun y2 => cond (decide ((0 : Int) < (y1.2.2.length : Int))) ((some (y1.2.2.set (0 + 0) y2)).bind fun
 v3 => (impl_IsPile (y1.1, y1.2.1, v3, ())).bind fun y4 => cond (!y4) (fin ((false, 0, []), false)) (fin ((y1.1, y1.2.1, v3), true))) none) none) (cond (decide (y1.2.2.length + [x1].length ≤ 1099511627776)) ((some (y1.2.2 ++ [x1])).bind
 fun v5 => (impl_IsPile (y1.1, y1.2.1, v5, ())).bind fun y6 => cond (!y6) (fin ((false, 0, []), false)) (fin ((y1.1, y1.2.1, v5), true))) none)) (cond (decide (y1.2.2.length + [x1].length ≤ 1099511627776)) ((some (y1.2.2 ++ [x1])).bind fun
 v7 => (impl_IsPile (y1.1, y1.2.1, v7, ())).bind fun y8 => cond (!y8) (fin ((false, 0, []), false)) (fin ((y1.1, y1.2.1, v7), true))) none)
def impl_putLot (x0 : DPile) (x1 : DLimits) : Option ((Bool × Int × (List DLimits)) × Bool) := impl_putLotK some x0 x1
def or67 : Ora := { lo := lo0, fin := [.own (.cell 4 2) TLimits] }
def c67 : Callee := mkC [.agg [.ro TPile], .agg [.ro TLimits]] 2 [.agg [kB, kI, .sl TLimits], rB] fun x => impl_putLot x.1 x.2
theorem k67 : Cal Tryz.prog 67 c67 := cal_mk (or := or67) Tryz.func67 (by kernel_rfl) (by kernel_rfl) mixed (EnvOk.nil |>.a k108 |>.a k68 |>.a k65 : EnvOk _ EL67) (LoOk.nil (by kernel_rfl)) (fun _ fin x => impl_putLotK fin x.1 x.2) (fun _
 => rfl) (fun x => by kernel_rfl) fun x _ _ => by unfold impl_putLotK; repeat' (first | constructor | intro _)
def EL25 : Nat → Option Callee := addE 67 c67 (addE 66 c66 (addE 65 c65 env0))
def impl_PutLotK {R : Type} (fin : (Bool × Int × (List DLimits)) × Bool → Option R) (x0 : DPile) (x1 : DLimits) : Option R := (impl_IsPile x0).bind fun y1 => cond (!y1) (fin ((false, 0, []), false)) ((impl_isLot x1).bind fun y2 => cond
 (!y2) (fin ((false, 0, []), false)) ((impl_putLot x0 x1).bind fun y3 => fin y3))
def impl_PutLot (x0 : DPile) (x1 : DLimits) : Option ((Bool × Int × (List DLimits)) × Bool) := impl_PutLotK some x0 x1
def or25 : Ora := { lo := lo0, fin := [.own (.cell 4 2) TLimits] }
def c25 : Callee := mkC [.agg [.ro TPile], .agg [.ro TLimits]] 2 [.agg [kB, kI, .sl TLimits], rB] fun x => impl_PutLot x.1 x.2
theorem k25 : Cal Tryz.prog 25 c25 := cal_mk (or := or25) Tryz.func25 (by kernel_rfl) (by kernel_rfl) mixed (EnvOk.nil |>.a k65 |>.a k66 |>.a k67 : EnvOk _ EL25) (LoOk.nil (by kernel_rfl)) (fun _ fin x => impl_PutLotK fin x.1 x.2) (fun _
 => rfl) (fun x => by kernel_rfl) fun x _ _ => by unfold impl_PutLotK; repeat' (first | constructor | intro _)
def EL26 : Nat → Option Callee := addE 68 c68 (addE 65 c65 env0)
def impl_PileSumsK {R : Type} (fin : Int × Int × Bool → Option R) (x0 : DPile) : Option R := (impl_IsPile x0).bind fun y1 => cond (!y1) (fin (0, 0, false)) ((impl_lotSum x0.2.2.1).bind fun y2 => fin (y2.1, y2.2.1, true))
def impl_PileSums (x0 : DPile) : Option (Int × Int × Bool) := impl_PileSumsK some x0
def c26 : Callee := mkC [.agg [.ro TPile]] 3 [rI, rI, rB] fun x => impl_PileSums x
theorem k26 : Cal Tryz.prog 26 c26 := cal_mk (or := or0) Tryz.func26 (by kernel_rfl) (by kernel_rfl) mixed (EnvOk.nil |>.a k65 |>.a k68 : EnvOk _ EL26) (LoOk.nil (by kernel_rfl)) (fun _ fin x => impl_PileSumsK fin x) (fun _ => rfl) (fun x
 => by kernel_rfl) fun x _ _ => by unfold impl_PileSumsK; repeat' (first | constructor | intro _)
def EL27 : Nat → Option Callee := addE 64 c64 (addE 63 c63 (addE 62 c62 env0))
def impl_TonnesInK {R : Type} (fin : LL × Bool → Option R) (x0 : DJob) (x1 : DPlan) : Option R := (impl_IsJob x0).bind fun y1 => cond (!y1) (fin ([], false)) ((impl_isPlan x0 x1).bind fun y2 => cond (!y2) (fin ([], false)) ((impl_tonnesIn
 x0 x1).bind fun y3 => fin (y3, true)))
def impl_TonnesIn (x0 : DJob) (x1 : DPlan) : Option (LL × Bool) := impl_TonnesInK some x0 x1
def or27 : Ora := { lo := lo0, fin := [.ownm (.slot 4) (.int .i64)] }
def c27 : Callee := mkC [.agg [.ro TJob], .agg [.ro TPlan]] 2 [.one (.mat (.int .i64)), rB] fun x => impl_TonnesIn x.1 x.2
theorem k27 : Cal Tryz.prog 27 c27 := cal_mk (or := or27) Tryz.func27 (by kernel_rfl) (by kernel_rfl) mixed (EnvOk.nil |>.a k62 |>.a k63 |>.a k64 : EnvOk _ EL27) (LoOk.nil (by kernel_rfl)) (fun _ fin x => impl_TonnesInK fin x.1 x.2) (fun _
 => rfl) (fun x => by kernel_rfl) fun x _ _ => by unfold impl_TonnesInK; repeat' (first | constructor | intro _)
end
end Go.OAI
