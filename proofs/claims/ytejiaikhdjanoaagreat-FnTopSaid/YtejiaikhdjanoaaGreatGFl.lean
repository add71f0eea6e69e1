/- Contracts: GFl. -/
import Derived.Test.YtejiaikhdjanoaaGreatGA
namespace Go.OAI
open Go.Proofs
open Go.IntKind (i64 u64 u8)
set_option linter.unusedVariables false
noncomputable section
def EL89 : Nat → Option Callee := env0
abbrev d89b := (U × U × (Nat × Nat) × Int × LI × Int × Int × U) × Q36
def s89b : LS := ⟨[(0, oP 0 0), (3, oS 4), (4, .one (.win 5)), (5, oI), (40, oL), (41, oI), (42, oI)], [.box [dM, dL, .fix (.sref 1), .fix (.sref 2), .fix (.sref 3)], .sl (.int .i64), .sl (.int .i64), .sl (.int .i64), .sl .bool, .sl (.int
 .i64)], [0]⟩
def x89b : List (XS d89b) := [⟨.exit 2, ⟨[0, 3, 4], [.slot 0, .cell 0 2, .cell 0 3, .cell 0 4, .slot 3, .slot 4], [0], []⟩, ⟨[(0, oP 0 0), (3, oS 4), (4, .one (.win 5))], [.box [dM, dL, .fix (.sref 1), .fix (.sref 2), .fix (.sref 3)], .sl
 (.int .i64), .sl (.int .i64), .sl (.int .i64), .sl .bool, .sl (.int .i64)], [0]⟩, Nat × Nat × LI × LB × LI, fun i y => (((), (), (y.1, y.2.1), ()), (i.2.1.1, i.2.1.2.1, (), (), (), ()), i.2.2.1, y.2.2.1, i.2.2.2.2.1, y.2.2.2.1, y.2.2.2.2,
 ())⟩]
def impl_residual_fromSource_l1K {R : Type} (a2 : Int) (a3 : LI) (a4 : Int) (a7 a8 : LI) (rc : Nat → Nat → Int → LI → LB → LI → Option R) (fin : Nat × Nat × LI × LB × LI → Option R) (a0 a1 : Nat) (a5 : Int) (a9 : LI) (a11 : LB) (a12 : LI)
 : Option R := cond (decide (a5 < a4)) ((lat a3 a5).bind fun e1 => cond (decide ((0 : Int) ≤ e1) && decide (e1 < (a8.length : Int))) (cond (decide ((a8.getD (0 + e1.toNat) 0) > 0)) ((lat a7 e1).bind fun e2 => cond (decide ((0 : Int) ≤ e2)
 && decide (e2 < (a11.length : Int))) (cond (!(a11.getD (0 + e2.toNat) false)) ((lat a7 e1).bind fun e3 => cond (decide ((0 : Int) ≤ e3) && decide (e3 < (a11.length : Int))) ((some (a11.set (0 + e3.toNat) true)).bind fun v4 => (lat a7
 e1).bind fun e5 => cond (decide ((0 : Int) ≤ a2) && decide (a2 < (a9.length : Int))) (cond (decide ((0 : Int) ≤ e5) && decide (e5 < (a9.length : Int))) ((some (a9.set (0 + e5.toNat) (i64.wrap ((a9.getD (0 + a2.toNat) 0) + 1)))).bind fun
 v6 => (lat a7 e1).bind fun e7 => cond (decide (((a12.drop a0).take a1).length + [e7].length ≤ 1099511627776)) ((some (((a12.drop a0).take a1) ++ [e7])).bind fun v8 => rc 0 v8.length (i64.wrap (a5 + 1)) v6 v4 v8) none) none) none) none)
 (rc a0 a1 (i64.wrap (a5 + 1)) a9 a11 a12)) none) (rc a0 a1 (i64.wrap (a5 + 1)) a9 a11 a12)) none) (fin (a0, a1, a9, a11, a12))
def impl_residual_fromSource_l1 (a2 : Int) (a3 : LI) (a4 : Int) (a7 a8 : LI) (a0 a1 : Nat) (a5 : Int) (a9 : LI) (a11 : LB) (a12 : LI) : Option (Nat × Nat × LI × LB × LI) := lim (fun r (x : Nat × Nat × Int × LI × LB × LI) =>
 impl_residual_fromSource_l1K a2 a3 a4 a7 a8 (fun a0 a1 a5 a9 a11 a12 => r (a0, a1, a5, a9, a11, a12)) some x.1 x.2.1 x.2.2.1 x.2.2.2.1 x.2.2.2.2.1 x.2.2.2.2.2) (a0, a1, a5, a9, a11, a12)
theorem impl_residual_fromSource_l1_eq (a2 : Int) (a3 : LI) (a4 : Int) (a7 a8 : LI) (a0 a1 : Nat) (a5 : Int) (a9 : LI) (a11 : LB) (a12 : LI) : impl_residual_fromSource_l1 a2 a3 a4 a7 a8 a0 a1 a5 a9 a11 a12 = impl_residual_fromSource_l1K a2
 a3 a4 a7 a8 (impl_residual_fromSource_l1 a2 a3 a4 a7 a8) some a0 a1 a5 a9 a11 a12 := lim_eqI (fun x => by unfold impl_residual_fromSource_l1K; repeat' (first | constructor | intro _)) _
def L89b : Loop := mkM ⟨[0, 3, 4, 5, 40, 41, 42], [.slot 0, .cell 0 2, .cell 0 3, .cell 0 4, .slot 3, .slot 4], [0], [.win (.slot 4)]⟩ s89b x89b fun (x : d89b) => impl_residual_fromSource_l1 x.1.2.2.2.1 x.1.2.2.2.2.1 x.1.2.2.2.2.2.1
 x.2.1.2.1 x.2.2.1 x.1.2.2.1.1 x.1.2.2.1.2 x.1.2.2.2.2.2.2.1 x.2.2.2.1 x.2.2.2.2.2.1 x.2.2.2.2.2.2.1
abbrev d89a := (U × U × (Nat × Nat) × U) × Q36
def s89a : LS := ⟨[(0, oP 0 0), (3, oS 4), (4, .one (.win 5))], [.box [dM, dL, .fix (.sref 1), .fix (.sref 2), .fix (.sref 3)], .sl (.int .i64), .sl (.int .i64), .sl (.int .i64), .sl .bool, .sl (.int .i64)], [0]⟩
def x89a : List (XS d89a) := [⟨.exit 0, ⟨[0, 3], [.slot 0, .cell 0 2, .cell 0 3, .cell 0 4, .slot 3], [0], []⟩, ⟨[(0, oP 0 0), (3, oS 4)], [.box [dM, dL, .fix (.sref 1), .fix (.sref 2), .fix (.sref 3)], .sl (.int .i64), .sl (.int .i64),
 .sl (.int .i64), .sl .bool], [0]⟩, LI × LB, fun i y => (((), (), ()), (i.2.1.1, i.2.1.2.1, (), (), (), ()), i.2.2.1, y.1, i.2.2.2.2.1, y.2, ())⟩]
def impl_residual_fromSource_l0K {R : Type} (a2 : LL) (a3 a4 : LI) (rc : Nat → Nat → LI → LB → LI → Option R) (fin : LI × LB → Option R) (a0 a1 : Nat) (a5 : LI) (a7 : LB) (a8 : LI) : Option R := cond (decide ((((a8.drop a0).take a1).length
 : Int) > 0)) (cond (decide ((0 : Int) < (((a8.drop a0).take a1).length : Int))) (cond (decide ((1 : Int) ≤ (((a8.drop a0).take a1).length : Int)) && decide ((((a8.drop a0).take a1).length : Int) ≤ (((a8.drop a0).take a1).length : Int)))
 ((lat a2 (a8.getD (a0 + 0) 0)).bind fun e1 => (impl_residual_fromSource_l1 (a8.getD (a0 + 0) 0) e1 (e1.length : Int) a3 a4 (a0 + 1) ((((a8.drop a0).take a1).length : Int).toNat - 1) 0 a5 a7 a8).bind fun y18 => rc y18.1 y18.2.1 y18.2.2.1
 y18.2.2.2.1 y18.2.2.2.2) none) none) (fin (a5, a7))
def impl_residual_fromSource_l0 (a2 : LL) (a3 a4 : LI) (a0 a1 : Nat) (a5 : LI) (a7 : LB) (a8 : LI) : Option (LI × LB) := lim (fun r (x : Nat × Nat × LI × LB × LI) => impl_residual_fromSource_l0K a2 a3 a4 (fun a0 a1 a5 a7 a8 => r (a0, a1,
 a5, a7, a8)) some x.1 x.2.1 x.2.2.1 x.2.2.2.1 x.2.2.2.2) (a0, a1, a5, a7, a8)
theorem impl_residual_fromSource_l0_eq (a2 : LL) (a3 a4 : LI) (a0 a1 : Nat) (a5 : LI) (a7 : LB) (a8 : LI) : impl_residual_fromSource_l0 a2 a3 a4 a0 a1 a5 a7 a8 = impl_residual_fromSource_l0K a2 a3 a4 (impl_residual_fromSource_l0 a2 a3 a4)
 some a0 a1 a5 a7 a8 := lim_eqI (fun x => by unfold impl_residual_fromSource_l0K; repeat' (first | constructor | intro _)) _
def L89a : Loop := mkM ⟨[0, 3, 4], [.slot 0, .cell 0 2, .cell 0 3, .cell 0 4, .slot 3, .slot 4], [0], [.win (.slot 4)]⟩ s89a x89a fun (x : d89a) => impl_residual_fromSource_l0 x.2.1.1 x.2.1.2.1 x.2.2.1 x.1.2.2.1.1 x.1.2.2.1.2 x.2.2.2.1
 x.2.2.2.2.2.1 x.2.2.2.2.2.2.1
def impl_residual_fromSourceK {R : Type} (fin : LB × Q21 → Option R) (x0 : Q21) : Option R := cond (decide ((0 : Int) ≤ (x0.1.length : Int)) && (decide ((x0.1.length : Int) ≤ (x0.1.length : Int)) && decide ((x0.1.length : Int) ≤
 1099511627776))) ((some ((List.replicate ((x0.1.length : Int).toNat) 0 : LI))).bind fun v1 => cond (decide ((0 : Int) ≤ (x0.1.length : Int)) && (decide ((x0.1.length : Int) ≤ (x0.1.length : Int)) && decide ((x0.1.length : Int) ≤
 1099511627776))) ((some ((List.replicate ((x0.1.length : Int).toNat) false : LB))).bind fun v2 => cond (decide ((0 : Int) < (v2.length : Int))) ((some (v2.set (0 + 0) true)).bind fun v3 => (impl_residual_fromSource_l0 x0.1 x0.2.1 x0.2.2.1
 0 ([0].length) v1 v3 [0]).bind fun y40 => fin (y40.2, x0.1, x0.2.1, x0.2.2.1, y40.1, x0.2.2.2.2)) none) none) none
def impl_residual_fromSource (x0 : Q21) : Option (LB × Q21) := impl_residual_fromSourceK some x0
def or89 : Ora := { lo := addL 5 L89a (addL 9 L89b lo0), fin := [] }
theorem o89b : LOk EL89 or89 Tryz.f89 1 L89b := loop_rnd (fun (x : d89b) => (x.1.2.2.1.1, x.1.2.2.1.2, x.1.2.2.2.2.2.2.1, x.2.2.2.1, x.2.2.2.2.2.1, x.2.2.2.2.2.2.1)) (fun (i : d89b) v => (((), (), (v.1, v.2.1), i.1.2.2.2.1, i.1.2.2.2.2.1,
 i.1.2.2.2.2.2.1, v.2.2.1, ()), (i.2.1.1, i.2.1.2.1, (), (), (), ()), i.2.2.1, v.2.2.2.1, i.2.2.2.2.1, v.2.2.2.2.1, v.2.2.2.2.2, ())) (fun (i : d89b) _ rc fin v => impl_residual_fromSource_l1K i.1.2.2.2.1 i.1.2.2.2.2.1 i.1.2.2.2.2.2.1
 i.2.1.2.1 i.2.2.1 (fun a0 a1 a5 a9 a11 a12 => rc (a0, a1, a5, a9, a11, a12)) fin v.1 v.2.1 v.2.2.1 v.2.2.2.1 v.2.2.2.2.1 v.2.2.2.2.2) (fun _ => rfl) (fun _ => rfl) (fun i k v => by kernel_rfl) fun i _ rc _ _ hr v =>
 by unfold impl_residual_fromSource_l1K; repeat' (first | exact .of (hr _) | constructor | intro _)
theorem o89a : LOk EL89 or89 Tryz.f89 0 L89a := loop_rnd (fun (x : d89a) => (x.1.2.2.1.1, x.1.2.2.1.2, x.2.2.2.1, x.2.2.2.2.2.1, x.2.2.2.2.2.2.1)) (fun (i : d89a) v => (((), (), (v.1, v.2.1), ()), (i.2.1.1, i.2.1.2.1, (), (), (), ()),
 i.2.2.1, v.2.2.1, i.2.2.2.2.1, v.2.2.2.1, v.2.2.2.2, ())) (fun (i : d89a) _ rc fin v => impl_residual_fromSource_l0K i.2.1.1 i.2.1.2.1 i.2.2.1 (fun a0 a1 a5 a7 a8 => rc (a0, a1, a5, a7, a8)) fin v.1 v.2.1 v.2.2.1 v.2.2.2.1 v.2.2.2.2) (fun
 _ => rfl) (fun _ => rfl) (fun i k v => by kernel_rfl) fun i _ rc _ _ hr v => by unfold impl_residual_fromSource_l0K; repeat' (first | exact .of (hr _) | constructor | intro _)
def c89 : Callee := mkC [.box [kM, kL, .sl (.int .i64), .sl (.int .i64), .sl (.int .i64)]] 1 [.one (.sl .bool), .box [kM, kL, .sl (.int .i64), .sl (.int .i64), .sl (.int .i64)]] fun x => impl_residual_fromSource x
theorem k89 : Cal Tryz.prog 89 c89 := cal_mk (or := or89) Tryz.func89 (by kernel_rfl) (by kernel_rfl) mixed (EnvOk.nil : EnvOk _ EL89) (LoOk.mk (by kernel_rfl) (all2 ⟨_, by kernel_rfl, o89a⟩ ⟨_, by kernel_rfl, o89b⟩)) (fun _ fin x =>
 impl_residual_fromSourceK fin x) (fun _ => rfl) (fun x => by kernel_rfl) fun x _ _ => by unfold impl_residual_fromSourceK; repeat' (first | constructor | intro _)
abbrev ps121 : List PK := [.box [kM, kL, .sl (.int .i64), .sl (.int .i64), .sl (.int .i64)], rI, rI]
abbrev rs121 : List PK := [rI, .box [kM, kL, .sl (.int .i64), .sl (.int .i64), .sl (.int .i64)]]
abbrev S121 := (Q21 × Int × Int) → Option (Int × Q21)
abbrev M121 (slf : S121) : Callee := mkC ps121 1 rs121 slf
def EL121 : Nat → Option Callee := env0
theorem vL121 : EnvOk Tryz.prog EL121 := EnvOk.nil
def simpl_residual_push_l0 : LS := ⟨[(0, oP 0 0), (1, oI), (2, oI)], [.box [dM, dL, .fix (.sref 1), .fix (.sref 2), .fix (.sref 3)], .sl (.int .i64), .sl (.int .i64), .sl (.int .i64)], [0]⟩
def simpl_residual_push_l0x0 : LS := ⟨[(0, oP 0 0), (6, oI)], [.box [dM, dL, .fix (.sref 1), .fix (.sref 2), .fix (.sref 3)], .sl (.int .i64), .sl (.int .i64), .sl (.int .i64)], [0]⟩
def simpl_residual_push_l0x1 : LS := ⟨[(0, oP 0 0)], [.box [dM, dL, .fix (.sref 1), .fix (.sref 2), .fix (.sref 3)], .sl (.int .i64), .sl (.int .i64), .sl (.int .i64)], [0]⟩
def ximpl_residual_push_l0 : List (XS Q32) := [⟨.ret, ⟨[0, 6], [.slot 0, .cell 0 2, .cell 0 3, .cell 0 4], [0], []⟩, simpl_residual_push_l0x0, Int × LL × LI × LI × LI × LI, fun i y => (((), y.1, ()), (y.2.1, y.2.2.1, (), (), (), ()),
 y.2.2.2.1, y.2.2.2.2.1, y.2.2.2.2.2, ())⟩,
  ⟨.exit 0, ⟨[0], [.slot 0, .cell 0 2, .cell 0 3, .cell 0 4], [0], []⟩, simpl_residual_push_l0x1, LL × LI × LI × LI × LI, fun i y => (((), ()), (y.1, y.2.1, (), (), (), ()), y.2.2.1, y.2.2.2.1, y.2.2.2.2, ())⟩]
def impl_residual_push_l0K {R : Type} (slf : S121) (a0 : Int) (a1 : Int) (rc : LL → LI → LI → LI → LI → Option R) (fin : Q41 → Option R) (a2 : LL) (a3 : LI) (a4 : LI) (a5 : LI) (a6 : LI) : Option R := cond (decide ((0 : Int) ≤ a0) &&
 decide (a0 < (a6.length : Int))) ((lat a2 a0).bind fun e1 => cond (decide ((a6.getD (0 + a0.toNat) 0) < (e1.length : Int))) ((lat a2 a0).bind fun e2 => cond (decide ((0 : Int) ≤ a0) && decide (a0 < (a6.length : Int))) ((lat e2 (a6.getD (0
 + a0.toNat) 0)).bind fun e3 => cond (decide ((0 : Int) ≤ e3) && decide (e3 < (a4.length : Int))) (cond ((a4.getD (0 + e3.toNat) 0) == 0) (cond (decide ((0 : Int) ≤ a0) && decide (a0 < (a6.length : Int))) (cond (decide ((0 : Int) ≤ a0) &&
 decide (a0 < (a6.length : Int))) ((some (a6.set (0 + a0.toNat) (i64.wrap ((a6.getD (0 + a0.toNat) 0) + 1)))).bind fun v4 => rc a2 a3 a4 a5 v4) none) none) ((lat a3 e3).bind fun e5 => cond (decide ((0 : Int) ≤ e5) && decide (e5 <
 (a5.length : Int))) (cond (decide ((0 : Int) ≤ a0) && decide (a0 < (a5.length : Int))) (cond ((a5.getD (0 + e5.toNat) 0) != (i64.wrap ((a5.getD (0 + a0.toNat) 0) + 1))) (cond (decide ((0 : Int) ≤ a0) && decide (a0 < (a6.length : Int)))
 (cond (decide ((0 : Int) ≤ a0) && decide (a0 < (a6.length : Int))) ((some (a6.set (0 + a0.toNat) (i64.wrap ((a6.getD (0 + a0.toNat) 0) + 1)))).bind fun v6 => rc a2 a3 a4 a5 v6) none) none) ((lat a3 e3).bind fun e7 => cond (decide ((0 :
 Int) ≤ e3) && decide (e3 < (a4.length : Int))) ((slf ((a2, a3, a4, a5, a6), e7, if (a4.getD (0 + e3.toNat) 0) < a1 then a4.getD (0 + e3.toNat) 0 else a1)).bind fun y8 => cond (decide (y8.1 > 0)) (cond (decide ((0 : Int) ≤ e3) && decide
 (e3 < (y8.2.2.2.1.length : Int))) (cond (decide ((0 : Int) ≤ e3) && decide (e3 < (y8.2.2.2.1.length : Int))) ((some (y8.2.2.2.1.set (0 + e3.toNat) (i64.wrap ((y8.2.2.2.1.getD (0 + e3.toNat) 0) - y8.1)))).bind fun v9 => cond (decide ((0 :
 Int) ≤ xorI .i64 e3 1) && decide (xorI .i64 e3 1 < (v9.length : Int))) (cond (decide ((0 : Int) ≤ xorI .i64 e3 1) && decide (xorI .i64 e3 1 < (v9.length : Int))) ((some (v9.set (0 + (xorI .i64 e3 1).toNat) (i64.wrap ((v9.getD (0 + (xorI
 .i64 e3 1).toNat) 0) + y8.1)))).bind fun v10 => fin (.inl (y8.1, y8.2.1, y8.2.2.1, v10, y8.2.2.2.2))) none) none) none) none) (cond (decide ((0 : Int) ≤ a0) && decide (a0 < (y8.2.2.2.2.2.length : Int))) (cond (decide ((0 : Int) ≤ a0) &&
 decide (a0 < (y8.2.2.2.2.2.length : Int))) ((some (y8.2.2.2.2.2.set (0 + a0.toNat) (i64.wrap ((y8.2.2.2.2.2.getD (0 + a0.toNat) 0) + 1)))).bind fun v11 => rc y8.2.1 y8.2.2.1 y8.2.2.2.1 y8.2.2.2.2.1 v11) none) none)) none)) none) none))
 none) none) (fin (.inr (a2, a3, a4, a5, a6)))) none
def impl_residual_push_l0F (slf : S121) (a0 : Int) (a1 : Int) (r : Q21 → Option Q41) (x : Q21) : Option Q41 := impl_residual_push_l0K slf a0 a1 (fun a2 a3 a4 a5 a6 => r (a2, a3, a4, a5, a6)) some x.1 x.2.1 x.2.2.1 x.2.2.2.1 x.2.2.2.2
set_option maxHeartbeats 4000000 in
theorem impl_residual_push_l0c (slf : S121) (a0 : Int) (a1 : Int) (x : Q21) : Ct fun r => impl_residual_push_l0F slf a0 a1 r x := by unfold impl_residual_push_l0F impl_residual_push_l0K; apply CtI.ok; repeat' (first | constructor | intro _)
theorem impl_residual_push_l0d (a0 : Int) (a1 : Int) (D : Q21 → (S121) → Option Q41) (hD : ∀ a, Ct (D a)) (x : Q21) : Ct fun slf => impl_residual_push_l0F slf a0 a1 (fun a => D a slf) x :=
 by unfold impl_residual_push_l0F impl_residual_push_l0K; apply CtI.ok; repeat' (first | exact .of (hD _) | constructor | intro _)
def impl_residual_push_l0 (slf : S121) (a0 : Int) (a1 : Int) (a2 : LL) (a3 : LI) (a4 : LI) (a5 : LI) (a6 : LI) : Option Q41 := lim (impl_residual_push_l0F slf a0 a1) (a2, a3, a4, a5, a6)
theorem impl_residual_push_l0_eq (slf : S121) (a0 : Int) (a1 : Int) (a2 : LL) (a3 : LI) (a4 : LI) (a5 : LI) (a6 : LI) : impl_residual_push_l0 slf a0 a1 a2 a3 a4 a5 a6 = impl_residual_push_l0K slf a0 a1 (impl_residual_push_l0 slf a0 a1)
 some a2 a3 a4 a5 a6 := lim_eq (impl_residual_push_l0c slf a0 a1) (a2, a3, a4, a5, a6)
theorem impl_residual_push_l0s (a0 : Int) (a1 : Int) (x : Q21) : Ct fun slf => lim (impl_residual_push_l0F slf a0 a1) x := Ct.lim (fun slf a => impl_residual_push_l0c slf a0 a1 a) (impl_residual_push_l0d a0 a1) x
set_option maxHeartbeats 4000000 in
theorem impl_residual_push_l0p {R : Type} (slf : S121) (a0 : Int) (a1 : Int) {rc : LL → LI → LI → LI → LI → Option Q41} {rc' : LL → LI → LI → LI → LI → Option R} {fin : Q41 → Option R} (hr : ∀ a2 a3 a4 a5 a6, Par fin (rc a2 a3 a4 a5 a6)
 (rc' a2 a3 a4 a5 a6)) (a2 : LL) (a3 : LI) (a4 : LI) (a5 : LI) (a6 : LI) : Par fin (impl_residual_push_l0K slf a0 a1 rc some a2 a3 a4 a5 a6) (impl_residual_push_l0K slf a0 a1 rc' fin a2 a3 a4 a5 a6) :=
 by unfold impl_residual_push_l0K; apply ParI.ok; repeat' (first | exact .of (hr _ _ _ _ _) | constructor | intro _)
def Limpl_residual_push_l0 (slf : S121) : Loop := mkL ⟨[0, 1, 2], [.slot 0, .cell 0 2, .cell 0 3, .cell 0 4], [0], []⟩ simpl_residual_push_l0 ximpl_residual_push_l0 (fun (x : Q30 × Q39) => (x.1.2.1, x.1.2.2.1)) fun (x : Q30 × Q39) =>
 impl_residual_push_l0 slf x.1.2.1 x.1.2.2.1 x.2.1.1 x.2.1.2.1 x.2.2.1 x.2.2.2.1 x.2.2.2.2.1
def impl_residual_pushK {R : Type} (slf : S121) (fin : Int × Q21 → Option R) (x0 : Q21) (x1 : Int) (x2 : Int) : Option R := cond (x1 == (i64.wrap ((x0.1.length : Int) - 1))) (fin (x2, x0)) ((impl_residual_push_l0 slf x1 x2 x0.1 x0.2.1
 x0.2.2.1 x0.2.2.2.1 x0.2.2.2.2).bind fun y12 => sumO y12 (fun y13 => fin y13) (fun y14 => fin (0, y14)))
def impl_residual_pushF (slf : S121) (x : Q21 × Int × Int) : Option (Int × Q21) := impl_residual_pushK slf some x.1 x.2.1 x.2.2
theorem impl_residual_pushc (x : Q21 × Int × Int) : Ct fun slf => impl_residual_pushF slf x := by unfold impl_residual_pushF impl_residual_pushK; apply CtI.ok; repeat' (first | exact .of (impl_residual_push_l0s _ _ _) | constructor | intro _)
def impl_residual_push (x0 : Q21) (x1 : Int) (x2 : Int) : Option (Int × Q21) := lim impl_residual_pushF (x0, x1, x2)
theorem impl_residual_push_eq (x0 : Q21) (x1 : Int) (x2 : Int) : impl_residual_push x0 x1 x2 = impl_residual_pushK (fun x => impl_residual_push x.1 x.2.1 x.2.2) some x0 x1 x2 := lim_eq impl_residual_pushc (x0, x1, x2)
theorem p121 {R : Type} (slf : S121) (fin : Int × Q21 → Option R) (x0 : Q21) (x1 : Int) (x2 : Int) : Par fin (impl_residual_pushK slf some x0 x1 x2) (impl_residual_pushK slf fin x0 x1 x2) :=
 by unfold impl_residual_pushK; apply ParI.ok; repeat' (first | constructor | intro _)
def or121 (slf : S121) : Ora := { lo := addL 3 (Limpl_residual_push_l0 slf) lo0, fin := [] }
theorem impl_residual_push_l0e (slf : S121) (a0 : Int) (a1 : Int) (k : Nat) (a2 : LL) (a3 : LI) (a4 : LI) (a5 : LI) (a6 : LI) : loopC Tryz.prog (addE 121 (M121 slf) EL121) (or121 slf) ((loopsIn (codeOf Tryz.f121)).getD 0 .skip)
 (Limpl_residual_push_l0 slf).h (Limpl_residual_push_l0 slf).ho Tryz.f121.ntmps (k + 1) (simpl_residual_push_l0.out (((), a0, a1, ()), (a2, a3, (), (), (), ()), a4, a5, a6, ())) = impl_residual_push_l0K slf a0 a1 (fun a2 a3 a4 a5 a6 =>
 loopC Tryz.prog (addE 121 (M121 slf) EL121) (or121 slf) ((loopsIn (codeOf Tryz.f121)).getD 0 .skip) (Limpl_residual_push_l0 slf).h (Limpl_residual_push_l0 slf).ho Tryz.f121.ntmps k (simpl_residual_push_l0.out (((), a0, a1, ()), (a2, a3,
 (), (), (), ()), a4, a5, a6, ()))) (fun y => some (XS.out ximpl_residual_push_l0 (a0, a1) y)) a2 a3 a4 a5 a6 := by kernel_rfl
theorem impl_residual_push_l0o (slf : S121) : LoopOk Tryz.prog (addE 121 (M121 slf) EL121) (or121 slf) Tryz.f121.ntmps ((loopsIn (codeOf Tryz.f121)).getD 0 .skip) (Limpl_residual_push_l0 slf) :=
  loop_lim (hs := simpl_residual_push_l0) (xs := ximpl_residual_push_l0) (ι := fun (x : Q30 × Q39) => (x.1.2.1, x.1.2.2.1)) (φ := fun (x : Q30 × Q39) => (x.2.1.1, x.2.1.2.1, x.2.2.1, x.2.2.2.1, x.2.2.2.2.1)) (ψ := fun (i : Q32) (v : Q21)
 => (((), i.1, i.2, ()), (v.1, v.2.1, (), (), (), ()), v.2.2.1, v.2.2.2.1, v.2.2.2.2, ())) (F := fun (i : Q32) => impl_residual_push_l0F slf i.1 i.2) (fun _ => rfl) fun i k hk v => Par.of_eq (impl_residual_push_l0e slf i.1 i.2 k v.1 v.2.1
 v.2.2.1 v.2.2.2.1 v.2.2.2.2) (impl_residual_push_l0p slf i.1 i.2 (fun a2 a3 a4 a5 a6 => hk (a2, a3, a4, a5, a6)) v.1 v.2.1 v.2.2.1 v.2.2.2.1 v.2.2.2.2)
def c121 : Callee := M121 fun x => impl_residual_push x.1 x.2.1 x.2.2
theorem e121 (slf : S121) (x : PK.dens ps121) : evalFn Tryz.prog (addE 121 (M121 slf) EL121) (or121 slf) Tryz.f121 (PK.outs ps121 x) = impl_residual_pushK slf (fun y => some (tupOf ((PK.outs rs121 y).take 1), (PK.outs rs121 y).drop 1)) x.1
 x.2.1 x.2.2 := by kernel_rfl
theorem o121 (slf : S121) : LoOk Tryz.prog (addE 121 (M121 slf) EL121) (or121 slf) Tryz.f121.ntmps (loopsIn (codeOf Tryz.f121)) :=
  LoOk.mk (m := 1) (by kernel_rfl) fun i hi => match i, hi with
    | 0, _ => ⟨Limpl_residual_push_l0 slf, by kernel_rfl, impl_residual_push_l0o slf⟩
    | i + 1, hi => absurd hi (by omega)
theorem k121 : Cal Tryz.prog 121 c121 := ⟨⟨_, _, Tryz.func121, rfl, by kernel_rfl⟩, callee_rec (ps := ps121) (rs := rs121) (F := impl_residual_pushF) fun slf hs => callee_mk Tryz.func121 (code := codeOf Tryz.f121) (by kernel_rfl)
 (vL121.add Tryz.func121 rfl (by kernel_rfl) hs) mixed (o121 slf) fun x y h => (e121 slf x).trans (p121 slf _ x.1 x.2.1 x.2.2 y h)⟩
def EL88 : Nat → Option Callee := addE 121 c121 (addE 89 c89 env0)
abbrev d88b := (U × Int × U) × Q39
def s88b : LS := ⟨[(0, oP 0 0), (3, oI)], [.box [dM, dL, .fix (.sref 1), .fix (.sref 2), .fix (.sref 3)], .sl (.int .i64), .sl (.int .i64), .sl (.int .i64)], [0]⟩
def x88b : List (XS d88b) := [⟨.exit 2, ⟨[0, 3], [.slot 0, .cell 0 2, .cell 0 3, .cell 0 4], [0], []⟩, ⟨[(0, oP 0 0), (3, oI)], [.box [dM, dL, .fix (.sref 1), .fix (.sref 2), .fix (.sref 3)], .sl (.int .i64), .sl (.int .i64), .sl (.int
 .i64)], [0]⟩, Int × LL × LI × LI × LI × LI, fun i y => (((), y.1, ()), (y.2.1, y.2.2.1, (), (), (), ()), y.2.2.2.1, y.2.2.2.2.1, y.2.2.2.2.2, ())⟩]
def impl_residual_run_l1K {R : Type} (rc : Int → LL → LI → LI → LI → LI → Option R) (fin : Int × LL × LI × LI × LI × LI → Option R) (a0 : Int) (a1 : LL) (a2 a3 a4 a5 : LI) : Option R := (impl_residual_push (a1, a2, a3, a4, a5) 0
 1152921504606846976).bind fun y1 => cond (y1.1 == 0) (fin (a0, y1.2)) (rc (i64.wrap (a0 + y1.1)) y1.2.1 y1.2.2.1 y1.2.2.2.1 y1.2.2.2.2.1 y1.2.2.2.2.2)
def impl_residual_run_l1 (a0 : Int) (a1 : LL) (a2 a3 a4 a5 : LI) : Option Q13 := lim (fun r (x : Q13) => impl_residual_run_l1K (fun a0 a1 a2 a3 a4 a5 => r (a0, a1, a2, a3, a4, a5)) some x.1 x.2.1 x.2.2.1 x.2.2.2.1 x.2.2.2.2.1 x.2.2.2.2.2)
 (a0, a1, a2, a3, a4, a5)
theorem impl_residual_run_l1_eq (a0 : Int) (a1 : LL) (a2 a3 a4 a5 : LI) : impl_residual_run_l1 a0 a1 a2 a3 a4 a5 = impl_residual_run_l1K impl_residual_run_l1 some a0 a1 a2 a3 a4 a5 := lim_eqI (fun x =>
 by unfold impl_residual_run_l1K; repeat' (first | constructor | intro _)) _
def L88b : Loop := mkM ⟨[0, 3], [.slot 0, .cell 0 2, .cell 0 3, .cell 0 4], [0], []⟩ s88b x88b fun (x : d88b) => impl_residual_run_l1 x.1.2.1 x.2.1.1 x.2.1.2.1 x.2.2.1 x.2.2.2.1 x.2.2.2.2.1
abbrev d88a := (U × Int × U) × Q39
def s88a : LS := ⟨[(0, oP 0 0), (3, oI)], [.box [dM, dL, .fix (.sref 1), .fix (.sref 2), .fix (.sref 3)], .sl (.int .i64), .sl (.int .i64), .sl (.int .i64)], [0]⟩
def x88a : List (XS d88a) := [⟨.exit 0, ⟨[0, 3], [.slot 0, .cell 0 2, .cell 0 3, .cell 0 4], [0], []⟩, ⟨[(0, oP 0 0), (3, oI)], [.box [dM, dL, .fix (.sref 1), .fix (.sref 2), .fix (.sref 3)], .sl (.int .i64), .sl (.int .i64), .sl (.int
 .i64)], [0]⟩, Int × LL × LI × LI × LI × LI, fun i y => (((), y.1, ()), (y.2.1, y.2.2.1, (), (), (), ()), y.2.2.2.1, y.2.2.2.2.1, y.2.2.2.2.2, ())⟩]
def impl_residual_run_l0K {R : Type} (rc : Int → LL → LI → LI → LI → LI → Option R) (fin : Int × LL × LI × LI × LI × LI → Option R) (a0 : Int) (a1 : LL) (a2 a3 a4 a5 : LI) : Option R := (impl_residual_fromSource (a1, a2, a3, a4, a5)).bind
 fun y1 => cond (eqP y1.2.1 a1 && true) (cond (decide ((0 : Int) ≤ i64.wrap ((a1.length : Int) - 1)) && decide (i64.wrap ((a1.length : Int) - 1) < (y1.1.length : Int))) (cond (y1.1.getD (0 + (i64.wrap ((a1.length : Int) - 1)).toNat) false)
 (cond (decide ((0 : Int) ≤ (y1.2.1.length : Int)) && (decide ((y1.2.1.length : Int) ≤ (y1.2.1.length : Int)) && decide ((y1.2.1.length : Int) ≤ 1099511627776))) ((some ((List.replicate ((y1.2.1.length : Int).toNat) 0 : LI))).bind fun v2
 => (impl_residual_run_l1 a0 y1.2.1 y1.2.2.1 y1.2.2.2.1 y1.2.2.2.2.1 v2).bind fun y4 => rc y4.1 y4.2.1 y4.2.2.1 y4.2.2.2.1 y4.2.2.2.2.1 y4.2.2.2.2.2) none) (fin (a0, y1.2))) none) none
def impl_residual_run_l0 (a0 : Int) (a1 : LL) (a2 a3 a4 a5 : LI) : Option Q13 := lim (fun r (x : Q13) => impl_residual_run_l0K (fun a0 a1 a2 a3 a4 a5 => r (a0, a1, a2, a3, a4, a5)) some x.1 x.2.1 x.2.2.1 x.2.2.2.1 x.2.2.2.2.1 x.2.2.2.2.2)
 (a0, a1, a2, a3, a4, a5)
theorem impl_residual_run_l0_eq (a0 : Int) (a1 : LL) (a2 a3 a4 a5 : LI) : impl_residual_run_l0 a0 a1 a2 a3 a4 a5 = impl_residual_run_l0K impl_residual_run_l0 some a0 a1 a2 a3 a4 a5 := lim_eqI (fun x =>
 by unfold impl_residual_run_l0K; repeat' (first | constructor | intro _)) _
def L88a : Loop := mkM ⟨[0, 3], [.slot 0, .cell 0 2, .cell 0 3, .cell 0 4], [0], []⟩ s88a x88a fun (x : d88a) => impl_residual_run_l0 x.1.2.1 x.2.1.1 x.2.1.2.1 x.2.2.1 x.2.2.2.1 x.2.2.2.2.1
def impl_residual_runK {R : Type} (fin : Int × Q21 → Option R) (x0 : Q21) : Option R := (impl_residual_run_l0 0 x0.1 x0.2.1 x0.2.2.1 x0.2.2.2.1 x0.2.2.2.2).bind fun y5 => fin y5
def impl_residual_run (x0 : Q21) : Option (Int × Q21) := impl_residual_runK some x0
def or88 : Ora := { lo := addL 2 L88a (addL 4 L88b lo0), fin := [], kc := fun i => bif (decide (i = 2)) then [(0, 0)] else [] }
theorem o88b : LOk EL88 or88 Tryz.f88 1 L88b := loop_rnd (fun (x : d88b) => (x.1.2.1, x.2.1.1, x.2.1.2.1, x.2.2.1, x.2.2.2.1, x.2.2.2.2.1)) (fun (i : d88b) v => (((), v.1, ()), (v.2.1, v.2.2.1, (), (), (), ()), v.2.2.2.1, v.2.2.2.2.1,
 v.2.2.2.2.2, ())) (fun (i : d88b) _ rc fin v => impl_residual_run_l1K (fun a0 a1 a2 a3 a4 a5 => rc (a0, a1, a2, a3, a4, a5)) fin v.1 v.2.1 v.2.2.1 v.2.2.2.1 v.2.2.2.2.1 v.2.2.2.2.2) (fun _ => rfl) (fun _ => rfl) (fun i k v =>
 by kernel_rfl) fun i _ rc _ _ hr v => by unfold impl_residual_run_l1K; repeat' (first | exact .of (hr _) | constructor | intro _)
theorem o88a : LOk EL88 or88 Tryz.f88 0 L88a := loop_rnd (fun (x : d88a) => (x.1.2.1, x.2.1.1, x.2.1.2.1, x.2.2.1, x.2.2.2.1, x.2.2.2.2.1)) (fun (i : d88a) v => (((), v.1, ()), (v.2.1, v.2.2.1, (), (), (), ()), v.2.2.2.1, v.2.2.2.2.1,
 v.2.2.2.2.2, ())) (fun (i : d88a) _ rc fin v => impl_residual_run_l0K (fun a0 a1 a2 a3 a4 a5 => rc (a0, a1, a2, a3, a4, a5)) fin v.1 v.2.1 v.2.2.1 v.2.2.2.1 v.2.2.2.2.1 v.2.2.2.2.2) (fun _ => rfl) (fun _ => rfl) (fun i k v =>
 by kernel_rfl) fun i _ rc _ _ hr v => by unfold impl_residual_run_l0K; repeat' (first | exact .of (hr _) | constructor | intro _)
def c88 : Callee := mkC [.box [kM, kL, .sl (.int .i64), .sl (.int .i64), .sl (.int .i64)]] 1 [rI, .box [kM, kL, .sl (.int .i64), .sl (.int .i64), .sl (.int .i64)]] fun x => impl_residual_run x
theorem k88 : Cal Tryz.prog 88 c88 := cal_mk (or := or88) Tryz.func88 (by kernel_rfl) (by kernel_rfl) mixed (EnvOk.nil |>.a k89 |>.a k121 : EnvOk _ EL88) (LoOk.mk (by kernel_rfl) (all2 ⟨_, by kernel_rfl, o88a⟩ ⟨_, by kernel_rfl, o88b⟩))
 (fun _ fin x => impl_residual_runK fin x) (fun _ => rfl) (fun x => by kernel_rfl) fun x _ _ => by unfold impl_residual_runK; repeat' (first | constructor | intro _)
def EL87 : Nat → Option Callee := env0
abbrev d87a := (U × (List DGrid) × Int × Int × U) × ((U × U × U × U × U × U) × LL × LI × LI × U)
def s87a : LS := ⟨[(5, oP 0 0), (12, .one (.dat (.slice TGrid))), (13, oI), (14, oI)], [.box [.fix (.sref 1), .fix (.sref 2), .fix (.sref 3), .fix .nils, .fix .nils], .mat (.int .i64), .sl (.int .i64), .sl (.int .i64)], []⟩
def x87a : List (XS d87a) := [⟨.exit 0, ⟨[5], [.slot 5, .cell 5 0, .cell 5 1, .cell 5 2], [], []⟩, ⟨[(5, oP 0 0)], [.box [.fix (.sref 1), .fix (.sref 2), .fix (.sref 3), .fix .nils, .fix .nils], .mat (.int .i64), .sl (.int .i64), .sl (.int
 .i64)], []⟩, LL × LI × LI, fun i y => (((), ()), ((), (), (), (), (), ()), y.1, y.2.1, y.2.2, ())⟩]
def impl_newResidual_l0K {R : Type} (a0 : List DGrid) (a1 : Int) (rc : Int → LL → LI → LI → Option R) (fin : LL × LI × LI → Option R) (a2 : Int) (a3 : LL) (a4 a5 : LI) : Option R := cond (decide (a2 < a1)) ((lat a0 a2).bind fun e1 => cond
 (decide ((0 : Int) ≤ e1.1) && decide (e1.1 < (a3.length : Int))) (cond (decide (0 + e1.1.toNat = e1.1.toNat)) (cond (decide ((a3.getD e1.1.toNat []).length + [(a4.length : Int)].length ≤ 1099511627776)) ((some ((a3.getD e1.1.toNat []) ++
 [(a4.length : Int)])).bind fun v2 => cond (decide ((0 : Int) ≤ e1.1) && decide (e1.1 < (a3.length : Int))) (cond (decide (0 + e1.1.toNat = e1.1.toNat) && true) (cond (decide ((0 : Int) ≤ e1.2.1) && decide (e1.2.1 < ((a3.set (0 +
 e1.1.toNat) v2).length : Int))) (cond (decide (0 + e1.2.1.toNat = e1.2.1.toNat)) (cond (decide (((a3.set (0 + e1.1.toNat) v2).getD e1.2.1.toNat []).length + [i64.wrap ((a4.length : Int) + 1)].length ≤ 1099511627776)) ((some (((a3.set (0 +
 e1.1.toNat) v2).getD e1.2.1.toNat []) ++ [i64.wrap ((a4.length : Int) + 1)])).bind fun v3 => cond (decide ((0 : Int) ≤ e1.2.1) && decide (e1.2.1 < ((a3.set (0 + e1.1.toNat) v2).length : Int))) (cond (decide (0 + e1.2.1.toNat =
 e1.2.1.toNat) && true) (cond (decide (a4.length + [e1.2.1, e1.1].length ≤ 1099511627776)) ((some (a4 ++ [e1.2.1, e1.1])).bind fun v4 => cond (decide (a5.length + [e1.2.2.1, 0].length ≤ 1099511627776)) ((some (a5 ++ [e1.2.2.1, 0])).bind
 fun v5 => rc (i64.wrap (a2 + 1)) ((a3.set (0 + e1.1.toNat) v2).set (0 + e1.2.1.toNat) v3) v4 v5) none) none) none) none) none) none) none) none) none) none) none) none) (fin (a3, a4, a5))
def impl_newResidual_l0 (a0 : List DGrid) (a1 : Int) (a2 : Int) (a3 : LL) (a4 a5 : LI) : Option (LL × LI × LI) := lim (fun r (x : Int × LL × LI × LI) => impl_newResidual_l0K a0 a1 (fun a2 a3 a4 a5 => r (a2, a3, a4, a5)) some x.1 x.2.1
 x.2.2.1 x.2.2.2) (a2, a3, a4, a5)
theorem impl_newResidual_l0_eq (a0 : List DGrid) (a1 : Int) (a2 : Int) (a3 : LL) (a4 a5 : LI) : impl_newResidual_l0 a0 a1 a2 a3 a4 a5 = impl_newResidual_l0K a0 a1 (impl_newResidual_l0 a0 a1) some a2 a3 a4 a5 := lim_eqI (fun x =>
 by unfold impl_newResidual_l0K; repeat' (first | constructor | intro _)) _
def L87a : Loop := mkM ⟨[5, 12, 13, 14], [.slot 5, .cell 5 0, .cell 5 1, .cell 5 2], [], [.own (.cell 5 1) (.int .i64), .own (.cell 5 2) (.int .i64)]⟩ s87a x87a fun (x : d87a) => impl_newResidual_l0 x.1.2.1 x.1.2.2.1 x.1.2.2.2.1 x.2.2.1
 x.2.2.2.1 x.2.2.2.2.1
def impl_newResidualK {R : Type} (fin : LL × LI × LI × LI × LI → Option R) (x0 : Int) (x1 : List DGrid) : Option R := cond (decide ((0 : Int) ≤ x0) && (decide (x0 ≤ x0) && decide (x0 ≤ 1099511627776))) ((some ((List.replicate x0.toNat [] :
 LL))).bind fun v1 => (impl_newResidual_l0 x1 (x1.length : Int) 0 v1 [] []).bind fun y12 => fin (y12.1, y12.2.1, y12.2.2, [], [])) none
def impl_newResidual (x0 : Int) (x1 : List DGrid) : Option Q21 := impl_newResidualK some x0 x1
def or87 : Ora := { lo := addL 3 L87a lo0, fin := [.own (.cell 4 3) (.int .i64), .own (.cell 4 4) (.int .i64)], fz := fun i => cond (decide (i = 5)) [.take (.cell 5 0) (.cell 7 0)] <| cond (decide (i = 6)) [.take (.cell 5 0) (.cell 7 1)] <| [] }
theorem o87a : LOk EL87 or87 Tryz.f87 0 L87a := loop_rnd (fun (x : d87a) => (x.1.2.2.2.1, x.2.2.1, x.2.2.2.1, x.2.2.2.2.1)) (fun (i : d87a) v => (((), i.1.2.1, i.1.2.2.1, v.1, ()), ((), (), (), (), (), ()), v.2.1, v.2.2.1, v.2.2.2, ()))
 (fun (i : d87a) _ rc fin v => impl_newResidual_l0K i.1.2.1 i.1.2.2.1 (fun a2 a3 a4 a5 => rc (a2, a3, a4, a5)) fin v.1 v.2.1 v.2.2.1 v.2.2.2) (fun _ => rfl) (fun _ => rfl) (fun i k v => by kernel_rfl) fun i _ rc _ _ hr v =>
 by unfold impl_newResidual_l0K; repeat' (first | exact .of (hr _) | constructor | intro _)
def c87 : Callee := mkC [rI, .one (.ro (.slice TGrid))] 1 [.box [.mat (.int .i64), .sl (.int .i64), .sl (.int .i64), .sl (.int .i64), .sl (.int .i64)]] fun x => impl_newResidual x.1 x.2
theorem k87 : Cal Tryz.prog 87 c87 := cal_mk (or := or87) Tryz.func87 (by kernel_rfl) (by kernel_rfl) mixed (EnvOk.nil : EnvOk _ EL87) (LoOk.mk (by kernel_rfl) (all1 ⟨_, by kernel_rfl, o87a⟩)) (fun _ fin x => impl_newResidualK fin x.1 x.2)
 (fun _ => rfl) (fun x => by kernel_rfl) fun x _ _ => by unfold impl_newResidualK; repeat' (first | constructor | intro _)
def EL123 : Nat → Option Callee := env0
abbrev d123a := (U × (List DGrid) × Int × Int × U) × ((Int × U × U × U × U) × LI × LI × LL × U)
def s123a : LS := ⟨[(5, oP 0 0), (13, .one (.dat (.slice TGrid))), (14, oI), (15, oI)], [.box [dI, .fix (.sref 1), .fix (.sref 2), .fix (.sref 3)], .sl (.int .i64), .sl (.int .i64), .mat (.int .i64)], []⟩
def x123a : List (XS d123a) := [⟨.exit 0, ⟨[5], [.slot 5, .cell 5 1, .cell 5 2, .cell 5 3], [], []⟩, ⟨[(5, oP 0 0)], [.box [dI, .fix (.sref 1), .fix (.sref 2), .fix (.sref 3)], .sl (.int .i64), .sl (.int .i64), .mat (.int .i64)], []⟩, LI ×
 LI × LL, fun i y => (((), ()), (i.2.1.1, (), (), (), ()), y.1, y.2.1, y.2.2, ())⟩]
def spec_mfStart_l0K {R : Type} (a0 : List DGrid) (a1 : Int) (rc : Int → LI → LI → LL → Option R) (fin : LI × LI × LL → Option R) (a2 : Int) (a4 a5 : LI) (a6 : LL) : Option R := cond (decide (a2 < a1)) ((lat a0 a2).bind fun e1 => cond
 (decide (a4.length + [e1.2.1, e1.1].length ≤ 1099511627776)) ((some (a4 ++ [e1.2.1, e1.1])).bind fun v2 => cond (decide (a5.length + [e1.2.2.1, 0].length ≤ 1099511627776)) ((some (a5 ++ [e1.2.2.1, 0])).bind fun v3 => cond (decide ((0 :
 Int) ≤ e1.1) && decide (e1.1 < (a6.length : Int))) (cond (decide (0 + e1.1.toNat = e1.1.toNat)) (cond (decide ((a6.getD e1.1.toNat []).length + [i64.wrap (2 * a2)].length ≤ 1099511627776)) ((some ((a6.getD e1.1.toNat []) ++ [i64.wrap (2 *
 a2)])).bind fun v4 => cond (decide ((0 : Int) ≤ e1.1) && decide (e1.1 < (a6.length : Int))) (cond (decide (0 + e1.1.toNat = e1.1.toNat) && true) (cond (decide ((0 : Int) ≤ e1.2.1) && decide (e1.2.1 < ((a6.set (0 + e1.1.toNat) v4).length :
 Int))) (cond (decide (0 + e1.2.1.toNat = e1.2.1.toNat)) (cond (decide (((a6.set (0 + e1.1.toNat) v4).getD e1.2.1.toNat []).length + [i64.wrap ((i64.wrap (2 * a2)) + 1)].length ≤ 1099511627776)) ((some (((a6.set (0 + e1.1.toNat) v4).getD
 e1.2.1.toNat []) ++ [i64.wrap ((i64.wrap (2 * a2)) + 1)])).bind fun v5 => cond (decide ((0 : Int) ≤ e1.2.1) && decide (e1.2.1 < ((a6.set (0 + e1.1.toNat) v4).length : Int))) (cond (decide (0 + e1.2.1.toNat = e1.2.1.toNat) && true) (rc
 (i64.wrap (a2 + 1)) v2 v3 ((a6.set (0 + e1.1.toNat) v4).set (0 + e1.2.1.toNat) v5)) none) none) none) none) none) none) none) none) none) none) none) none) (fin (a4, a5, a6))
def spec_mfStart_l0 (a0 : List DGrid) (a1 : Int) (a2 : Int) (a4 a5 : LI) (a6 : LL) : Option (LI × LI × LL) := lim (fun r (x : Q29) => spec_mfStart_l0K a0 a1 (fun a2 a4 a5 a6 => r (a2, a4, a5, a6)) some x.1 x.2.1 x.2.2.1 x.2.2.2) (a2, a4,
 a5, a6)
theorem spec_mfStart_l0_eq (a0 : List DGrid) (a1 : Int) (a2 : Int) (a4 a5 : LI) (a6 : LL) : spec_mfStart_l0 a0 a1 a2 a4 a5 a6 = spec_mfStart_l0K a0 a1 (spec_mfStart_l0 a0 a1) some a2 a4 a5 a6 := lim_eqI (fun x =>
 by unfold spec_mfStart_l0K; repeat' (first | constructor | intro _)) _
def L123a : Loop := mkM ⟨[5, 13, 14, 15], [.slot 5, .cell 5 1, .cell 5 2, .cell 5 3], [], [.own (.cell 5 1) (.int .i64), .own (.cell 5 2) (.int .i64)]⟩ s123a x123a fun (x : d123a) => spec_mfStart_l0 x.1.2.1 x.1.2.2.1 x.1.2.2.2.1 x.2.2.1
 x.2.2.2.1 x.2.2.2.2.1
def spec_mfStartK {R : Type} (fin : Int × LI × LI × LL → Option R) (x0 : Int) (x1 : List DGrid) : Option R := cond (decide ((0 : Int) ≤ x0) && (decide (x0 ≤ x0) && decide (x0 ≤ 1099511627776))) ((some ((List.replicate x0.toNat [] :
 LL))).bind fun v1 => (spec_mfStart_l0 x1 (x1.length : Int) 0 [] [] v1).bind fun y12 => fin (x0, y12)) none
def spec_mfStart (x0 : Int) (x1 : List DGrid) : Option Q29 := spec_mfStartK some x0 x1
def or123 : Ora := { lo := addL 3 L123a lo0, fin := [], fz := fun i => cond (decide (i = 7)) [.take (.cell 5 3) (.cell 7 0)] <| cond (decide (i = 8)) [.take (.cell 5 3) (.cell 7 1)] <| [] }
theorem o123a : LOk EL123 or123 Tryz.f123 0 L123a := loop_rnd (fun (x : d123a) => (x.1.2.2.2.1, x.2.2.1, x.2.2.2.1, x.2.2.2.2.1)) (fun (i : d123a) v => (((), i.1.2.1, i.1.2.2.1, v.1, ()), (i.2.1.1, (), (), (), ()), v.2.1, v.2.2.1, v.2.2.2,
 ())) (fun (i : d123a) _ rc fin v => spec_mfStart_l0K i.1.2.1 i.1.2.2.1 (fun a2 a4 a5 a6 => rc (a2, a4, a5, a6)) fin v.1 v.2.1 v.2.2.1 v.2.2.2) (fun _ => rfl) (fun _ => rfl) (fun i k v => by kernel_rfl) fun i _ rc _ _ hr v =>
 by unfold spec_mfStart_l0K; repeat' (first | exact .of (hr _) | constructor | intro _)
def c123 : Callee := mkC [rI, .one (.ro (.slice TGrid))] 1 [.box [kI, .sl (.int .i64), .sl (.int .i64), .mat (.int .i64)]] fun x => spec_mfStart x.1 x.2
theorem k123 : Cal Tryz.prog 123 c123 := cal_mk (or := or123) Tryz.func123 (by kernel_rfl) (by kernel_rfl) mixed (EnvOk.nil : EnvOk _ EL123) (LoOk.mk (by kernel_rfl) (all1 ⟨_, by kernel_rfl, o123a⟩)) (fun _ fin x => spec_mfStartK fin x.1
 x.2) (fun _ => rfl) (fun x => by kernel_rfl) fun x _ _ => by unfold spec_mfStartK; repeat' (first | constructor | intro _)
def EL125 : Nat → Option Callee := env0
abbrev d125a := Q23 × Q40
def s125a : LS := ⟨[(0, oP 0 0), (3, oS 2), (15, oI), (16, oI)], [.box [dI, dL, .fix (.sref 1), dM], .sl (.int .i64), .sl (.int .i64)], [0]⟩
def x125a : List (XS d125a) := [⟨.exit 0, ⟨[0, 3], [.slot 0, .cell 0 2, .slot 3], [0], []⟩, ⟨[(0, oP 0 0), (3, oS 2)], [.box [dI, dL, .fix (.sref 1), dM], .sl (.int .i64), .sl (.int .i64)], [0]⟩, LI, fun i y => (((), (), ()), (i.2.1.1,
 i.2.1.2.1, (), i.2.1.2.2.2.1, ()), i.2.2.1, y, ())⟩]
def spec_mfState_levels_l0K {R : Type} (a0 : Int) (rc : Int → LI → Option R) (fin : LI → Option R) (a1 : Int) (a6 : LI) : Option R := cond (decide (a1 < a0)) (cond (decide ((0 : Int) ≤ a1) && decide (a1 < (a6.length : Int))) ((some (a6.set
 (0 + a1.toNat) (-1))).bind fun v1 => rc (i64.wrap (a1 + 1)) v1) none) (fin a6)
def spec_mfState_levels_l0 (a0 : Int) (a1 : Int) (a6 : LI) : Option (LI) := lim (fun r (x : Q34) => spec_mfState_levels_l0K a0 (fun a1 a6 => r (a1, a6)) some x.1 x.2) (a1, a6)
theorem spec_mfState_levels_l0_eq (a0 : Int) (a1 : Int) (a6 : LI) : spec_mfState_levels_l0 a0 a1 a6 = spec_mfState_levels_l0K a0 (spec_mfState_levels_l0 a0) some a1 a6 := lim_eqI (fun x =>
 by unfold spec_mfState_levels_l0K; repeat' (first | constructor | intro _)) _
def L125a : Loop := mkM ⟨[0, 3, 15, 16], [.slot 0, .cell 0 2, .slot 3], [0], []⟩ s125a x125a fun (x : d125a) => spec_mfState_levels_l0 x.1.2.2.1 x.1.2.2.2.1 x.2.2.2.1
abbrev d125c := (U × U × U × Int × LI × Int × Int × U) × (Q24 × LI × LI × LI × U)
def s125c : LS := ⟨[(0, oP 0 0), (3, oS 2), (5, oS 3), (6, oI), (41, oL), (42, oI), (43, oI)], [.box [dI, dL, .fix (.sref 1), dM], .sl (.int .i64), .sl (.int .i64), .sl (.int .i64)], [0]⟩
def x125c : List (XS d125c) := [⟨.exit 4, ⟨[0, 3, 5, 6], [.slot 0, .cell 0 2, .slot 3, .slot 5], [0], []⟩, ⟨[(0, oP 0 0), (3, oS 2), (5, oS 3), (6, oI)], [.box [dI, dL, .fix (.sref 1), dM], .sl (.int .i64), .sl (.int .i64), .sl (.int
 .i64)], [0]⟩, LI × LI, fun i y => (((), (), (), i.1.2.2.2.1, ()), (i.2.1.1, i.2.1.2.1, (), i.2.1.2.2.2.1, ()), i.2.2.1, y.1, y.2, ())⟩]
def spec_mfState_levels_l2K {R : Type} (a0 : Int) (a1 : LI) (a2 : Int) (a5 a7 : LI) (rc : Int → LI → LI → Option R) (fin : LI × LI → Option R) (a3 : Int) (a8 a9 : LI) : Option R := cond (decide (a3 < a2)) ((lat a1 a3).bind fun e1 => cond
 (decide ((0 : Int) ≤ e1) && decide (e1 < (a7.length : Int))) (cond (decide ((a7.getD (0 + e1.toNat) 0) > 0)) ((lat a5 e1).bind fun e2 => cond (decide ((0 : Int) ≤ e2) && decide (e2 < (a8.length : Int))) (cond (decide ((a8.getD (0 +
 e2.toNat) 0) < 0)) ((lat a5 e1).bind fun e3 => cond (decide ((0 : Int) ≤ a0) && decide (a0 < (a9.length : Int))) (cond (decide ((0 : Int) ≤ a9.getD (0 + a0.toNat) 0) && decide (a9.getD (0 + a0.toNat) 0 < (a8.length : Int))) ((some
 (i64.wrap ((a8.getD (0 + (a9.getD (0 + a0.toNat) 0).toNat) 0) + 1))).bind fun v4 => cond (decide ((0 : Int) ≤ e3) && decide (e3 < (a8.length : Int))) ((some (a8.set (0 + e3.toNat) v4)).bind fun v5 => (lat a5 e1).bind fun e6 => cond
 (decide (a9.length + [e6].length ≤ 1099511627776)) (rc (i64.wrap (a3 + 1)) v5 (a9 ++ [e6])) none) none) none) none) (rc (i64.wrap (a3 + 1)) a8 a9)) none) (rc (i64.wrap (a3 + 1)) a8 a9)) none) (fin (a8, a9))
def spec_mfState_levels_l2 (a0 : Int) (a1 : LI) (a2 : Int) (a5 a7 : LI) (a3 : Int) (a8 a9 : LI) : Option (LI × LI) := lim (fun r (x : Int × LI × LI) => spec_mfState_levels_l2K a0 a1 a2 a5 a7 (fun a3 a8 a9 => r (a3, a8, a9)) some x.1 x.2.1
 x.2.2) (a3, a8, a9)
theorem spec_mfState_levels_l2_eq (a0 : Int) (a1 : LI) (a2 : Int) (a5 a7 : LI) (a3 : Int) (a8 a9 : LI) : spec_mfState_levels_l2 a0 a1 a2 a5 a7 a3 a8 a9 = spec_mfState_levels_l2K a0 a1 a2 a5 a7 (spec_mfState_levels_l2 a0 a1 a2 a5 a7) some
 a3 a8 a9 := lim_eqI (fun x => by unfold spec_mfState_levels_l2K; repeat' (first | constructor | intro _)) _
def L125c : Loop := mkM ⟨[0, 3, 5, 6, 41, 42, 43], [.slot 0, .cell 0 2, .slot 3, .slot 5], [0], []⟩ s125c x125c fun (x : d125c) => spec_mfState_levels_l2 x.1.2.2.2.1 x.1.2.2.2.2.1 x.1.2.2.2.2.2.1 x.2.1.2.1 x.2.2.1 x.1.2.2.2.2.2.2.1
 x.2.2.2.1 x.2.2.2.2.1
abbrev d125b := Q26 × (Q24 × LI × LI × LI × U)
def s125b : LS := ⟨[(0, oP 0 0), (3, oS 2), (5, oS 3), (6, oI)], [.box [dI, dL, .fix (.sref 1), dM], .sl (.int .i64), .sl (.int .i64), .sl (.int .i64)], [0]⟩
def x125b : List (XS d125b) := [⟨.exit 2, ⟨[0, 3], [.slot 0, .cell 0 2, .slot 3], [0], []⟩, ⟨[(0, oP 0 0), (3, oS 2)], [.box [dI, dL, .fix (.sref 1), dM], .sl (.int .i64), .sl (.int .i64)], [0]⟩, LI, fun i y => (((), (), ()), (i.2.1.1,
 i.2.1.2.1, (), i.2.1.2.2.2.1, ()), i.2.2.1, y, ())⟩]
def spec_mfState_levels_l1K {R : Type} (a2 : LI) (a3 : LL) (a4 : LI) (rc : Int → LI → LI → Option R) (fin : LI → Option R) (a0 : Int) (a5 a6 : LI) : Option R := cond (decide (a0 < (a6.length : Int))) (cond (decide ((0 : Int) ≤ a0) &&
 decide (a0 < (a6.length : Int))) ((lat a3 (a6.getD (0 + a0.toNat) 0)).bind fun e1 => (spec_mfState_levels_l2 a0 e1 (e1.length : Int) a2 a4 0 a5 a6).bind fun y8 => rc (i64.wrap (a0 + 1)) y8.1 y8.2) none) (fin a5)
def spec_mfState_levels_l1 (a2 : LI) (a3 : LL) (a4 : LI) (a0 : Int) (a5 a6 : LI) : Option (LI) := lim (fun r (x : Int × LI × LI) => spec_mfState_levels_l1K a2 a3 a4 (fun a0 a5 a6 => r (a0, a5, a6)) some x.1 x.2.1 x.2.2) (a0, a5, a6)
theorem spec_mfState_levels_l1_eq (a2 : LI) (a3 : LL) (a4 : LI) (a0 : Int) (a5 a6 : LI) : spec_mfState_levels_l1 a2 a3 a4 a0 a5 a6 = spec_mfState_levels_l1K a2 a3 a4 (spec_mfState_levels_l1 a2 a3 a4) some a0 a5 a6 := lim_eqI (fun x =>
 by unfold spec_mfState_levels_l1K; repeat' (first | constructor | intro _)) _
def L125b : Loop := mkM ⟨[0, 3, 5, 6], [.slot 0, .cell 0 2, .slot 3, .slot 5], [0], []⟩ s125b x125b fun (x : d125b) => spec_mfState_levels_l1 x.2.1.2.1 x.2.1.2.2.2.1 x.2.2.1 x.1.2.2.2.1 x.2.2.2.1 x.2.2.2.2.1
def spec_mfState_levelsK {R : Type} (fin : LI × Q29 → Option R) (x0 : Q29) : Option R := cond (decide ((0 : Int) ≤ x0.1) && (decide (x0.1 ≤ x0.1) && decide (x0.1 ≤ 1099511627776))) ((some ((List.replicate x0.1.toNat 0 : LI))).bind fun v1
 => (spec_mfState_levels_l0 (v1.length : Int) 0 v1).bind fun y3 => cond (decide ((0 : Int) < (y3.length : Int))) ((some (y3.set (0 + 0) 0)).bind fun v4 => (spec_mfState_levels_l1 x0.2.1 x0.2.2.2 x0.2.2.1 0 v4 [0]).bind fun y13 => fin (y13,
 x0)) none) none
def spec_mfState_levels (x0 : Q29) : Option (LI × Q29) := spec_mfState_levelsK some x0
def or125 : Ora := { lo := addL 10 L125b (addL 13 L125c (addL 3 L125a lo0)), fin := [] }
theorem o125a : LOk EL125 or125 Tryz.f125 0 L125a := loop_rnd (fun (x : d125a) => (x.1.2.2.2.1, x.2.2.2.1)) (fun (i : d125a) v => (((), (), i.1.2.2.1, v.1, ()), (i.2.1.1, i.2.1.2.1, (), i.2.1.2.2.2.1, ()), i.2.2.1, v.2, ())) (fun (i :
 d125a) _ rc fin v => spec_mfState_levels_l0K i.1.2.2.1 (fun a1 a6 => rc (a1, a6)) fin v.1 v.2) (fun _ => rfl) (fun _ => rfl) (fun i k v => by kernel_rfl) fun i _ rc _ _ hr v =>
 by unfold spec_mfState_levels_l0K; repeat' (first | exact .of (hr _) | constructor | intro _)
theorem o125c : LOk EL125 or125 Tryz.f125 2 L125c := loop_rnd (fun (x : d125c) => (x.1.2.2.2.2.2.2.1, x.2.2.2.1, x.2.2.2.2.1)) (fun (i : d125c) v => (((), (), (), i.1.2.2.2.1, i.1.2.2.2.2.1, i.1.2.2.2.2.2.1, v.1, ()), (i.2.1.1, i.2.1.2.1,
 (), i.2.1.2.2.2.1, ()), i.2.2.1, v.2.1, v.2.2, ())) (fun (i : d125c) _ rc fin v => spec_mfState_levels_l2K i.1.2.2.2.1 i.1.2.2.2.2.1 i.1.2.2.2.2.2.1 i.2.1.2.1 i.2.2.1 (fun a3 a8 a9 => rc (a3, a8, a9)) fin v.1 v.2.1 v.2.2) (fun _ => rfl)
 (fun _ => rfl) (fun i k v => by kernel_rfl) fun i _ rc _ _ hr v => by unfold spec_mfState_levels_l2K; repeat' (first | exact .of (hr _) | constructor | intro _)
theorem o125b : LOk EL125 or125 Tryz.f125 1 L125b := loop_rnd (fun (x : d125b) => (x.1.2.2.2.1, x.2.2.2.1, x.2.2.2.2.1)) (fun (i : d125b) v => (((), (), (), v.1, ()), (i.2.1.1, i.2.1.2.1, (), i.2.1.2.2.2.1, ()), i.2.2.1, v.2.1, v.2.2, ()))
 (fun (i : d125b) _ rc fin v => spec_mfState_levels_l1K i.2.1.2.1 i.2.1.2.2.2.1 i.2.2.1 (fun a0 a5 a6 => rc (a0, a5, a6)) fin v.1 v.2.1 v.2.2) (fun _ => rfl) (fun _ => rfl) (fun i k v => by kernel_rfl) fun i _ rc _ _ hr v =>
 by unfold spec_mfState_levels_l1K; repeat' (first | exact .of (hr _) | constructor | intro _)
def c125 : Callee := mkC [.box [kI, kL, .sl (.int .i64), kM]] 1 [.one (.sl (.int .i64)), .box [kI, kL, .sl (.int .i64), kM]] fun x => spec_mfState_levels x
theorem k125 : Cal Tryz.prog 125 c125 := cal_mk (or := or125) Tryz.func125 (by kernel_rfl) (by kernel_rfl) mixed (EnvOk.nil : EnvOk _ EL125) (LoOk.mk (by kernel_rfl) (all3 ⟨_, by kernel_rfl, o125a⟩ ⟨_, by kernel_rfl, o125b⟩ ⟨_,
 by kernel_rfl, o125c⟩)) (fun _ fin x => spec_mfState_levelsK fin x) (fun _ => rfl) (fun x => by kernel_rfl) fun x _ _ => by unfold spec_mfState_levelsK; repeat' (first | constructor | intro _)
def EL157 : Nat → Option Callee := env0
def spec_l1LeastK {R : Type} (fin : Int → Option R) (x0 x1 : Int) : Option R := cond (decide (x0 < x1)) (fin x0) (fin x1)
def spec_l1Least (x0 x1 : Int) : Option (Int) := spec_l1LeastK some x0 x1
def c157 : Callee := mkC [rI, rI] 1 [rI] fun x => spec_l1Least x.1 x.2
theorem k157 : Cal Tryz.prog 157 c157 := cal_mk (or := or0) Tryz.func157 (by kernel_rfl) (by kernel_rfl) mixed (EnvOk.nil : EnvOk _ EL157) (LoOk.nil (by kernel_rfl)) (fun _ fin x => spec_l1LeastK fin x.1 x.2) (fun _ => rfl) (fun x =>
 by kernel_rfl) fun x _ _ => by unfold spec_l1LeastK; repeat' (first | constructor | intro _)
abbrev ps146 : List PK := [.box [kI, kL, .sl (.int .i64), kM], rI, rI, rL, .one (.sl (.int .i64))]
abbrev rs146 : List PK := [rI, .box [kI, kL, .sl (.int .i64), kM], .one (.sl (.int .i64))]
abbrev S146 := Q38 → Option (Int × Q29 × LI)
abbrev M146 (slf : S146) : Callee := mkC ps146 1 rs146 slf
def EL146 : Nat → Option Callee := addE 157 c157 env0
theorem vL146 : EnvOk Tryz.prog EL146 := EnvOk.nil.a k157
def sspec_mfState_push_l0 : LS := ⟨[(0, oP 0 0), (1, oI), (2, oI), (3, oL), (4, oS 2)], [.box [dI, dL, .fix (.sref 1), dM], .sl (.int .i64), .sl (.int .i64)], [0, 4]⟩
def sspec_mfState_push_l0x0 : LS := ⟨[(0, oP 0 0), (4, oS 2), (10, oI)], [.box [dI, dL, .fix (.sref 1), dM], .sl (.int .i64), .sl (.int .i64)], [0, 4]⟩
def sspec_mfState_push_l0x1 : LS := ⟨[(0, oP 0 0), (4, oS 2)], [.box [dI, dL, .fix (.sref 1), dM], .sl (.int .i64), .sl (.int .i64)], [0, 4]⟩
def xspec_mfState_push_l0 : List (XS (Int × Int × LI)) := [⟨.ret, ⟨[0, 4, 10], [.slot 0, .cell 0 2, .slot 4], [0, 4], []⟩, sspec_mfState_push_l0x0, Int × Int × LI × LL × LI × LI, fun i y => (((), (), y.1, ()), (y.2.1, y.2.2.1, (),
 y.2.2.2.1, ()), y.2.2.2.2.1, y.2.2.2.2.2, ())⟩,
  ⟨.exit 0, ⟨[0, 4], [.slot 0, .cell 0 2, .slot 4], [0, 4], []⟩, sspec_mfState_push_l0x1, Int × LI × LL × LI × LI, fun i y => (((), (), ()), (y.1, y.2.1, (), y.2.2.1, ()), y.2.2.2.1, y.2.2.2.2, ())⟩]
def spec_mfState_push_l0K {R : Type} (slf : S146) (a0 : Int) (a1 : Int) (a2 : LI) (rc : Int → LI → LL → LI → LI → Option R) (fin : Q42 → Option R) (a3 : Int) (a4 : LI) (a5 : LL) (a6 : LI) (a7 : LI) : Option R := cond (decide ((0 : Int) ≤
 a0) && decide (a0 < (a7.length : Int))) ((lat a5 a0).bind fun e1 => cond (decide ((a7.getD (0 + a0.toNat) 0) < (e1.length : Int))) ((lat a5 a0).bind fun e2 => cond (decide ((0 : Int) ≤ a0) && decide (a0 < (a7.length : Int))) ((lat e2
 (a7.getD (0 + a0.toNat) 0)).bind fun e3 => cond (decide ((0 : Int) ≤ e3) && decide (e3 < (a6.length : Int))) (cond ((a6.getD (0 + e3.toNat) 0) == 0) (cond (decide ((0 : Int) ≤ a0) && decide (a0 < (a7.length : Int))) (cond (decide ((0 :
 Int) ≤ a0) && decide (a0 < (a7.length : Int))) ((some (a7.set (0 + a0.toNat) (i64.wrap ((a7.getD (0 + a0.toNat) 0) + 1)))).bind fun v4 => rc a3 a4 a5 a6 v4) none) none) ((lat a4 e3).bind fun e5 => (lat a2 e5).bind fun e6 => (lat a2
 a0).bind fun e7 => cond (e6 != (i64.wrap (e7 + 1))) (cond (decide ((0 : Int) ≤ a0) && decide (a0 < (a7.length : Int))) (cond (decide ((0 : Int) ≤ a0) && decide (a0 < (a7.length : Int))) ((some (a7.set (0 + a0.toNat) (i64.wrap ((a7.getD (0
 + a0.toNat) 0) + 1)))).bind fun v8 => rc a3 a4 a5 a6 v8) none) none) ((lat a4 e3).bind fun e9 => cond (decide ((0 : Int) ≤ e3) && decide (e3 < (a6.length : Int))) ((spec_l1Least a1 (a6.getD (0 + e3.toNat) 0)).bind fun y10 => (slf ((a3,
 a4, a6, a5), e9, y10, a2, a7)).bind fun y11 => cond (decide (y11.1 > 0)) (cond (decide ((0 : Int) ≤ e3) && decide (e3 < (y11.2.1.2.2.1.length : Int))) (cond (decide ((0 : Int) ≤ e3) && decide (e3 < (y11.2.1.2.2.1.length : Int))) ((some
 (y11.2.1.2.2.1.set (0 + e3.toNat) (i64.wrap ((y11.2.1.2.2.1.getD (0 + e3.toNat) 0) - y11.1)))).bind fun v12 => cond (decide ((0 : Int) ≤ xorI .i64 e3 1) && decide (xorI .i64 e3 1 < (v12.length : Int))) (cond (decide ((0 : Int) ≤ xorI .i64
 e3 1) && decide (xorI .i64 e3 1 < (v12.length : Int))) ((some (v12.set (0 + (xorI .i64 e3 1).toNat) (i64.wrap ((v12.getD (0 + (xorI .i64 e3 1).toNat) 0) + y11.1)))).bind fun v13 => fin (.inl (y11.1, y11.2.1.1, y11.2.1.2.1, y11.2.1.2.2.2,
 v13, y11.2.2))) none) none) none) none) (cond (decide ((0 : Int) ≤ a0) && decide (a0 < (y11.2.2.length : Int))) (cond (decide ((0 : Int) ≤ a0) && decide (a0 < (y11.2.2.length : Int))) ((some (y11.2.2.set (0 + a0.toNat) (i64.wrap
 ((y11.2.2.getD (0 + a0.toNat) 0) + 1)))).bind fun v14 => rc y11.2.1.1 y11.2.1.2.1 y11.2.1.2.2.2 y11.2.1.2.2.1 v14) none) none)) none))) none) none) (fin (.inr (a3, a4, a5, a6, a7)))) none
def spec_mfState_push_l0F (slf : S146) (a0 : Int) (a1 : Int) (a2 : LI) (r : Q19 → Option Q42) (x : Q19) : Option Q42 := spec_mfState_push_l0K slf a0 a1 a2 (fun a3 a4 a5 a6 a7 => r (a3, a4, a5, a6, a7)) some x.1 x.2.1 x.2.2.1 x.2.2.2.1
 x.2.2.2.2
set_option maxHeartbeats 4000000 in
theorem spec_mfState_push_l0c (slf : S146) (a0 : Int) (a1 : Int) (a2 : LI) (x : Q19) : Ct fun r => spec_mfState_push_l0F slf a0 a1 a2 r x :=
 by unfold spec_mfState_push_l0F spec_mfState_push_l0K; apply CtI.ok; repeat' (first | constructor | intro _)
theorem spec_mfState_push_l0d (a0 : Int) (a1 : Int) (a2 : LI) (D : Q19 → (S146) → Option Q42) (hD : ∀ a, Ct (D a)) (x : Q19) : Ct fun slf => spec_mfState_push_l0F slf a0 a1 a2 (fun a => D a slf) x :=
 by unfold spec_mfState_push_l0F spec_mfState_push_l0K; apply CtI.ok; repeat' (first | exact .of (hD _) | constructor | intro _)
def spec_mfState_push_l0 (slf : S146) (a0 : Int) (a1 : Int) (a2 : LI) (a3 : Int) (a4 : LI) (a5 : LL) (a6 : LI) (a7 : LI) : Option Q42 := lim (spec_mfState_push_l0F slf a0 a1 a2) (a3, a4, a5, a6, a7)
theorem spec_mfState_push_l0_eq (slf : S146) (a0 : Int) (a1 : Int) (a2 : LI) (a3 : Int) (a4 : LI) (a5 : LL) (a6 : LI) (a7 : LI) : spec_mfState_push_l0 slf a0 a1 a2 a3 a4 a5 a6 a7 = spec_mfState_push_l0K slf a0 a1 a2 (spec_mfState_push_l0
 slf a0 a1 a2) some a3 a4 a5 a6 a7 := lim_eq (spec_mfState_push_l0c slf a0 a1 a2) (a3, a4, a5, a6, a7)
theorem spec_mfState_push_l0s (a0 : Int) (a1 : Int) (a2 : LI) (x : Q19) : Ct fun slf => lim (spec_mfState_push_l0F slf a0 a1 a2) x := Ct.lim (fun slf a => spec_mfState_push_l0c slf a0 a1 a2 a) (spec_mfState_push_l0d a0 a1 a2) x
set_option maxHeartbeats 4000000 in
theorem spec_mfState_push_l0p {R : Type} (slf : S146) (a0 : Int) (a1 : Int) (a2 : LI) {rc : Int → LI → LL → LI → LI → Option Q42} {rc' : Int → LI → LL → LI → LI → Option R} {fin : Q42 → Option R} (hr : ∀ a3 a4 a5 a6 a7, Par fin (rc a3 a4
 a5 a6 a7) (rc' a3 a4 a5 a6 a7)) (a3 : Int) (a4 : LI) (a5 : LL) (a6 : LI) (a7 : LI) : Par fin (spec_mfState_push_l0K slf a0 a1 a2 rc some a3 a4 a5 a6 a7) (spec_mfState_push_l0K slf a0 a1 a2 rc' fin a3 a4 a5 a6 a7) :=
 by unfold spec_mfState_push_l0K; apply ParI.ok; repeat' (first | exact .of (hr _ _ _ _ _) | constructor | intro _)
def Lspec_mfState_push_l0 (slf : S146) : Loop := mkL ⟨[0, 1, 2, 3, 4], [.slot 0, .cell 0 2, .slot 4], [0, 4], []⟩ sspec_mfState_push_l0 xspec_mfState_push_l0 (fun (x : Q14 × Q40) => (x.1.2.1, x.1.2.2.1, x.1.2.2.2.1)) fun (x : Q14 × Q40) =>
 spec_mfState_push_l0 slf x.1.2.1 x.1.2.2.1 x.1.2.2.2.1 x.2.1.1 x.2.1.2.1 x.2.1.2.2.2.1 x.2.2.1 x.2.2.2.1
def spec_mfState_pushK {R : Type} (slf : S146) (fin : Int × Q29 × LI → Option R) (x0 : Q29) (x1 : Int) (x2 : Int) (x3 : LI) (x4 : LI) : Option R := cond (x1 == (i64.wrap (x0.1 - 1))) (fin (x2, x0, x4)) ((spec_mfState_push_l0 slf x1 x2 x3
 x0.1 x0.2.1 x0.2.2.2 x0.2.2.1 x4).bind fun y15 => sumO y15 (fun y16 => fin (y16.1, (y16.2.1, y16.2.2.1, y16.2.2.2.2.1, y16.2.2.2.1), y16.2.2.2.2.2)) (fun y17 => fin (0, (y17.1, y17.2.1, y17.2.2.2.1, y17.2.2.1), y17.2.2.2.2)))
def spec_mfState_pushF (slf : S146) (x : Q38) : Option (Int × Q29 × LI) := spec_mfState_pushK slf some x.1 x.2.1 x.2.2.1 x.2.2.2.1 x.2.2.2.2
theorem spec_mfState_pushc (x : Q38) : Ct fun slf => spec_mfState_pushF slf x := by unfold spec_mfState_pushF spec_mfState_pushK; apply CtI.ok; repeat' (first | exact .of (spec_mfState_push_l0s _ _ _ _) | constructor | intro _)
def spec_mfState_push (x0 : Q29) (x1 : Int) (x2 : Int) (x3 : LI) (x4 : LI) : Option (Int × Q29 × LI) := lim spec_mfState_pushF (x0, x1, x2, x3, x4)
theorem spec_mfState_push_eq (x0 : Q29) (x1 : Int) (x2 : Int) (x3 : LI) (x4 : LI) : spec_mfState_push x0 x1 x2 x3 x4 = spec_mfState_pushK (fun x => spec_mfState_push x.1 x.2.1 x.2.2.1 x.2.2.2.1 x.2.2.2.2) some x0 x1 x2 x3 x4 := lim_eq
 spec_mfState_pushc (x0, x1, x2, x3, x4)
theorem p146 {R : Type} (slf : S146) (fin : Int × Q29 × LI → Option R) (x0 : Q29) (x1 : Int) (x2 : Int) (x3 : LI) (x4 : LI) : Par fin (spec_mfState_pushK slf some x0 x1 x2 x3 x4) (spec_mfState_pushK slf fin x0 x1 x2 x3 x4) :=
 by unfold spec_mfState_pushK; apply ParI.ok; repeat' (first | constructor | intro _)
def or146 (slf : S146) : Ora := { lo := addL 3 (Lspec_mfState_push_l0 slf) lo0, fin := [] }
theorem spec_mfState_push_l0e (slf : S146) (a0 : Int) (a1 : Int) (a2 : LI) (k : Nat) (a3 : Int) (a4 : LI) (a5 : LL) (a6 : LI) (a7 : LI) : loopC Tryz.prog (addE 146 (M146 slf) EL146) (or146 slf) ((loopsIn (codeOf Tryz.f146)).getD 0 .skip)
 (Lspec_mfState_push_l0 slf).h (Lspec_mfState_push_l0 slf).ho Tryz.f146.ntmps (k + 1) (sspec_mfState_push_l0.out (((), a0, a1, a2, (), ()), (a3, a4, (), a5, ()), a6, a7, ())) = spec_mfState_push_l0K slf a0 a1 a2 (fun a3 a4 a5 a6 a7 =>
 loopC Tryz.prog (addE 146 (M146 slf) EL146) (or146 slf) ((loopsIn (codeOf Tryz.f146)).getD 0 .skip) (Lspec_mfState_push_l0 slf).h (Lspec_mfState_push_l0 slf).ho Tryz.f146.ntmps k (sspec_mfState_push_l0.out (((), a0, a1, a2, (), ()), (a3,
 a4, (), a5, ()), a6, a7, ()))) (fun y => some (XS.out xspec_mfState_push_l0 (a0, a1, a2) y)) a3 a4 a5 a6 a7 := by kernel_rfl
theorem spec_mfState_push_l0o (slf : S146) : LoopOk Tryz.prog (addE 146 (M146 slf) EL146) (or146 slf) Tryz.f146.ntmps ((loopsIn (codeOf Tryz.f146)).getD 0 .skip) (Lspec_mfState_push_l0 slf) :=
  loop_lim (hs := sspec_mfState_push_l0) (xs := xspec_mfState_push_l0) (ι := fun (x : Q14 × Q40) => (x.1.2.1, x.1.2.2.1, x.1.2.2.2.1)) (φ := fun (x : Q14 × Q40) => (x.2.1.1, x.2.1.2.1, x.2.1.2.2.2.1, x.2.2.1, x.2.2.2.1)) (ψ := fun (i : Int
 × Int × LI) (v : Q19) => (((), i.1, i.2.1, i.2.2, (), ()), (v.1, v.2.1, (), v.2.2.1, ()), v.2.2.2.1, v.2.2.2.2, ())) (F := fun (i : Int × Int × LI) => spec_mfState_push_l0F slf i.1 i.2.1 i.2.2) (fun _ => rfl) fun i k hk v => Par.of_eq
 (spec_mfState_push_l0e slf i.1 i.2.1 i.2.2 k v.1 v.2.1 v.2.2.1 v.2.2.2.1 v.2.2.2.2) (spec_mfState_push_l0p slf i.1 i.2.1 i.2.2 (fun a3 a4 a5 a6 a7 => hk (a3, a4, a5, a6, a7)) v.1 v.2.1 v.2.2.1 v.2.2.2.1 v.2.2.2.2)
def c146 : Callee := M146 fun x => spec_mfState_push x.1 x.2.1 x.2.2.1 x.2.2.2.1 x.2.2.2.2
theorem e146 (slf : S146) (x : PK.dens ps146) : evalFn Tryz.prog (addE 146 (M146 slf) EL146) (or146 slf) Tryz.f146 (PK.outs ps146 x) = spec_mfState_pushK slf (fun y => some (tupOf ((PK.outs rs146 y).take 1), (PK.outs rs146 y).drop 1)) x.1
 x.2.1 x.2.2.1 x.2.2.2.1 x.2.2.2.2 := by kernel_rfl
theorem o146 (slf : S146) : LoOk Tryz.prog (addE 146 (M146 slf) EL146) (or146 slf) Tryz.f146.ntmps (loopsIn (codeOf Tryz.f146)) :=
  LoOk.mk (m := 1) (by kernel_rfl) fun i hi => match i, hi with
    | 0, _ => ⟨Lspec_mfState_push_l0 slf, by kernel_rfl, spec_mfState_push_l0o slf⟩
    | i + 1, hi => absurd hi (by omega)
theorem k146 : Cal Tryz.prog 146 c146 := ⟨⟨_, _, Tryz.func146, rfl, by kernel_rfl⟩, callee_rec (ps := ps146) (rs := rs146) (F := spec_mfState_pushF) fun slf hs => callee_mk Tryz.func146 (code := codeOf Tryz.f146) (by kernel_rfl) (vL146.add
 Tryz.func146 rfl (by kernel_rfl) hs) mixed (o146 slf) fun x y h => (e146 slf x).trans (p146 slf _ x.1 x.2.1 x.2.2.1 x.2.2.2.1 x.2.2.2.2 y h)⟩
def EL124 : Nat → Option Callee := addE 146 c146 (addE 125 c125 env0)
abbrev d124b := (U × Int × LI × U × U) × Q40
def s124b : LS := ⟨[(0, oP 0 0), (3, oI), (4, oL), (5, oS 2)], [.box [dI, dL, .fix (.sref 1), dM], .sl (.int .i64), .sl (.int .i64)], [0]⟩
def x124b : List (XS d124b) := [⟨.exit 2, ⟨[0, 3], [.slot 0, .cell 0 2], [0], []⟩, ⟨[(0, oP 0 0), (3, oI)], [.box [dI, dL, .fix (.sref 1), dM], .sl (.int .i64)], [0]⟩, Int × Int × LI × LL × LI, fun i y => (((), y.1, ()), (y.2.1, y.2.2.1,
 (), y.2.2.2.1, ()), y.2.2.2.2, ())⟩]
def spec_mfState_run_l1K {R : Type} (a1 : LI) (rc : Int → Int → LI → LL → LI → LI → Option R) (fin : Int × Int × LI × LL × LI → Option R) (a0 a2 : Int) (a3 : LI) (a4 : LL) (a5 a6 : LI) : Option R := (spec_mfState_push (a2, a3, a5, a4) 0
 1125899906842624 a1 a6).bind fun y1 => cond (y1.1 == 0) (fin (a0, y1.2.1.1, y1.2.1.2.1, y1.2.1.2.2.2, y1.2.1.2.2.1)) (rc (i64.wrap (a0 + y1.1)) y1.2.1.1 y1.2.1.2.1 y1.2.1.2.2.2 y1.2.1.2.2.1 y1.2.2)
def spec_mfState_run_l1 (a1 : LI) (a0 a2 : Int) (a3 : LI) (a4 : LL) (a5 a6 : LI) : Option Q16 := lim (fun r (x : Q12) => spec_mfState_run_l1K a1 (fun a0 a2 a3 a4 a5 a6 => r (a0, a2, a3, a4, a5, a6)) some x.1 x.2.1 x.2.2.1 x.2.2.2.1
 x.2.2.2.2.1 x.2.2.2.2.2) (a0, a2, a3, a4, a5, a6)
theorem spec_mfState_run_l1_eq (a1 : LI) (a0 a2 : Int) (a3 : LI) (a4 : LL) (a5 a6 : LI) : spec_mfState_run_l1 a1 a0 a2 a3 a4 a5 a6 = spec_mfState_run_l1K a1 (spec_mfState_run_l1 a1) some a0 a2 a3 a4 a5 a6 := lim_eqI (fun x =>
 by unfold spec_mfState_run_l1K; repeat' (first | constructor | intro _)) _
def L124b : Loop := mkM ⟨[0, 3, 4, 5], [.slot 0, .cell 0 2, .slot 5], [0], [.frz (.slot 4)]⟩ s124b x124b fun (x : d124b) => spec_mfState_run_l1 x.1.2.2.1 x.1.2.1 x.2.1.1 x.2.1.2.1 x.2.1.2.2.2.1 x.2.2.1 x.2.2.2.1
abbrev d124a := (U × Int × U) × (Q24 × LI × U)
def s124a : LS := ⟨[(0, oP 0 0), (3, oI)], [.box [dI, dL, .fix (.sref 1), dM], .sl (.int .i64)], [0]⟩
def x124a : List (XS d124a) := [⟨.ret, ⟨[0, 2], [.slot 0, .cell 0 2], [0], []⟩, ⟨[(0, oP 0 0), (2, oI)], [.box [dI, dL, .fix (.sref 1), dM], .sl (.int .i64)], [0]⟩, Int × Int × LI × LL × LI, fun i y => (((), y.1, ()), (y.2.1, y.2.2.1, (),
 y.2.2.2.1, ()), y.2.2.2.2, ())⟩]
def spec_mfState_run_l0K {R : Type} (rc : Int → Int → LI → LL → LI → Option R) (fin : Int × Int × LI × LL × LI → Option R) (a0 a1 : Int) (a2 : LI) (a3 : LL) (a4 : LI) : Option R := (spec_mfState_levels (a1, a2, a4, a3)).bind fun y1 => cond
 (decide ((0 : Int) ≤ i64.wrap (y1.2.1 - 1)) && decide (i64.wrap (y1.2.1 - 1) < (y1.1.length : Int))) (cond (decide ((y1.1.getD (0 + (i64.wrap (y1.2.1 - 1)).toNat) 0) < 0)) (fin (a0, y1.2.1, y1.2.2.1, y1.2.2.2.2, y1.2.2.2.1)) (cond (decide
 ((0 : Int) ≤ y1.2.1) && (decide (y1.2.1 ≤ y1.2.1) && decide (y1.2.1 ≤ 1099511627776))) ((some ((List.replicate y1.2.1.toNat 0 : LI))).bind fun v2 => (spec_mfState_run_l1 y1.1 a0 y1.2.1 y1.2.2.1 y1.2.2.2.2 y1.2.2.2.1 v2).bind fun y5 => rc
 y5.1 y5.2.1 y5.2.2.1 y5.2.2.2.1 y5.2.2.2.2) none)) none
def spec_mfState_run_l0 (a0 a1 : Int) (a2 : LI) (a3 : LL) (a4 : LI) : Option Q16 := lim (fun r (x : Q16) => spec_mfState_run_l0K (fun a0 a1 a2 a3 a4 => r (a0, a1, a2, a3, a4)) some x.1 x.2.1 x.2.2.1 x.2.2.2.1 x.2.2.2.2) (a0, a1, a2, a3, a4)
theorem spec_mfState_run_l0_eq (a0 a1 : Int) (a2 : LI) (a3 : LL) (a4 : LI) : spec_mfState_run_l0 a0 a1 a2 a3 a4 = spec_mfState_run_l0K spec_mfState_run_l0 some a0 a1 a2 a3 a4 := lim_eqI (fun x =>
 by unfold spec_mfState_run_l0K; repeat' (first | constructor | intro _)) _
def L124a : Loop := mkM ⟨[0, 3], [.slot 0, .cell 0 2], [0], []⟩ s124a x124a fun (x : d124a) => spec_mfState_run_l0 x.1.2.1 x.2.1.1 x.2.1.2.1 x.2.1.2.2.2.1 x.2.2.1
def spec_mfState_runK {R : Type} (fin : Int × Q29 → Option R) (x0 : Q29) : Option R := (spec_mfState_run_l0 0 x0.1 x0.2.1 x0.2.2.2 x0.2.2.1).bind fun y6 => fin (y6.1, y6.2.1, y6.2.2.1, y6.2.2.2.2, y6.2.2.2.1)
def spec_mfState_run (x0 : Q29) : Option (Int × Q29) := spec_mfState_runK some x0
def or124 : Ora := { lo := addL 2 L124a (addL 6 L124b lo0), fin := [] }
theorem o124b : LOk EL124 or124 Tryz.f124 1 L124b := loop_rnd (fun (x : d124b) => (x.1.2.1, x.2.1.1, x.2.1.2.1, x.2.1.2.2.2.1, x.2.2.1, x.2.2.2.1)) (fun (i : d124b) v => (((), v.1, i.1.2.2.1, (), ()), (v.2.1, v.2.2.1, (), v.2.2.2.1, ()),
 v.2.2.2.2.1, v.2.2.2.2.2, ())) (fun (i : d124b) _ rc fin v => spec_mfState_run_l1K i.1.2.2.1 (fun a0 a2 a3 a4 a5 a6 => rc (a0, a2, a3, a4, a5, a6)) fin v.1 v.2.1 v.2.2.1 v.2.2.2.1 v.2.2.2.2.1 v.2.2.2.2.2) (fun _ => rfl) (fun _ => rfl)
 (fun i k v => by kernel_rfl) fun i _ rc _ _ hr v => by unfold spec_mfState_run_l1K; repeat' (first | exact .of (hr _) | constructor | intro _)
theorem o124a : LOk EL124 or124 Tryz.f124 0 L124a := loop_rnd (fun (x : d124a) => (x.1.2.1, x.2.1.1, x.2.1.2.1, x.2.1.2.2.2.1, x.2.2.1)) (fun (i : d124a) v => (((), v.1, ()), (v.2.1, v.2.2.1, (), v.2.2.2.1, ()), v.2.2.2.2, ())) (fun (i :
 d124a) _ rc fin v => spec_mfState_run_l0K (fun a0 a1 a2 a3 a4 => rc (a0, a1, a2, a3, a4)) fin v.1 v.2.1 v.2.2.1 v.2.2.2.1 v.2.2.2.2) (fun _ => rfl) (fun _ => rfl) (fun i k v => by kernel_rfl) fun i _ rc _ _ hr v =>
 by unfold spec_mfState_run_l0K; repeat' (first | exact .of (hr _) | constructor | intro _)
def c124 : Callee := mkC [.box [kI, kL, .sl (.int .i64), kM]] 1 [rI, .box [kI, kL, .sl (.int .i64), kM]] fun x => spec_mfState_run x
theorem k124 : Cal Tryz.prog 124 c124 := cal_mk (or := or124) Tryz.func124 (by kernel_rfl) (by kernel_rfl) mixed (EnvOk.nil |>.a k125 |>.a k146 : EnvOk _ EL124) (LoOk.mk (by kernel_rfl) (all2 ⟨_, by kernel_rfl, o124a⟩ ⟨_, by kernel_rfl,
 o124b⟩)) (fun _ fin x => spec_mfState_runK fin x) (fun _ => rfl) (fun x => by kernel_rfl) fun x _ _ => by unfold spec_mfState_runK; repeat' (first | constructor | intro _)
def EL95 : Nat → Option Callee := addE 125 c125 (addE 124 c124 (addE 123 c123 env0))
abbrev d95a := Q23 × (LI × LI × U)
def s95a : LS := ⟨[(6, oS 0), (15, oS 1), (16, oI), (17, oI)], [.sl (.int .i64), .sl (.int .i64)], []⟩
def x95a : List (XS d95a) := [⟨.exit 0, ⟨[6], [.slot 6], [], []⟩, ⟨[(6, oS 0)], [.sl (.int .i64)], []⟩, LI, fun i y => (((), ()), y, ())⟩]
def spec_mfLeast_l0K {R : Type} (a0 : Int) (a3 : LI) (rc : Int → LI → Option R) (fin : LI → Option R) (a1 : Int) (a2 : LI) : Option R := cond (decide (a1 < a0)) (cond (decide ((0 : Int) ≤ a1) && decide (a1 < (a3.length : Int))) (cond
 (decide ((a3.getD (0 + a1.toNat) 0) ≥ 0)) (cond (decide (a2.length + [a1].length ≤ 1099511627776)) (rc (i64.wrap (a1 + 1)) (a2 ++ [a1])) none) (rc (i64.wrap (a1 + 1)) a2)) none) (fin a2)
def spec_mfLeast_l0 (a0 : Int) (a3 : LI) (a1 : Int) (a2 : LI) : Option (LI) := lim (fun r (x : Q34) => spec_mfLeast_l0K a0 a3 (fun a1 a2 => r (a1, a2)) some x.1 x.2) (a1, a2)
theorem spec_mfLeast_l0_eq (a0 : Int) (a3 : LI) (a1 : Int) (a2 : LI) : spec_mfLeast_l0 a0 a3 a1 a2 = spec_mfLeast_l0K a0 a3 (spec_mfLeast_l0 a0 a3) some a1 a2 := lim_eqI (fun x =>
 by unfold spec_mfLeast_l0K; repeat' (first | constructor | intro _)) _
def L95a : Loop := mkM ⟨[6, 15, 16, 17], [.slot 6, .slot 15], [], [.own (.slot 6) (.int .i64)]⟩ s95a x95a fun (x : d95a) => spec_mfLeast_l0 x.1.2.2.1 x.2.2.1 x.1.2.2.2.1 x.2.1
def spec_mfLeastK {R : Type} (fin : LI → Option R) (x0 : Int) (x1 : List DGrid) : Option R := (spec_mfStart x0 x1).bind fun y1 => (spec_mfState_run y1).bind fun y2 => (spec_mfState_levels y2.2).bind fun y3 => (spec_mfLeast_l0 (y3.1.length
 : Int) y3.1 0 []).bind fun y4 => fin y4
def spec_mfLeast (x0 : Int) (x1 : List DGrid) : Option (LI) := spec_mfLeastK some x0 x1
def or95 : Ora := { lo := addL 5 L95a lo0, fin := [], fz := fun i => cond (decide (i = 2)) [.frz (.cell 5 1), .frz (.cell 5 3)] <| [] }
theorem o95a : LOk EL95 or95 Tryz.f95 0 L95a := loop_rnd (fun (x : d95a) => (x.1.2.2.2.1, x.2.1)) (fun (i : d95a) v => (((), (), i.1.2.2.1, v.1, ()), v.2, i.2.2.1, ())) (fun (i : d95a) _ rc fin v => spec_mfLeast_l0K i.1.2.2.1 i.2.2.1 (fun
 a1 a2 => rc (a1, a2)) fin v.1 v.2) (fun _ => rfl) (fun _ => rfl) (fun i k v => by kernel_rfl) fun i _ rc _ _ hr v => by unfold spec_mfLeast_l0K; repeat' (first | exact .of (hr _) | constructor | intro _)
def c95 : Callee := mkC [rI, .one (.ro (.slice TGrid))] 1 [.one (.sl (.int .i64))] fun x => spec_mfLeast x.1 x.2
theorem k95 : Cal Tryz.prog 95 c95 := cal_mk (or := or95) Tryz.func95 (by kernel_rfl) (by kernel_rfl) mixed (EnvOk.nil |>.a k123 |>.a k124 |>.a k125 : EnvOk _ EL95) (LoOk.mk (by kernel_rfl) (all1 ⟨_, by kernel_rfl, o95a⟩)) (fun _ fin x =>
 spec_mfLeastK fin x.1 x.2) (fun _ => rfl) (fun x => by kernel_rfl) fun x _ _ => by unfold spec_mfLeastK; repeat' (first | constructor | intro _)
end
end Go.OAI
