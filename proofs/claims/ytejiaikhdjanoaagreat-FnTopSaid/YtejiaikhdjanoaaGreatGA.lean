/- Contracts: GA. -/
import Derived.Test.YtejiaikhdjanoaaGreatK3
import Derived.Test.YtejiaikhdjanoaaGreatProg
import Derived.Test.YtejiaikhdjanoaaGreatKL
namespace Go.OAI
open Go.Proofs
open Go.IntKind (i64 u64 u8)
set_option linter.unusedVariables false
noncomputable section
@[reducible] def TGrid : Ty := .pair (.int .i64) (.pair (.int .i64) (.pair (.int .i64) .unit))
abbrev DGrid : Type := Int × Int × Int × Unit
@[reducible] def TLimits : Ty := .pair (.int .i64) (.pair (.int .i64) .unit)
abbrev DLimits : Type := Int × Int × Unit
@[reducible] def TJob : Ty := .pair (.slice (.slice (.int .i64))) (.pair (.slice (.int .i64)) (.pair (.slice (.int .i64)) (.pair TLimits (.pair (.int .i64) (.pair (.int .i64) (.pair (.int .i64) .unit))))))
abbrev DJob : Type := (List (List Int)) × (List Int) × (List Int) × DLimits × Int × Int × Int × Unit
@[reducible] def TModel : Ty := .pair TGrid (.pair (.slice (.int .i64)) (.pair (.slice (.int .i64)) (.pair (.slice (.int .i64)) .unit)))
abbrev DModel : Type := DGrid × (List Int) × (List Int) × (List Int) × Unit
@[reducible] def TPile : Ty := .pair .bool (.pair (.int .i64) (.pair (.slice TLimits) .unit))
abbrev DPile : Type := Bool × Int × (List DLimits) × Unit
@[reducible] def TPlan : Ty := .pair (.int .i64) (.pair (.slice (.int .i64)) .unit)
abbrev DPlan : Type := Int × (List Int) × Unit
@[reducible] def TPrices : Ty := .pair (.int .i64) (.pair (.int .i64) (.pair (.int .i64) (.pair (.int .i64) .unit)))
abbrev DPrices : Type := Int × Int × Int × Int × Unit
@[reducible] def TSlopes : Ty := .pair (.slice (.int .i64)) (.pair (.slice (.slice TGrid)) .unit)
abbrev DSlopes : Type := (List Int) × (List (List DGrid)) × Unit
def or0 : Ora := { lo := fun _ => none }
theorem mixed : Tryz.prog.follows .mixedOrders = true := by kernel_rfl
abbrev LI := List Int
abbrev LL := List (List Int)
abbrev LB := List Bool
abbrev U := Unit
abbrev oI : SS := .one (.dat (.int .i64))
abbrev oL : SS := .one (.dat (.slice (.int .i64)))
abbrev oM : SS := .one (.dat (.slice (.slice (.int .i64))))
abbrev oB : SS := .one (.dat .bool)
abbrev oP (a b : Nat) : SS := .one (.fix (.ptr a b))
abbrev oS (a : Nat) : SS := .one (.fix (.sref a))
abbrev oN : SS := .one (.fix .nils)
abbrev dI : SK := .dat (.int .i64)
abbrev dL : SK := .dat (.slice (.int .i64))
abbrev dM : SK := .dat (.slice (.slice (.int .i64)))
abbrev dB : SK := .dat .bool
abbrev rI : PK := .one (.ro (.int .i64))
abbrev rL : PK := .one (.ro (.slice (.int .i64)))
abbrev rM : PK := .one (.ro (.slice (.slice (.int .i64))))
abbrev rB : PK := .one (.ro .bool)
abbrev kI : CK := .ro (.int .i64)
abbrev kL : CK := .ro (.slice (.int .i64))
abbrev kM : CK := .ro (.slice (.slice (.int .i64)))
abbrev kB : CK := .ro .bool
abbrev LOk (E : Nat → Option Callee) (or : Ora) (f : Func) (i : Nat) (L : Loop) := LoopOk Tryz.prog E or f.ntmps ((loopsIn (codeOf f)).getD i .skip) L
abbrev Q0 := Int × LL × LI × LI × Int × Int × Int × Int × Int × Int × Int × Int × Int × Int × Int × Bool × LI × LL × LI × LI
abbrev Q1 := LL × LI × LI × Int × Int × Int × Int × Int × Int × U × U × U × Int × U × Int × Int × Int × Int × Bool × U
abbrev Q2 := LL × LI × LI × Int × Int × Int × Int × Int × Int × LI × LL × LI × Int × LI × Int × Int × Int × Int × Bool
abbrev Q3 := LL × LI × LI × Int × Int × Int × Int × Int × Int × Int × Int × Int × Int × Int × Bool × LI × LL × LI × LI
abbrev Q4 := Int × LL × LI × LI × Int × Int × Int × Int × Int × Int × LI × Int × Int × Int
abbrev Q5 := LL × LI × LI × Int × Int × Int × Int × Int × Int × LI × Int × Int × Int × U
abbrev Q6 := LL × LI × LI × Int × Int × Int × Int × Int × Int × LI × Int × Int × Int
abbrev Q7 := LL × LI × LI × Int × Int × Int × Int × Int × U
abbrev Q8 := Int × Int × Int × LI × LI × LI × U
abbrev Q9 := U × Int × Int × U × Int × Int × U
abbrev Q10 := Int × Int × Int × U × U × U × U
abbrev Q11 := Int × Int × Int × LI × LI × LI
abbrev Q12 := Int × Int × LI × LL × LI × LI
abbrev Q13 := Int × LL × LI × LI × LI × LI
abbrev Q14 := U × Int × Int × LI × U × U
abbrev Q15 := U × U × U × Int × Int × U
abbrev Q16 := Int × Int × LI × LL × LI
abbrev Q17 := LL × LL × Int × Int × U
abbrev Q18 := LL × LI × U × U × U × U
abbrev Q19 := Int × LI × LL × LI × LI
abbrev Q20 := U × LI × Int × Int × U
abbrev Q21 := LL × LI × LI × LI × LI
abbrev Q22 := U × LL × Int × Int × U
abbrev Q23 := U × U × Int × Int × U
abbrev Q24 := Int × LI × U × LL × U
abbrev Q25 := Int × Int × Int × LI
abbrev Q26 := U × U × U × Int × U
abbrev Q27 := Int × Int × Int × U
abbrev Q28 := LI × Int × Int × U
abbrev Q29 := Int × LI × LI × LL
abbrev Q30 := U × Int × Int × U
abbrev Q31 := LI × Int × Int
abbrev Q32 := Int × Int
abbrev Q33 := Bool ⊕ U
abbrev Q34 := Int × LI
abbrev Q35 := Int × LL
abbrev Q36 := Q18 × LI × LI × LI × LB × LI × U
abbrev Q37 := Q1 × LI × LL × LI × LI × LI × U
abbrev Q38 := Q29 × Int × Int × LI × LI
abbrev Q39 := Q18 × LI × LI × LI × U
abbrev Q40 := Q24 × LI × LI × U
abbrev Q41 := Q13 ⊕ Q21
abbrev Q42 := Q12 ⊕ Q19
def EL4 : Nat → Option Callee := env0
def laws_bigK {R : Type} (fin : Bool → Option R) (x0 x1 : LI) : Option R := cond (decide ((x0.length : Int) > 1048576)) (fin true) (fin (decide ((x1.length : Int) > (i64.wrap (1048576 - (x0.length : Int))))))
def laws_big (x0 x1 : LI) : Option (Bool) := laws_bigK some x0 x1
def c4 : Callee := mkC [.one (.ro (.slice (.int .u8))), .one (.ro (.slice (.int .u8)))] 1 [rB] fun x => laws_big x.1 x.2
theorem k4 : Cal Tryz.prog 4 c4 := cal_mk (or := or0) Tryz.func4 (by kernel_rfl) (by kernel_rfl) mixed (EnvOk.nil : EnvOk _ EL4) (LoOk.nil (by kernel_rfl)) (fun _ fin x => laws_bigK fin x.1 x.2) (fun _ => rfl) (fun x => by kernel_rfl) fun
 x _ _ => by unfold laws_bigK; repeat' (first | constructor | intro _)
def EL50 : Nat → Option Callee := env0
abbrev d50a := (LI × Int × LI × Int × Int × U) × (U)
def s50a : LS := ⟨[(0, oL), (1, oI), (7, oL), (8, oI), (9, oI)], [], []⟩
def x50a : List (XS d50a) := [⟨.ret, ⟨[4], [], [], []⟩, ⟨[(4, oB)], [], []⟩, Bool, fun i y => ((y, ()), ())⟩, ⟨.exit 0, ⟨[], [], [], []⟩, ⟨[], [], []⟩, U, fun i y => ((), ())⟩]
def impl_areBlocks_l0K {R : Type} (a0 : LI) (a1 : Int) (a2 : LI) (a3 : Int) (rc : Int → Option R) (fin : Q33 → Option R) (a4 : Int) : Option R := cond (decide (a4 < a3)) ((lat a2 a4).bind fun e1 => cond (decide (e1 < 0)) (fin (.inl false))
 (cond (decide (e1 ≥ a1)) (fin (.inl false)) (cond (decide (a4 > 0)) ((lat a0 (i64.wrap (a4 - 1))).bind fun e2 => cond (decide (e1 ≤ e2)) (fin (.inl false)) (rc (i64.wrap (a4 + 1)))) (rc (i64.wrap (a4 + 1)))))) (fin (.inr ()))
def impl_areBlocks_l0 (a0 : LI) (a1 : Int) (a2 : LI) (a3 : Int) (a4 : Int) : Option Q33 := lim (fun r (x : Int) => impl_areBlocks_l0K a0 a1 a2 a3 (fun a4 => r a4) some x) a4
theorem impl_areBlocks_l0_eq (a0 : LI) (a1 : Int) (a2 : LI) (a3 : Int) (a4 : Int) : impl_areBlocks_l0 a0 a1 a2 a3 a4 = impl_areBlocks_l0K a0 a1 a2 a3 (impl_areBlocks_l0 a0 a1 a2 a3) some a4 := lim_eqI (fun x =>
 by unfold impl_areBlocks_l0K; repeat' (first | constructor | intro _)) _
def L50a : Loop := mkM ⟨[0, 1, 7, 8, 9], [], [], []⟩ s50a x50a fun (x : d50a) => impl_areBlocks_l0 x.1.1 x.1.2.1 x.1.2.2.1 x.1.2.2.2.1 x.1.2.2.2.2.1
def impl_areBlocksK {R : Type} (fin : Bool → Option R) (x0 : LI) (x1 : Int) : Option R := (impl_areBlocks_l0 x0 x1 x0 (x0.length : Int) 0).bind fun y3 => sumO y3 (fun y4 => fin y4) (fun y5 => fin true)
def impl_areBlocks (x0 : LI) (x1 : Int) : Option (Bool) := impl_areBlocksK some x0 x1
def or50 : Ora := { lo := addL 2 L50a lo0, fin := [] }
theorem o50a : LOk EL50 or50 Tryz.f50 0 L50a := loop_rnd (fun (x : d50a) => x.1.2.2.2.2.1) (fun (i : d50a) v => ((i.1.1, i.1.2.1, i.1.2.2.1, i.1.2.2.2.1, v, ()), ())) (fun (i : d50a) _ rc fin v => impl_areBlocks_l0K i.1.1 i.1.2.1 i.1.2.2.1
 i.1.2.2.2.1 (fun a4 => rc a4) fin v) (fun _ => rfl) (fun _ => rfl) (fun i k v => by kernel_rfl) fun i _ rc _ _ hr v => by unfold impl_areBlocks_l0K; repeat' (first | exact .of (hr _) | constructor | intro _)
def c50 : Callee := mkC [rL, rI] 1 [rB] fun x => impl_areBlocks x.1 x.2
theorem k50 : Cal Tryz.prog 50 c50 := cal_mk (or := or50) Tryz.func50 (by kernel_rfl) (by kernel_rfl) mixed (EnvOk.nil : EnvOk _ EL50) (LoOk.mk (by kernel_rfl) (all1 ⟨_, by kernel_rfl, o50a⟩)) (fun _ fin x => impl_areBlocksK fin x.1 x.2)
 (fun _ => rfl) (fun x => by kernel_rfl) fun x _ _ => by unfold impl_areBlocksK; repeat' (first | constructor | intro _)
def EL49 : Nat → Option Callee := addE 50 c50 env0
abbrev d49a := (LL × Int × Int × U) × (U)
def s49a : LS := ⟨[(13, oM), (14, oI), (15, oI)], [], []⟩
def x49a : List (XS d49a) := [⟨.ret, ⟨[2], [], [], []⟩, ⟨[(2, oB)], [], []⟩, Bool, fun i y => ((y, ()), ())⟩, ⟨.exit 0, ⟨[], [], [], []⟩, ⟨[], [], []⟩, U, fun i y => ((), ())⟩]
def impl_AreArcs_l0K {R : Type} (a0 : LL) (a1 : Int) (rc : Int → Option R) (fin : Q33 → Option R) (a2 : Int) : Option R := cond (decide (a2 < a1)) ((lat a0 a2).bind fun e1 => (impl_areBlocks e1 a2).bind fun y2 => cond (!y2) (fin (.inl
 false)) (rc (i64.wrap (a2 + 1)))) (fin (.inr ()))
def impl_AreArcs_l0 (a0 : LL) (a1 : Int) (a2 : Int) : Option Q33 := lim (fun r (x : Int) => impl_AreArcs_l0K a0 a1 (fun a2 => r a2) some x) a2
theorem impl_AreArcs_l0_eq (a0 : LL) (a1 : Int) (a2 : Int) : impl_AreArcs_l0 a0 a1 a2 = impl_AreArcs_l0K a0 a1 (impl_AreArcs_l0 a0 a1) some a2 := lim_eqI (fun x => by unfold impl_AreArcs_l0K; repeat' (first | constructor | intro _)) _
def L49a : Loop := mkM ⟨[13, 14, 15], [], [], []⟩ s49a x49a fun (x : d49a) => impl_AreArcs_l0 x.1.1 x.1.2.1 x.1.2.2.1
def impl_AreArcsK {R : Type} (fin : Bool → Option R) (x0 : LL) : Option R := cond (decide ((x0.length : Int) < 1)) (fin false) (cond (decide ((x0.length : Int) > 120)) (fin false) ((impl_AreArcs_l0 x0 (x0.length : Int) 0).bind fun y3 =>
 sumO y3 (fun y4 => fin y4) (fun y5 => fin true)))
def impl_AreArcs (x0 : LL) : Option (Bool) := impl_AreArcsK some x0
def or49 : Ora := { lo := addL 4 L49a lo0, fin := [] }
theorem o49a : LOk EL49 or49 Tryz.f49 0 L49a := loop_rnd (fun (x : d49a) => x.1.2.2.1) (fun (i : d49a) v => ((i.1.1, i.1.2.1, v, ()), ())) (fun (i : d49a) _ rc fin v => impl_AreArcs_l0K i.1.1 i.1.2.1 (fun a2 => rc a2) fin v) (fun _ => rfl)
 (fun _ => rfl) (fun i k v => by kernel_rfl) fun i _ rc _ _ hr v => by unfold impl_AreArcs_l0K; repeat' (first | exact .of (hr _) | constructor | intro _)
def c49 : Callee := mkC [rM] 1 [rB] fun x => impl_AreArcs x
theorem k49 : Cal Tryz.prog 49 c49 := cal_mk (or := or49) Tryz.func49 (by kernel_rfl) (by kernel_rfl) mixed (EnvOk.nil |>.a k50 : EnvOk _ EL49) (LoOk.mk (by kernel_rfl) (all1 ⟨_, by kernel_rfl, o49a⟩)) (fun _ fin x => impl_AreArcsK fin x)
 (fun _ => rfl) (fun x => by kernel_rfl) fun x _ _ => by unfold impl_AreArcsK; repeat' (first | constructor | intro _)
def EL54 : Nat → Option Callee := env0
abbrev d54a := Q28 × (U)
def s54a : LS := ⟨[(13, oL), (14, oI), (15, oI)], [], []⟩
def x54a : List (XS d54a) := [⟨.ret, ⟨[2], [], [], []⟩, ⟨[(2, oB)], [], []⟩, Bool, fun i y => ((y, ()), ())⟩, ⟨.exit 0, ⟨[], [], [], []⟩, ⟨[], [], []⟩, U, fun i y => ((), ())⟩]
def impl_goodValues_l0K {R : Type} (a0 : LI) (a1 : Int) (rc : Int → Option R) (fin : Q33 → Option R) (a2 : Int) : Option R := cond (decide (a2 < a1)) ((lat a0 a2).bind fun e1 => cond (decide (e1 < (-1000000))) (fin (.inl false)) (cond
 (decide (e1 > 1000000)) (fin (.inl false)) (rc (i64.wrap (a2 + 1))))) (fin (.inr ()))
def impl_goodValues_l0 (a0 : LI) (a1 : Int) (a2 : Int) : Option Q33 := lim (fun r (x : Int) => impl_goodValues_l0K a0 a1 (fun a2 => r a2) some x) a2
theorem impl_goodValues_l0_eq (a0 : LI) (a1 : Int) (a2 : Int) : impl_goodValues_l0 a0 a1 a2 = impl_goodValues_l0K a0 a1 (impl_goodValues_l0 a0 a1) some a2 := lim_eqI (fun x =>
 by unfold impl_goodValues_l0K; repeat' (first | constructor | intro _)) _
def L54a : Loop := mkM ⟨[13, 14, 15], [], [], []⟩ s54a x54a fun (x : d54a) => impl_goodValues_l0 x.1.1 x.1.2.1 x.1.2.2.1
def impl_goodValuesK {R : Type} (fin : Bool → Option R) (x0 : LI) : Option R := cond (decide ((x0.length : Int) < 1)) (fin false) (cond (decide ((x0.length : Int) > 120)) (fin false) ((impl_goodValues_l0 x0 (x0.length : Int) 0).bind fun y2
 => sumO y2 (fun y3 => fin y3) (fun y4 => fin true)))
def impl_goodValues (x0 : LI) : Option (Bool) := impl_goodValuesK some x0
def or54 : Ora := { lo := addL 4 L54a lo0, fin := [] }
theorem o54a : LOk EL54 or54 Tryz.f54 0 L54a := loop_rnd (fun (x : d54a) => x.1.2.2.1) (fun (i : d54a) v => ((i.1.1, i.1.2.1, v, ()), ())) (fun (i : d54a) _ rc fin v => impl_goodValues_l0K i.1.1 i.1.2.1 (fun a2 => rc a2) fin v) (fun _ =>
 rfl) (fun _ => rfl) (fun i k v => by kernel_rfl) fun i _ rc _ _ hr v => by unfold impl_goodValues_l0K; repeat' (first | exact .of (hr _) | constructor | intro _)
def c54 : Callee := mkC [rL] 1 [rB] fun x => impl_goodValues x
theorem k54 : Cal Tryz.prog 54 c54 := cal_mk (or := or54) Tryz.func54 (by kernel_rfl) (by kernel_rfl) mixed (EnvOk.nil : EnvOk _ EL54) (LoOk.mk (by kernel_rfl) (all1 ⟨_, by kernel_rfl, o54a⟩)) (fun _ fin x => impl_goodValuesK fin x) (fun _
 => rfl) (fun x => by kernel_rfl) fun x _ _ => by unfold impl_goodValuesK; repeat' (first | constructor | intro _)
def EL44 : Nat → Option Callee := addE 54 c54 (addE 49 c49 env0)
def impl_areValuedK {R : Type} (fin : Bool → Option R) (x0 : LL) (x1 : LI) : Option R := (impl_AreArcs x0).bind fun y1 => cond (y1) ((impl_goodValues x1).bind fun y2 => cond (y2) (fin ((x1.length : Int) == (x0.length : Int))) (fin false))
 (fin false)
def impl_areValued (x0 : LL) (x1 : LI) : Option (Bool) := impl_areValuedK some x0 x1
def c44 : Callee := mkC [rM, rL] 1 [rB] fun x => impl_areValued x.1 x.2
theorem k44 : Cal Tryz.prog 44 c44 := cal_mk (or := or0) Tryz.func44 (by kernel_rfl) (by kernel_rfl) mixed (EnvOk.nil |>.a k49 |>.a k54 : EnvOk _ EL44) (LoOk.nil (by kernel_rfl)) (fun _ fin x => impl_areValuedK fin x.1 x.2) (fun _ => rfl)
 (fun x => by kernel_rfl) fun x _ _ => by unfold impl_areValuedK; repeat' (first | constructor | intro _)
def EL62 : Nat → Option Callee := addE 44 c44 env0
abbrev d62a := Q20 × (Q7 × U)
def s62a : LS := ⟨[(1, oP 0 0), (21, oL), (22, oI), (23, oI)], [.box [dM, dL, dL, dI, dI, dI, dI, dI]], []⟩
def x62a : List (XS d62a) := [⟨.ret, ⟨[2], [], [], []⟩, ⟨[(2, oB)], [], []⟩, Bool, fun i y => ((y, ()), ())⟩, ⟨.exit 0, ⟨[1], [.slot 1], [], []⟩, ⟨[(1, oP 0 0)], [.box [dM, dL, dL, dI, dI, dI, dI, dI]], []⟩, U, fun i y => (((), ()),
 (i.2.1.1, i.2.1.2.1, i.2.1.2.2.1, i.2.1.2.2.2.1, i.2.1.2.2.2.2.1, i.2.1.2.2.2.2.2.1, i.2.1.2.2.2.2.2.2.1, i.2.1.2.2.2.2.2.2.2.1, ()), ())⟩]
def impl_IsJob_l0K {R : Type} (a0 : LI) (a1 : Int) (rc : Int → Option R) (fin : Q33 → Option R) (a2 : Int) : Option R := cond (decide (a2 < a1)) ((lat a0 a2).bind fun e1 => cond (decide (e1 < 0)) (fin (.inl false)) (cond (decide (e1 >
 10000)) (fin (.inl false)) (rc (i64.wrap (a2 + 1))))) (fin (.inr ()))
def impl_IsJob_l0 (a0 : LI) (a1 : Int) (a2 : Int) : Option Q33 := lim (fun r (x : Int) => impl_IsJob_l0K a0 a1 (fun a2 => r a2) some x) a2
theorem impl_IsJob_l0_eq (a0 : LI) (a1 : Int) (a2 : Int) : impl_IsJob_l0 a0 a1 a2 = impl_IsJob_l0K a0 a1 (impl_IsJob_l0 a0 a1) some a2 := lim_eqI (fun x => by unfold impl_IsJob_l0K; repeat' (first | constructor | intro _)) _
def L62a : Loop := mkM ⟨[1, 21, 22, 23], [.slot 1], [], []⟩ s62a x62a fun (x : d62a) => impl_IsJob_l0 x.1.2.1 x.1.2.2.1 x.1.2.2.2.1
def impl_IsJobK {R : Type} (fin : Bool → Option R) (x0 : DJob) : Option R := (impl_areValued x0.1 x0.2.2.1).bind fun y1 => cond (!y1) (fin false) (cond ((x0.2.1.length : Int) != (x0.1.length : Int)) (fin false) ((impl_IsJob_l0 x0.2.1
 (x0.2.1.length : Int) 0).bind fun y3 => sumO y3 (fun y4 => fin y4) (fun y5 => cond (decide (x0.2.2.2.1.1 ≥ 0)) (cond (decide (x0.2.2.2.1.1 ≤ 1000000)) (cond (decide (x0.2.2.2.1.2.1 ≥ 0)) (cond (decide (x0.2.2.2.1.2.1 ≤ 1000000)) (cond
 (decide (x0.2.2.2.2.1 ≥ 1)) (cond (decide (x0.2.2.2.2.1 ≤ 6)) (cond (decide (x0.2.2.2.2.2.1 ≥ 1)) (cond (decide (x0.2.2.2.2.2.1 ≤ x0.2.2.2.2.2.2.1)) (fin (decide (x0.2.2.2.2.2.2.1 ≤ 20))) (fin false)) (fin false)) (fin false)) (fin
 false)) (fin false)) (fin false)) (fin false)) (fin false))))
def impl_IsJob (x0 : DJob) : Option (Bool) := impl_IsJobK some x0
def or62 : Ora := { lo := addL 4 L62a lo0, fin := [] }
theorem o62a : LOk EL62 or62 Tryz.f62 0 L62a := loop_rnd (fun (x : d62a) => x.1.2.2.2.1) (fun (i : d62a) v => (((), i.1.2.1, i.1.2.2.1, v, ()), (i.2.1.1, i.2.1.2.1, i.2.1.2.2.1, i.2.1.2.2.2.1, i.2.1.2.2.2.2.1, i.2.1.2.2.2.2.2.1,
 i.2.1.2.2.2.2.2.2.1, i.2.1.2.2.2.2.2.2.2.1, ()), ())) (fun (i : d62a) _ rc fin v => impl_IsJob_l0K i.1.2.1 i.1.2.2.1 (fun a2 => rc a2) fin v) (fun _ => rfl) (fun _ => rfl) (fun i k v => by kernel_rfl) fun i _ rc _ _ hr v =>
 by unfold impl_IsJob_l0K; repeat' (first | exact .of (hr _) | constructor | intro _)
def c62 : Callee := mkC [.agg [.ro TJob]] 1 [rB] fun x => impl_IsJob x
theorem k62 : Cal Tryz.prog 62 c62 := cal_mk (or := or62) Tryz.func62 (by kernel_rfl) (by kernel_rfl) mixed (EnvOk.nil |>.a k44 : EnvOk _ EL62) (LoOk.mk (by kernel_rfl) (all1 ⟨_, by kernel_rfl, o62a⟩)) (fun _ fin x => impl_IsJobK fin x)
 (fun _ => rfl) (fun x => by kernel_rfl) fun x _ _ => by unfold impl_IsJobK; repeat' (first | constructor | intro _)
def EL63 : Nat → Option Callee := env0
abbrev d63a := Q20 × (Q7 × U)
def s63a : LS := ⟨[(2, oP 0 0), (22, oL), (23, oI), (24, oI)], [.box [dM, dL, dL, dI, dI, dI, dI, dI]], []⟩
def x63a : List (XS d63a) := [⟨.ret, ⟨[4], [], [], []⟩, ⟨[(4, oB)], [], []⟩, Bool, fun i y => ((y, ()), ())⟩, ⟨.exit 0, ⟨[], [], [], []⟩, ⟨[], [], []⟩, U, fun i y => ((), ())⟩]
def impl_isPlan_l0K {R : Type} (a0 : LI) (a1 a8 : Int) (rc : Int → Option R) (fin : Q33 → Option R) (a2 : Int) : Option R := cond (decide (a2 < a1)) ((lat a0 a2).bind fun e1 => cond (decide (e1 < (-1))) (fin (.inl false)) (cond (decide (e1
 ≥ a8)) (fin (.inl false)) (rc (i64.wrap (a2 + 1))))) (fin (.inr ()))
def impl_isPlan_l0 (a0 : LI) (a1 a8 : Int) (a2 : Int) : Option Q33 := lim (fun r (x : Int) => impl_isPlan_l0K a0 a1 a8 (fun a2 => r a2) some x) a2
theorem impl_isPlan_l0_eq (a0 : LI) (a1 a8 : Int) (a2 : Int) : impl_isPlan_l0 a0 a1 a8 a2 = impl_isPlan_l0K a0 a1 a8 (impl_isPlan_l0 a0 a1 a8) some a2 := lim_eqI (fun x => by unfold impl_isPlan_l0K; repeat' (first | constructor | intro _))
 _
def L63a : Loop := mkM ⟨[2, 22, 23, 24], [.slot 2], [], []⟩ s63a x63a fun (x : d63a) => impl_isPlan_l0 x.1.2.1 x.1.2.2.1 x.2.1.2.2.2.2.2.1 x.1.2.2.2.1
def impl_isPlanK {R : Type} (fin : Bool → Option R) (x0 : DJob) (x1 : DPlan) : Option R := cond (x1.1 != x0.2.2.2.2.1) (fin false) (cond ((x1.2.1.length : Int) != (x0.1.length : Int)) (fin false) ((impl_isPlan_l0 x1.2.1 (x1.2.1.length :
 Int) x0.2.2.2.2.1 0).bind fun y2 => sumO y2 (fun y3 => fin y3) (fun y4 => fin true)))
def impl_isPlan (x0 : DJob) (x1 : DPlan) : Option (Bool) := impl_isPlanK some x0 x1
def or63 : Ora := { lo := addL 4 L63a lo0, fin := [] }
theorem o63a : LOk EL63 or63 Tryz.f63 0 L63a := loop_rnd (fun (x : d63a) => x.1.2.2.2.1) (fun (i : d63a) v => (((), i.1.2.1, i.1.2.2.1, v, ()), (i.2.1.1, i.2.1.2.1, i.2.1.2.2.1, i.2.1.2.2.2.1, i.2.1.2.2.2.2.1, i.2.1.2.2.2.2.2.1,
 i.2.1.2.2.2.2.2.2.1, i.2.1.2.2.2.2.2.2.2.1, ()), ())) (fun (i : d63a) _ rc fin v => impl_isPlan_l0K i.1.2.1 i.1.2.2.1 i.2.1.2.2.2.2.2.1 (fun a2 => rc a2) fin v) (fun _ => rfl) (fun _ => rfl) (fun i k v => by kernel_rfl) fun i _ rc _ _ hr
 v => by unfold impl_isPlan_l0K; repeat' (first | exact .of (hr _) | constructor | intro _)
def c63 : Callee := mkC [.agg [.ro TJob], .agg [.ro TPlan]] 1 [rB] fun x => impl_isPlan x.1 x.2
theorem k63 : Cal Tryz.prog 63 c63 := cal_mk (or := or63) Tryz.func63 (by kernel_rfl) (by kernel_rfl) mixed (EnvOk.nil : EnvOk _ EL63) (LoOk.mk (by kernel_rfl) (all1 ⟨_, by kernel_rfl, o63a⟩)) (fun _ fin x => impl_isPlanK fin x.1 x.2) (fun
 _ => rfl) (fun x => by kernel_rfl) fun x _ _ => by unfold impl_isPlanK; repeat' (first | constructor | intro _)
def EL40 : Nat → Option Callee := env0
def spec_l1InK {R : Type} (fin : Bool → Option R) (x0 x1 x2 : Int) : Option R := cond (decide (x0 ≥ x1)) (fin (decide (x0 ≤ x2))) (fin false)
def spec_l1In (x0 x1 x2 : Int) : Option (Bool) := spec_l1InK some x0 x1 x2
def c40 : Callee := mkC [rI, rI, rI] 1 [rB] fun x => spec_l1In x.1 x.2.1 x.2.2
theorem k40 : Cal Tryz.prog 40 c40 := cal_mk (or := or0) Tryz.func40 (by kernel_rfl) (by kernel_rfl) mixed (EnvOk.nil : EnvOk _ EL40) (LoOk.nil (by kernel_rfl)) (fun _ fin x => spec_l1InK fin x.1 x.2.1 x.2.2) (fun _ => rfl) (fun x =>
 by kernel_rfl) fun x _ _ => by unfold spec_l1InK; repeat' (first | constructor | intro _)
def EL122 : Nat → Option Callee := addE 40 c40 env0
abbrev d122a := (LI × Int × Int × LI × Int × Int × U) × (U)
def s122a : LS := ⟨[(0, oL), (1, oI), (2, oI), (9, oL), (10, oI), (11, oI)], [], []⟩
def x122a : List (XS d122a) := [⟨.ret, ⟨[6], [], [], []⟩, ⟨[(6, oB)], [], []⟩, Bool, fun i y => ((y, ()), ())⟩, ⟨.exit 0, ⟨[], [], [], []⟩, ⟨[], [], []⟩, U, fun i y => ((), ())⟩]
def spec_l1Rising_l0K {R : Type} (a0 : LI) (a1 a2 : Int) (a3 : LI) (a4 : Int) (rc : Int → Option R) (fin : Q33 → Option R) (a5 : Int) : Option R := cond (decide (a5 < a4)) ((lat a3 a5).bind fun e1 => (spec_l1In e1 a1 a2).bind fun y2 =>
 cond (!y2) (fin (.inl false)) (cond (decide (a5 > 0)) ((lat a0 (i64.wrap (a5 - 1))).bind fun e3 => cond (decide (e3 ≥ e1)) (fin (.inl false)) (rc (i64.wrap (a5 + 1)))) (rc (i64.wrap (a5 + 1))))) (fin (.inr ()))
def spec_l1Rising_l0 (a0 : LI) (a1 a2 : Int) (a3 : LI) (a4 : Int) (a5 : Int) : Option Q33 := lim (fun r (x : Int) => spec_l1Rising_l0K a0 a1 a2 a3 a4 (fun a5 => r a5) some x) a5
theorem spec_l1Rising_l0_eq (a0 : LI) (a1 a2 : Int) (a3 : LI) (a4 : Int) (a5 : Int) : spec_l1Rising_l0 a0 a1 a2 a3 a4 a5 = spec_l1Rising_l0K a0 a1 a2 a3 a4 (spec_l1Rising_l0 a0 a1 a2 a3 a4) some a5 := lim_eqI (fun x =>
 by unfold spec_l1Rising_l0K; repeat' (first | constructor | intro _)) _
def L122a : Loop := mkM ⟨[0, 1, 2, 9, 10, 11], [], [], []⟩ s122a x122a fun (x : d122a) => spec_l1Rising_l0 x.1.1 x.1.2.1 x.1.2.2.1 x.1.2.2.2.1 x.1.2.2.2.2.1 x.1.2.2.2.2.2.1
def spec_l1RisingK {R : Type} (fin : Bool → Option R) (x0 : LI) (x1 x2 : Int) : Option R := (spec_l1Rising_l0 x0 x1 x2 x0 (x0.length : Int) 0).bind fun y4 => sumO y4 (fun y5 => fin y5) (fun y6 => fin true)
def spec_l1Rising (x0 : LI) (x1 x2 : Int) : Option (Bool) := spec_l1RisingK some x0 x1 x2
def or122 : Ora := { lo := addL 2 L122a lo0, fin := [] }
theorem o122a : LOk EL122 or122 Tryz.f122 0 L122a := loop_rnd (fun (x : d122a) => x.1.2.2.2.2.2.1) (fun (i : d122a) v => ((i.1.1, i.1.2.1, i.1.2.2.1, i.1.2.2.2.1, i.1.2.2.2.2.1, v, ()), ())) (fun (i : d122a) _ rc fin v => spec_l1Rising_l0K
 i.1.1 i.1.2.1 i.1.2.2.1 i.1.2.2.2.1 i.1.2.2.2.2.1 (fun a5 => rc a5) fin v) (fun _ => rfl) (fun _ => rfl) (fun i k v => by kernel_rfl) fun i _ rc _ _ hr v =>
 by unfold spec_l1Rising_l0K; repeat' (first | exact .of (hr _) | constructor | intro _)
def c122 : Callee := mkC [rL, rI, rI] 1 [rB] fun x => spec_l1Rising x.1 x.2.1 x.2.2
theorem k122 : Cal Tryz.prog 122 c122 := cal_mk (or := or122) Tryz.func122 (by kernel_rfl) (by kernel_rfl) mixed (EnvOk.nil |>.a k40 : EnvOk _ EL122) (LoOk.mk (by kernel_rfl) (all1 ⟨_, by kernel_rfl, o122a⟩)) (fun _ fin x => spec_l1RisingK
 fin x.1 x.2.1 x.2.2) (fun _ => rfl) (fun x => by kernel_rfl) fun x _ _ => by unfold spec_l1RisingK; repeat' (first | constructor | intro _)
def EL92 : Nat → Option Callee := addE 40 c40 (addE 122 c122 env0)
abbrev d92a := Q17 × (U)
def s92a : LS := ⟨[(0, oM), (5, oM), (6, oI), (7, oI)], [], []⟩
def x92a : List (XS d92a) := [⟨.ret, ⟨[2], [], [], []⟩, ⟨[(2, oB)], [], []⟩, Bool, fun i y => ((y, ()), ())⟩, ⟨.exit 0, ⟨[0], [], [], []⟩, ⟨[(0, oM)], [], []⟩, U, fun i y => ((i.1.1, ()), ())⟩]
def spec_clArcs_l0K {R : Type} (a1 : LL) (a2 : Int) (rc : Int → Option R) (fin : Q33 → Option R) (a3 : Int) : Option R := cond (decide (a3 < a2)) ((lat a1 a3).bind fun e1 => (spec_l1Rising e1 0 (i64.wrap (a3 - 1))).bind fun y2 => cond
 (!y2) (fin (.inl false)) (rc (i64.wrap (a3 + 1)))) (fin (.inr ()))
def spec_clArcs_l0 (a1 : LL) (a2 : Int) (a3 : Int) : Option Q33 := lim (fun r (x : Int) => spec_clArcs_l0K a1 a2 (fun a3 => r a3) some x) a3
theorem spec_clArcs_l0_eq (a1 : LL) (a2 : Int) (a3 : Int) : spec_clArcs_l0 a1 a2 a3 = spec_clArcs_l0K a1 a2 (spec_clArcs_l0 a1 a2) some a3 := lim_eqI (fun x => by unfold spec_clArcs_l0K; repeat' (first | constructor | intro _)) _
def L92a : Loop := mkM ⟨[0, 5, 6, 7], [], [], []⟩ s92a x92a fun (x : d92a) => spec_clArcs_l0 x.1.2.1 x.1.2.2.1 x.1.2.2.2.1
def spec_clArcsK {R : Type} (fin : Bool → Option R) (x0 : LL) : Option R := (spec_clArcs_l0 x0 (x0.length : Int) 0).bind fun y3 => sumO y3 (fun y4 => fin y4) (fun y5 => (spec_l1In (x0.length : Int) 1 120).bind fun y6 => fin y6)
def spec_clArcs (x0 : LL) : Option (Bool) := spec_clArcsK some x0
def or92 : Ora := { lo := addL 2 L92a lo0, fin := [] }
theorem o92a : LOk EL92 or92 Tryz.f92 0 L92a := loop_rnd (fun (x : d92a) => x.1.2.2.2.1) (fun (i : d92a) v => ((i.1.1, i.1.2.1, i.1.2.2.1, v, ()), ())) (fun (i : d92a) _ rc fin v => spec_clArcs_l0K i.1.2.1 i.1.2.2.1 (fun a3 => rc a3) fin
 v) (fun _ => rfl) (fun _ => rfl) (fun i k v => by kernel_rfl) fun i _ rc _ _ hr v => by unfold spec_clArcs_l0K; repeat' (first | exact .of (hr _) | constructor | intro _)
def c92 : Callee := mkC [rM] 1 [rB] fun x => spec_clArcs x
theorem k92 : Cal Tryz.prog 92 c92 := cal_mk (or := or92) Tryz.func92 (by kernel_rfl) (by kernel_rfl) mixed (EnvOk.nil |>.a k122 |>.a k40 : EnvOk _ EL92) (LoOk.mk (by kernel_rfl) (all1 ⟨_, by kernel_rfl, o92a⟩)) (fun _ fin x =>
 spec_clArcsK fin x) (fun _ => rfl) (fun x => by kernel_rfl) fun x _ _ => by unfold spec_clArcsK; repeat' (first | constructor | intro _)
def EL72 : Nat → Option Callee := addE 40 c40 env0
abbrev d72a := (Int × Int × LI × Int × Int × U) × (U)
def s72a : LS := ⟨[(1, oI), (2, oI), (9, oL), (10, oI), (11, oI)], [], []⟩
def x72a : List (XS d72a) := [⟨.ret, ⟨[6], [], [], []⟩, ⟨[(6, oB)], [], []⟩, Bool, fun i y => ((y, ()), ())⟩, ⟨.exit 0, ⟨[], [], [], []⟩, ⟨[], [], []⟩, U, fun i y => ((), ())⟩]
def spec_l1All_l0K {R : Type} (a0 a1 : Int) (a2 : LI) (a3 : Int) (rc : Int → Option R) (fin : Q33 → Option R) (a4 : Int) : Option R := cond (decide (a4 < a3)) ((lat a2 a4).bind fun e1 => (spec_l1In e1 a0 a1).bind fun y2 => cond (!y2) (fin
 (.inl false)) (rc (i64.wrap (a4 + 1)))) (fin (.inr ()))
def spec_l1All_l0 (a0 a1 : Int) (a2 : LI) (a3 : Int) (a4 : Int) : Option Q33 := lim (fun r (x : Int) => spec_l1All_l0K a0 a1 a2 a3 (fun a4 => r a4) some x) a4
theorem spec_l1All_l0_eq (a0 a1 : Int) (a2 : LI) (a3 : Int) (a4 : Int) : spec_l1All_l0 a0 a1 a2 a3 a4 = spec_l1All_l0K a0 a1 a2 a3 (spec_l1All_l0 a0 a1 a2 a3) some a4 := lim_eqI (fun x =>
 by unfold spec_l1All_l0K; repeat' (first | constructor | intro _)) _
def L72a : Loop := mkM ⟨[1, 2, 9, 10, 11], [], [], []⟩ s72a x72a fun (x : d72a) => spec_l1All_l0 x.1.1 x.1.2.1 x.1.2.2.1 x.1.2.2.2.1 x.1.2.2.2.2.1
def spec_l1AllK {R : Type} (fin : Bool → Option R) (x0 : LI) (x1 x2 : Int) : Option R := (spec_l1All_l0 x1 x2 x0 (x0.length : Int) 0).bind fun y3 => sumO y3 (fun y4 => fin y4) (fun y5 => fin true)
def spec_l1All (x0 : LI) (x1 x2 : Int) : Option (Bool) := spec_l1AllK some x0 x1 x2
def or72 : Ora := { lo := addL 2 L72a lo0, fin := [] }
theorem o72a : LOk EL72 or72 Tryz.f72 0 L72a := loop_rnd (fun (x : d72a) => x.1.2.2.2.2.1) (fun (i : d72a) v => ((i.1.1, i.1.2.1, i.1.2.2.1, i.1.2.2.2.1, v, ()), ())) (fun (i : d72a) _ rc fin v => spec_l1All_l0K i.1.1 i.1.2.1 i.1.2.2.1
 i.1.2.2.2.1 (fun a4 => rc a4) fin v) (fun _ => rfl) (fun _ => rfl) (fun i k v => by kernel_rfl) fun i _ rc _ _ hr v => by unfold spec_l1All_l0K; repeat' (first | exact .of (hr _) | constructor | intro _)
def c72 : Callee := mkC [rL, rI, rI] 1 [rB] fun x => spec_l1All x.1 x.2.1 x.2.2
theorem k72 : Cal Tryz.prog 72 c72 := cal_mk (or := or72) Tryz.func72 (by kernel_rfl) (by kernel_rfl) mixed (EnvOk.nil |>.a k40 : EnvOk _ EL72) (LoOk.mk (by kernel_rfl) (all1 ⟨_, by kernel_rfl, o72a⟩)) (fun _ fin x => spec_l1AllK fin x.1
 x.2.1 x.2.2) (fun _ => rfl) (fun x => by kernel_rfl) fun x _ _ => by unfold spec_l1AllK; repeat' (first | constructor | intro _)
def EL106 : Nat → Option Callee := addE 40 c40 (addE 72 c72 (addE 92 c92 env0))
def spec_plJobK {R : Type} (fin : Bool → Option R) (x0 : DJob) : Option R := (spec_clArcs x0.1).bind fun y1 => cond (!y1) (fin false) (cond ((x0.2.1.length : Int) != (x0.1.length : Int)) (fin false) (cond ((x0.2.2.1.length : Int) !=
 (x0.1.length : Int)) (fin false) ((spec_l1All x0.2.1 0 10000).bind fun y2 => cond (!y2) (fin false) ((spec_l1All x0.2.2.1 (-1000000) 1000000).bind fun y3 => cond (!y3) (fin false) ((spec_l1In x0.2.2.2.1.1 0 1000000).bind fun y4 => cond
 (y4) ((spec_l1In x0.2.2.2.1.2.1 0 1000000).bind fun y5 => cond (y5) ((spec_l1In x0.2.2.2.2.1 1 6).bind fun y6 => cond (y6) ((spec_l1In x0.2.2.2.2.2.2.1 1 20).bind fun y7 => cond (y7) ((spec_l1In x0.2.2.2.2.2.1 1 x0.2.2.2.2.2.2.1).bind fun
 y8 => fin y8) (fin false)) (fin false)) (fin false)) (fin false))))))
def spec_plJob (x0 : DJob) : Option (Bool) := spec_plJobK some x0
def c106 : Callee := mkC [.agg [.ro TJob]] 1 [rB] fun x => spec_plJob x
theorem k106 : Cal Tryz.prog 106 c106 := cal_mk (or := or0) Tryz.func106 (by kernel_rfl) (by kernel_rfl) mixed (EnvOk.nil |>.a k92 |>.a k72 |>.a k40 : EnvOk _ EL106) (LoOk.nil (by kernel_rfl)) (fun _ fin x => spec_plJobK fin x) (fun _ =>
 rfl) (fun x => by kernel_rfl) fun x _ _ => by unfold spec_plJobK; repeat' (first | constructor | intro _)
def EL10 : Nat → Option Callee := env0
abbrev d10a := (LI × LI × Int × Int × U) × (U)
def s10a : LS := ⟨[(0, oL), (1, oL), (12, oI), (13, oI)], [], []⟩
def x10a : List (XS d10a) := [⟨.ret, ⟨[4], [], [], []⟩, ⟨[(4, oB)], [], []⟩, Bool, fun i y => ((y, ()), ())⟩, ⟨.exit 0, ⟨[], [], [], []⟩, ⟨[], [], []⟩, U, fun i y => ((), ())⟩]
def laws_sameInts_l0K {R : Type} (a0 a1 : LI) (a2 : Int) (rc : Int → Option R) (fin : Q33 → Option R) (a3 : Int) : Option R := cond (decide (a3 < a2)) ((lat a0 a3).bind fun e1 => (lat a1 a3).bind fun e2 => cond (e1 != e2) (fin (.inl
 false)) (rc (i64.wrap (a3 + 1)))) (fin (.inr ()))
def laws_sameInts_l0 (a0 a1 : LI) (a2 : Int) (a3 : Int) : Option Q33 := lim (fun r (x : Int) => laws_sameInts_l0K a0 a1 a2 (fun a3 => r a3) some x) a3
theorem laws_sameInts_l0_eq (a0 a1 : LI) (a2 : Int) (a3 : Int) : laws_sameInts_l0 a0 a1 a2 a3 = laws_sameInts_l0K a0 a1 a2 (laws_sameInts_l0 a0 a1 a2) some a3 := lim_eqI (fun x =>
 by unfold laws_sameInts_l0K; repeat' (first | constructor | intro _)) _
def L10a : Loop := mkM ⟨[0, 1, 12, 13], [], [], []⟩ s10a x10a fun (x : d10a) => laws_sameInts_l0 x.1.1 x.1.2.1 x.1.2.2.1 x.1.2.2.2.1
def laws_sameIntsK {R : Type} (fin : Bool → Option R) (x0 x1 : LI) : Option R := cond ((x0.length : Int) != (x1.length : Int)) (fin false) ((laws_sameInts_l0 x0 x1 (x0.length : Int) 0).bind fun y3 => sumO y3 (fun y4 => fin y4) (fun y5 =>
 fin true))
def laws_sameInts (x0 x1 : LI) : Option (Bool) := laws_sameIntsK some x0 x1
def or10 : Ora := { lo := addL 4 L10a lo0, fin := [] }
theorem o10a : LOk EL10 or10 Tryz.f10 0 L10a := loop_rnd (fun (x : d10a) => x.1.2.2.2.1) (fun (i : d10a) v => ((i.1.1, i.1.2.1, i.1.2.2.1, v, ()), ())) (fun (i : d10a) _ rc fin v => laws_sameInts_l0K i.1.1 i.1.2.1 i.1.2.2.1 (fun a3 => rc
 a3) fin v) (fun _ => rfl) (fun _ => rfl) (fun i k v => by kernel_rfl) fun i _ rc _ _ hr v => by unfold laws_sameInts_l0K; repeat' (first | exact .of (hr _) | constructor | intro _)
def c10 : Callee := mkC [rL, rL] 1 [rB] fun x => laws_sameInts x.1 x.2
theorem k10 : Cal Tryz.prog 10 c10 := cal_mk (or := or10) Tryz.func10 (by kernel_rfl) (by kernel_rfl) mixed (EnvOk.nil : EnvOk _ EL10) (LoOk.mk (by kernel_rfl) (all1 ⟨_, by kernel_rfl, o10a⟩)) (fun _ fin x => laws_sameIntsK fin x.1 x.2)
 (fun _ => rfl) (fun x => by kernel_rfl) fun x _ _ => by unfold laws_sameIntsK; repeat' (first | constructor | intro _)
def EL14 : Nat → Option Callee := addE 10 c10 env0
abbrev d14a := Q17 × (U)
def s14a : LS := ⟨[(0, oM), (1, oM), (12, oI), (13, oI)], [], []⟩
def x14a : List (XS d14a) := [⟨.ret, ⟨[4], [], [], []⟩, ⟨[(4, oB)], [], []⟩, Bool, fun i y => ((y, ()), ())⟩, ⟨.exit 0, ⟨[], [], [], []⟩, ⟨[], [], []⟩, U, fun i y => ((), ())⟩]
def laws_sameLists_l0K {R : Type} (a0 a1 : LL) (a2 : Int) (rc : Int → Option R) (fin : Q33 → Option R) (a3 : Int) : Option R := cond (decide (a3 < a2)) ((lat a0 a3).bind fun e1 => (lat a1 a3).bind fun e2 => (laws_sameInts e1 e2).bind fun
 y3 => cond (!y3) (fin (.inl false)) (rc (i64.wrap (a3 + 1)))) (fin (.inr ()))
def laws_sameLists_l0 (a0 a1 : LL) (a2 : Int) (a3 : Int) : Option Q33 := lim (fun r (x : Int) => laws_sameLists_l0K a0 a1 a2 (fun a3 => r a3) some x) a3
theorem laws_sameLists_l0_eq (a0 a1 : LL) (a2 : Int) (a3 : Int) : laws_sameLists_l0 a0 a1 a2 a3 = laws_sameLists_l0K a0 a1 a2 (laws_sameLists_l0 a0 a1 a2) some a3 := lim_eqI (fun x =>
 by unfold laws_sameLists_l0K; repeat' (first | constructor | intro _)) _
def L14a : Loop := mkM ⟨[0, 1, 12, 13], [], [], []⟩ s14a x14a fun (x : d14a) => laws_sameLists_l0 x.1.1 x.1.2.1 x.1.2.2.1 x.1.2.2.2.1
def laws_sameListsK {R : Type} (fin : Bool → Option R) (x0 x1 : LL) : Option R := cond ((x0.length : Int) != (x1.length : Int)) (fin false) ((laws_sameLists_l0 x0 x1 (x0.length : Int) 0).bind fun y4 => sumO y4 (fun y5 => fin y5) (fun y6 =>
 fin true))
def laws_sameLists (x0 x1 : LL) : Option (Bool) := laws_sameListsK some x0 x1
def or14 : Ora := { lo := addL 4 L14a lo0, fin := [] }
theorem o14a : LOk EL14 or14 Tryz.f14 0 L14a := loop_rnd (fun (x : d14a) => x.1.2.2.2.1) (fun (i : d14a) v => ((i.1.1, i.1.2.1, i.1.2.2.1, v, ()), ())) (fun (i : d14a) _ rc fin v => laws_sameLists_l0K i.1.1 i.1.2.1 i.1.2.2.1 (fun a3 => rc
 a3) fin v) (fun _ => rfl) (fun _ => rfl) (fun i k v => by kernel_rfl) fun i _ rc _ _ hr v => by unfold laws_sameLists_l0K; repeat' (first | exact .of (hr _) | constructor | intro _)
def c14 : Callee := mkC [rM, rM] 1 [rB] fun x => laws_sameLists x.1 x.2
theorem k14 : Cal Tryz.prog 14 c14 := cal_mk (or := or14) Tryz.func14 (by kernel_rfl) (by kernel_rfl) mixed (EnvOk.nil |>.a k10 : EnvOk _ EL14) (LoOk.mk (by kernel_rfl) (all1 ⟨_, by kernel_rfl, o14a⟩)) (fun _ fin x => laws_sameListsK fin
 x.1 x.2) (fun _ => rfl) (fun x => by kernel_rfl) fun x _ _ => by unfold laws_sameListsK; repeat' (first | constructor | intro _)
def EL24 : Nat → Option Callee := addE 10 c10 env0
def laws_pSamePlanK {R : Type} (fin : Bool → Option R) (x0 x1 : DPlan) : Option R := cond (x0.1 == x1.1) ((laws_sameInts x0.2.1 x1.2.1).bind fun y1 => fin y1) (fin false)
def laws_pSamePlan (x0 x1 : DPlan) : Option (Bool) := laws_pSamePlanK some x0 x1
def c24 : Callee := mkC [.agg [.ro TPlan], .agg [.ro TPlan]] 1 [rB] fun x => laws_pSamePlan x.1 x.2
theorem k24 : Cal Tryz.prog 24 c24 := cal_mk (or := or0) Tryz.func24 (by kernel_rfl) (by kernel_rfl) mixed (EnvOk.nil |>.a k10 : EnvOk _ EL24) (LoOk.nil (by kernel_rfl)) (fun _ fin x => laws_pSamePlanK fin x.1 x.2) (fun _ => rfl) (fun x =>
 by kernel_rfl) fun x _ _ => by unfold laws_pSamePlanK; repeat' (first | constructor | intro _)
def EL97 : Nat → Option Callee := env0
abbrev d97a := Q20 × (LB × U)
def s97a : LS := ⟨[(5, oS 0), (10, oL), (11, oI), (12, oI)], [.sl .bool], []⟩
def x97a : List (XS d97a) := [⟨.exit 0, ⟨[5], [.slot 5], [], []⟩, ⟨[(5, oS 0)], [.sl .bool], []⟩, LB, fun i y => (((), ()), y, ())⟩]
def impl_markOf_l0K {R : Type} (a0 : LI) (a1 : Int) (rc : Int → LB → Option R) (fin : LB → Option R) (a2 : Int) (a3 : LB) : Option R := cond (decide (a2 < a1)) ((lat a0 a2).bind fun e1 => cond (decide ((0 : Int) ≤ e1) && decide (e1 <
 (a3.length : Int))) ((some (a3.set (0 + e1.toNat) true)).bind fun v2 => rc (i64.wrap (a2 + 1)) v2) none) (fin a3)
def impl_markOf_l0 (a0 : LI) (a1 : Int) (a2 : Int) (a3 : LB) : Option (LB) := lim (fun r (x : Int × LB) => impl_markOf_l0K a0 a1 (fun a2 a3 => r (a2, a3)) some x.1 x.2) (a2, a3)
theorem impl_markOf_l0_eq (a0 : LI) (a1 : Int) (a2 : Int) (a3 : LB) : impl_markOf_l0 a0 a1 a2 a3 = impl_markOf_l0K a0 a1 (impl_markOf_l0 a0 a1) some a2 a3 := lim_eqI (fun x =>
 by unfold impl_markOf_l0K; repeat' (first | constructor | intro _)) _
def L97a : Loop := mkM ⟨[5, 10, 11, 12], [.slot 5], [], []⟩ s97a x97a fun (x : d97a) => impl_markOf_l0 x.1.2.1 x.1.2.2.1 x.1.2.2.2.1 x.2.1
def impl_markOfK {R : Type} (fin : LB → Option R) (x0 : Int) (x1 : LI) : Option R := cond (decide ((0 : Int) ≤ x0) && (decide (x0 ≤ x0) && decide (x0 ≤ 1099511627776))) ((some ((List.replicate x0.toNat false : LB))).bind fun v1 =>
 (impl_markOf_l0 x1 (x1.length : Int) 0 v1).bind fun y4 => fin y4) none
def impl_markOf (x0 : Int) (x1 : LI) : Option (LB) := impl_markOfK some x0 x1
def or97 : Ora := { lo := addL 3 L97a lo0, fin := [] }
theorem o97a : LOk EL97 or97 Tryz.f97 0 L97a := loop_rnd (fun (x : d97a) => (x.1.2.2.2.1, x.2.1)) (fun (i : d97a) v => (((), i.1.2.1, i.1.2.2.1, v.1, ()), v.2, ())) (fun (i : d97a) _ rc fin v => impl_markOf_l0K i.1.2.1 i.1.2.2.1 (fun a2 a3
 => rc (a2, a3)) fin v.1 v.2) (fun _ => rfl) (fun _ => rfl) (fun i k v => by kernel_rfl) fun i _ rc _ _ hr v => by unfold impl_markOf_l0K; repeat' (first | exact .of (hr _) | constructor | intro _)
def c97 : Callee := mkC [rI, rL] 1 [.one (.sl .bool)] fun x => impl_markOf x.1 x.2
theorem k97 : Cal Tryz.prog 97 c97 := cal_mk (or := or97) Tryz.func97 (by kernel_rfl) (by kernel_rfl) mixed (EnvOk.nil : EnvOk _ EL97) (LoOk.mk (by kernel_rfl) (all1 ⟨_, by kernel_rfl, o97a⟩)) (fun _ fin x => impl_markOfK fin x.1 x.2) (fun
 _ => rfl) (fun x => by kernel_rfl) fun x _ _ => by unfold impl_markOfK; repeat' (first | constructor | intro _)
def EL98 : Nat → Option Callee := env0
abbrev d98a := (LB × LI × Int × Int × U) × (U)
def s98a : LS := ⟨[(0, .one (.dat (.slice .bool))), (7, oL), (8, oI), (9, oI)], [], []⟩
def x98a : List (XS d98a) := [⟨.ret, ⟨[4], [], [], []⟩, ⟨[(4, oB)], [], []⟩, Bool, fun i y => ((y, ()), ())⟩, ⟨.exit 0, ⟨[], [], [], []⟩, ⟨[], [], []⟩, U, fun i y => ((), ())⟩]
def impl_allIn_l0K {R : Type} (a0 : LB) (a1 : LI) (a2 : Int) (rc : Int → Option R) (fin : Q33 → Option R) (a3 : Int) : Option R := cond (decide (a3 < a2)) ((lat a1 a3).bind fun e1 => (lat a0 e1).bind fun e2 => cond (!e2) (fin (.inl false))
 (rc (i64.wrap (a3 + 1)))) (fin (.inr ()))
def impl_allIn_l0 (a0 : LB) (a1 : LI) (a2 : Int) (a3 : Int) : Option Q33 := lim (fun r (x : Int) => impl_allIn_l0K a0 a1 a2 (fun a3 => r a3) some x) a3
theorem impl_allIn_l0_eq (a0 : LB) (a1 : LI) (a2 : Int) (a3 : Int) : impl_allIn_l0 a0 a1 a2 a3 = impl_allIn_l0K a0 a1 a2 (impl_allIn_l0 a0 a1 a2) some a3 := lim_eqI (fun x =>
 by unfold impl_allIn_l0K; repeat' (first | constructor | intro _)) _
def L98a : Loop := mkM ⟨[0, 7, 8, 9], [], [], []⟩ s98a x98a fun (x : d98a) => impl_allIn_l0 x.1.1 x.1.2.1 x.1.2.2.1 x.1.2.2.2.1
def impl_allInK {R : Type} (fin : Bool → Option R) (x0 : LB) (x1 : LI) : Option R := (impl_allIn_l0 x0 x1 (x1.length : Int) 0).bind fun y3 => sumO y3 (fun y4 => fin y4) (fun y5 => fin true)
def impl_allIn (x0 : LB) (x1 : LI) : Option (Bool) := impl_allInK some x0 x1
def or98 : Ora := { lo := addL 2 L98a lo0, fin := [] }
theorem o98a : LOk EL98 or98 Tryz.f98 0 L98a := loop_rnd (fun (x : d98a) => x.1.2.2.2.1) (fun (i : d98a) v => ((i.1.1, i.1.2.1, i.1.2.2.1, v, ()), ())) (fun (i : d98a) _ rc fin v => impl_allIn_l0K i.1.1 i.1.2.1 i.1.2.2.1 (fun a3 => rc a3)
 fin v) (fun _ => rfl) (fun _ => rfl) (fun i k v => by kernel_rfl) fun i _ rc _ _ hr v => by unfold impl_allIn_l0K; repeat' (first | exact .of (hr _) | constructor | intro _)
def c98 : Callee := mkC [.one (.ro (.slice .bool)), rL] 1 [rB] fun x => impl_allIn x.1 x.2
theorem k98 : Cal Tryz.prog 98 c98 := cal_mk (or := or98) Tryz.func98 (by kernel_rfl) (by kernel_rfl) mixed (EnvOk.nil : EnvOk _ EL98) (LoOk.mk (by kernel_rfl) (all1 ⟨_, by kernel_rfl, o98a⟩)) (fun _ fin x => impl_allInK fin x.1 x.2) (fun
 _ => rfl) (fun x => by kernel_rfl) fun x _ _ => by unfold impl_allInK; repeat' (first | constructor | intro _)
def EL51 : Nat → Option Callee := addE 98 c98 (addE 97 c97 env0)
abbrev d51a := (LL × U × LI × Int × Int × U) × (LB × U)
def s51a : LS := ⟨[(0, oM), (5, oS 0), (12, oL), (13, oI), (14, oI)], [.sl .bool], []⟩
def x51a : List (XS d51a) := [⟨.ret, ⟨[4], [], [], []⟩, ⟨[(4, oB)], [], []⟩, Bool, fun i y => ((y, ()), ())⟩, ⟨.exit 0, ⟨[], [], [], []⟩, ⟨[], [], []⟩, U, fun i y => ((), ())⟩]
def impl_isClosure_l0K {R : Type} (a0 : LL) (a1 : LI) (a2 : Int) (a4 : LB) (rc : Int → Option R) (fin : Q33 → Option R) (a3 : Int) : Option R := cond (decide (a3 < a2)) ((lat a1 a3).bind fun e1 => (lat a0 e1).bind fun e2 => (impl_allIn a4
 e2).bind fun y3 => cond (!y3) (fin (.inl false)) (rc (i64.wrap (a3 + 1)))) (fin (.inr ()))
def impl_isClosure_l0 (a0 : LL) (a1 : LI) (a2 : Int) (a4 : LB) (a3 : Int) : Option Q33 := lim (fun r (x : Int) => impl_isClosure_l0K a0 a1 a2 a4 (fun a3 => r a3) some x) a3
theorem impl_isClosure_l0_eq (a0 : LL) (a1 : LI) (a2 : Int) (a4 : LB) (a3 : Int) : impl_isClosure_l0 a0 a1 a2 a4 a3 = impl_isClosure_l0K a0 a1 a2 a4 (impl_isClosure_l0 a0 a1 a2 a4) some a3 := lim_eqI (fun x =>
 by unfold impl_isClosure_l0K; repeat' (first | constructor | intro _)) _
def L51a : Loop := mkM ⟨[0, 5, 12, 13, 14], [.slot 5], [], []⟩ s51a x51a fun (x : d51a) => impl_isClosure_l0 x.1.1 x.1.2.2.1 x.1.2.2.2.1 x.2.1 x.1.2.2.2.2.1
def impl_isClosureK {R : Type} (fin : Bool → Option R) (x0 : LL) (x1 : LI) : Option R := (impl_markOf (x0.length : Int) x1).bind fun y1 => (impl_isClosure_l0 x0 x1 (x1.length : Int) y1 0).bind fun y5 => sumO y5 (fun y6 => fin y6) (fun y7
 => fin true)
def impl_isClosure (x0 : LL) (x1 : LI) : Option (Bool) := impl_isClosureK some x0 x1
def or51 : Ora := { lo := addL 3 L51a lo0, fin := [] }
theorem o51a : LOk EL51 or51 Tryz.f51 0 L51a := loop_rnd (fun (x : d51a) => x.1.2.2.2.2.1) (fun (i : d51a) v => ((i.1.1, (), i.1.2.2.1, i.1.2.2.2.1, v, ()), i.2.1, ())) (fun (i : d51a) _ rc fin v => impl_isClosure_l0K i.1.1 i.1.2.2.1
 i.1.2.2.2.1 i.2.1 (fun a3 => rc a3) fin v) (fun _ => rfl) (fun _ => rfl) (fun i k v => by kernel_rfl) fun i _ rc _ _ hr v => by unfold impl_isClosure_l0K; repeat' (first | exact .of (hr _) | constructor | intro _)
def c51 : Callee := mkC [rM, rL] 1 [rB] fun x => impl_isClosure x.1 x.2
theorem k51 : Cal Tryz.prog 51 c51 := cal_mk (or := or51) Tryz.func51 (by kernel_rfl) (by kernel_rfl) mixed (EnvOk.nil |>.a k97 |>.a k98 : EnvOk _ EL51) (LoOk.mk (by kernel_rfl) (all1 ⟨_, by kernel_rfl, o51a⟩)) (fun _ fin x =>
 impl_isClosureK fin x.1 x.2) (fun _ => rfl) (fun x => by kernel_rfl) fun x _ _ => by unfold impl_isClosureK; repeat' (first | constructor | intro _)
def EL17 : Nat → Option Callee := addE 51 c51 (addE 50 c50 (addE 49 c49 env0))
def impl_IsClosureK {R : Type} (fin : Bool × Bool → Option R) (x0 : LL) (x1 : LI) : Option R := (impl_AreArcs x0).bind fun y1 => cond (!y1) (fin (false, false)) ((impl_areBlocks x1 (x0.length : Int)).bind fun y2 => cond (!y2) (fin (false,
 false)) ((impl_isClosure x0 x1).bind fun y3 => fin (y3, true)))
def impl_IsClosure (x0 : LL) (x1 : LI) : Option (Bool × Bool) := impl_IsClosureK some x0 x1
def c17 : Callee := mkC [rM, rL] 2 [rB, rB] fun x => impl_IsClosure x.1 x.2
theorem k17 : Cal Tryz.prog 17 c17 := cal_mk (or := or0) Tryz.func17 (by kernel_rfl) (by kernel_rfl) mixed (EnvOk.nil |>.a k49 |>.a k50 |>.a k51 : EnvOk _ EL17) (LoOk.nil (by kernel_rfl)) (fun _ fin x => impl_IsClosureK fin x.1 x.2) (fun _
 => rfl) (fun x => by kernel_rfl) fun x _ _ => by unfold impl_IsClosureK; repeat' (first | constructor | intro _)
def EL52 : Nat → Option Callee := addE 51 c51 (addE 50 c50 (addE 49 c49 env0))
abbrev d52a := Q17 × (U)
def s52a : LS := ⟨[(0, oM), (10, oM), (11, oI), (12, oI)], [], []⟩
def x52a : List (XS d52a) := [⟨.ret, ⟨[4], [], [], []⟩, ⟨[(4, oB)], [], []⟩, Bool, fun i y => ((y, ()), ())⟩, ⟨.exit 0, ⟨[], [], [], []⟩, ⟨[], [], []⟩, U, fun i y => ((), ())⟩]
def impl_arePits_l0K {R : Type} (a0 a1 : LL) (a2 : Int) (rc : Int → Option R) (fin : Q33 → Option R) (a3 : Int) : Option R := cond (decide (a3 < a2)) ((lat a1 a3).bind fun e1 => (impl_areBlocks e1 (a0.length : Int)).bind fun y2 => cond
 (!y2) (fin (.inl false)) ((impl_isClosure a0 e1).bind fun y3 => cond (!y3) (fin (.inl false)) (rc (i64.wrap (a3 + 1))))) (fin (.inr ()))
def impl_arePits_l0 (a0 a1 : LL) (a2 : Int) (a3 : Int) : Option Q33 := lim (fun r (x : Int) => impl_arePits_l0K a0 a1 a2 (fun a3 => r a3) some x) a3
theorem impl_arePits_l0_eq (a0 a1 : LL) (a2 : Int) (a3 : Int) : impl_arePits_l0 a0 a1 a2 a3 = impl_arePits_l0K a0 a1 a2 (impl_arePits_l0 a0 a1 a2) some a3 := lim_eqI (fun x =>
 by unfold impl_arePits_l0K; repeat' (first | constructor | intro _)) _
def L52a : Loop := mkM ⟨[0, 10, 11, 12], [], [], []⟩ s52a x52a fun (x : d52a) => impl_arePits_l0 x.1.1 x.1.2.1 x.1.2.2.1 x.1.2.2.2.1
def impl_arePitsK {R : Type} (fin : Bool → Option R) (x0 x1 : LL) : Option R := (impl_AreArcs x0).bind fun y1 => cond (!y1) (fin false) ((impl_arePits_l0 x0 x1 (x1.length : Int) 0).bind fun y5 => sumO y5 (fun y6 => fin y6) (fun y7 => fin
 true))
def impl_arePits (x0 x1 : LL) : Option (Bool) := impl_arePitsK some x0 x1
def or52 : Ora := { lo := addL 4 L52a lo0, fin := [] }
theorem o52a : LOk EL52 or52 Tryz.f52 0 L52a := loop_rnd (fun (x : d52a) => x.1.2.2.2.1) (fun (i : d52a) v => ((i.1.1, i.1.2.1, i.1.2.2.1, v, ()), ())) (fun (i : d52a) _ rc fin v => impl_arePits_l0K i.1.1 i.1.2.1 i.1.2.2.1 (fun a3 => rc
 a3) fin v) (fun _ => rfl) (fun _ => rfl) (fun i k v => by kernel_rfl) fun i _ rc _ _ hr v => by unfold impl_arePits_l0K; repeat' (first | exact .of (hr _) | constructor | intro _)
def c52 : Callee := mkC [rM, rM] 1 [rB] fun x => impl_arePits x.1 x.2
theorem k52 : Cal Tryz.prog 52 c52 := cal_mk (or := or52) Tryz.func52 (by kernel_rfl) (by kernel_rfl) mixed (EnvOk.nil |>.a k49 |>.a k50 |>.a k51 : EnvOk _ EL52) (LoOk.mk (by kernel_rfl) (all1 ⟨_, by kernel_rfl, o52a⟩)) (fun _ fin x =>
 impl_arePitsK fin x.1 x.2) (fun _ => rfl) (fun x => by kernel_rfl) fun x _ _ => by unfold impl_arePitsK; repeat' (first | constructor | intro _)
def EL53 : Nat → Option Callee := env0
abbrev d53a := (LI × Int × LI × Int × Int × U) × (U)
def s53a : LS := ⟨[(0, oL), (5, oI), (8, oL), (9, oI), (10, oI)], [], []⟩
def x53a : List (XS d53a) := [⟨.exit 0, ⟨[5], [], [], []⟩, ⟨[(5, oI)], [], []⟩, Int, fun i y => ((y, ()), ())⟩]
def impl_valueSum_l0K {R : Type} (a0 a2 : LI) (a3 : Int) (rc : Int → Int → Option R) (fin : Int → Option R) (a1 a4 : Int) : Option R := cond (decide (a4 < a3)) ((lat a2 a4).bind fun e1 => (lat a0 e1).bind fun e2 => rc (i64.wrap (a1 + e2))
 (i64.wrap (a4 + 1))) (fin a1)
def impl_valueSum_l0 (a0 a2 : LI) (a3 : Int) (a1 a4 : Int) : Option (Int) := lim (fun r (x : Q32) => impl_valueSum_l0K a0 a2 a3 (fun a1 a4 => r (a1, a4)) some x.1 x.2) (a1, a4)
theorem impl_valueSum_l0_eq (a0 a2 : LI) (a3 : Int) (a1 a4 : Int) : impl_valueSum_l0 a0 a2 a3 a1 a4 = impl_valueSum_l0K a0 a2 a3 (impl_valueSum_l0 a0 a2 a3) some a1 a4 := lim_eqI (fun x =>
 by unfold impl_valueSum_l0K; repeat' (first | constructor | intro _)) _
def L53a : Loop := mkM ⟨[0, 5, 8, 9, 10], [], [], []⟩ s53a x53a fun (x : d53a) => impl_valueSum_l0 x.1.1 x.1.2.2.1 x.1.2.2.2.1 x.1.2.1 x.1.2.2.2.2.1
def impl_valueSumK {R : Type} (fin : Int → Option R) (x0 x1 : LI) : Option R := (impl_valueSum_l0 x0 x1 (x1.length : Int) 0 0).bind fun y3 => fin y3
def impl_valueSum (x0 x1 : LI) : Option (Int) := impl_valueSumK some x0 x1
def or53 : Ora := { lo := addL 3 L53a lo0, fin := [] }
theorem o53a : LOk EL53 or53 Tryz.f53 0 L53a := loop_rnd (fun (x : d53a) => (x.1.2.1, x.1.2.2.2.2.1)) (fun (i : d53a) v => ((i.1.1, v.1, i.1.2.2.1, i.1.2.2.2.1, v.2, ()), ())) (fun (i : d53a) _ rc fin v => impl_valueSum_l0K i.1.1 i.1.2.2.1
 i.1.2.2.2.1 (fun a1 a4 => rc (a1, a4)) fin v.1 v.2) (fun _ => rfl) (fun _ => rfl) (fun i k v => by kernel_rfl) fun i _ rc _ _ hr v => by unfold impl_valueSum_l0K; repeat' (first | exact .of (hr _) | constructor | intro _)
def c53 : Callee := mkC [rL, rL] 1 [rI] fun x => impl_valueSum x.1 x.2
theorem k53 : Cal Tryz.prog 53 c53 := cal_mk (or := or53) Tryz.func53 (by kernel_rfl) (by kernel_rfl) mixed (EnvOk.nil : EnvOk _ EL53) (LoOk.mk (by kernel_rfl) (all1 ⟨_, by kernel_rfl, o53a⟩)) (fun _ fin x => impl_valueSumK fin x.1 x.2)
 (fun _ => rfl) (fun x => by kernel_rfl) fun x _ _ => by unfold impl_valueSumK; repeat' (first | constructor | intro _)
def EL18 : Nat → Option Callee := addE 53 c53 (addE 52 c52 (addE 44 c44 env0))
abbrev d18a := (LI × LI × Int × LI × Int × Int × U) × (U)
def s18a : LS := ⟨[(1, oL), (2, oL), (8, oI), (22, oL), (23, oI), (24, oI)], [], []⟩
def x18a : List (XS d18a) := [⟨.exit 0, ⟨[1, 2, 8], [], [], []⟩, ⟨[(1, oL), (2, oL), (8, oI)], [], []⟩, Int, fun i y => ((i.1.1, i.1.2.1, y, ()), ())⟩]
def impl_CutOfPit_l0K {R : Type} (a3 : LI) (a4 : Int) (rc : Int → Int → Option R) (fin : Int → Option R) (a2 a5 : Int) : Option R := cond (decide (a5 < a4)) ((lat a3 a5).bind fun e1 => rc (i64.wrap (a2 + (if e1 > 0 then e1 else 0)))
 (i64.wrap (a5 + 1))) (fin a2)
def impl_CutOfPit_l0 (a3 : LI) (a4 : Int) (a2 a5 : Int) : Option (Int) := lim (fun r (x : Q32) => impl_CutOfPit_l0K a3 a4 (fun a2 a5 => r (a2, a5)) some x.1 x.2) (a2, a5)
theorem impl_CutOfPit_l0_eq (a3 : LI) (a4 : Int) (a2 a5 : Int) : impl_CutOfPit_l0 a3 a4 a2 a5 = impl_CutOfPit_l0K a3 a4 (impl_CutOfPit_l0 a3 a4) some a2 a5 := lim_eqI (fun x =>
 by unfold impl_CutOfPit_l0K; repeat' (first | constructor | intro _)) _
def L18a : Loop := mkM ⟨[1, 2, 8, 22, 23, 24], [], [], []⟩ s18a x18a fun (x : d18a) => impl_CutOfPit_l0 x.1.2.2.2.1 x.1.2.2.2.2.1 x.1.2.2.1 x.1.2.2.2.2.2.1
def impl_CutOfPitK {R : Type} (fin : Int × Bool → Option R) (x0 : LL) (x1 x2 : LI) : Option R := (impl_areValued x0 x1).bind fun y1 => cond (!y1) (fin (0, false)) ((impl_arePits x0 [x2]).bind fun y2 => cond (!y2) (fin (0, false))
 ((impl_CutOfPit_l0 x1 (x1.length : Int) 0 0).bind fun y4 => (impl_valueSum x1 x2).bind fun y5 => fin (i64.wrap (y4 - y5), true)))
def impl_CutOfPit (x0 : LL) (x1 x2 : LI) : Option (Int × Bool) := impl_CutOfPitK some x0 x1 x2
def or18 : Ora := { lo := addL 5 L18a lo0, fin := [] }
theorem o18a : LOk EL18 or18 Tryz.f18 0 L18a := loop_rnd (fun (x : d18a) => (x.1.2.2.1, x.1.2.2.2.2.2.1)) (fun (i : d18a) v => ((i.1.1, i.1.2.1, v.1, i.1.2.2.2.1, i.1.2.2.2.2.1, v.2, ()), ())) (fun (i : d18a) _ rc fin v =>
 impl_CutOfPit_l0K i.1.2.2.2.1 i.1.2.2.2.2.1 (fun a2 a5 => rc (a2, a5)) fin v.1 v.2) (fun _ => rfl) (fun _ => rfl) (fun i k v => by kernel_rfl) fun i _ rc _ _ hr v =>
 by unfold impl_CutOfPit_l0K; repeat' (first | exact .of (hr _) | constructor | intro _)
def c18 : Callee := mkC [rM, rL, rL] 2 [rI, rB] fun x => impl_CutOfPit x.1 x.2.1 x.2.2
theorem k18 : Cal Tryz.prog 18 c18 := cal_mk (or := or18) Tryz.func18 (by kernel_rfl) (by kernel_rfl) mixed (EnvOk.nil |>.a k44 |>.a k52 |>.a k53 : EnvOk _ EL18) (LoOk.mk (by kernel_rfl) (all1 ⟨_, by kernel_rfl, o18a⟩)) (fun _ fin x =>
 impl_CutOfPitK fin x.1 x.2.1 x.2.2) (fun _ => rfl) (fun x => by kernel_rfl) fun x _ _ => by unfold impl_CutOfPitK; repeat' (first | constructor | intro _)
def EL19 : Nat → Option Callee := addE 53 c53 (addE 50 c50 (addE 54 c54 env0))
def impl_ValueOfK {R : Type} (fin : Int × Bool → Option R) (x0 x1 : LI) : Option R := (impl_goodValues x0).bind fun y1 => cond (!y1) (fin (0, false)) ((impl_areBlocks x1 (x0.length : Int)).bind fun y2 => cond (!y2) (fin (0, false))
 ((impl_valueSum x0 x1).bind fun y3 => fin (y3, true)))
def impl_ValueOf (x0 x1 : LI) : Option (Int × Bool) := impl_ValueOfK some x0 x1
def c19 : Callee := mkC [rL, rL] 2 [rI, rB] fun x => impl_ValueOf x.1 x.2
theorem k19 : Cal Tryz.prog 19 c19 := cal_mk (or := or0) Tryz.func19 (by kernel_rfl) (by kernel_rfl) mixed (EnvOk.nil |>.a k54 |>.a k50 |>.a k53 : EnvOk _ EL19) (LoOk.nil (by kernel_rfl)) (fun _ fin x => impl_ValueOfK fin x.1 x.2) (fun _
 => rfl) (fun x => by kernel_rfl) fun x _ _ => by unfold impl_ValueOfK; repeat' (first | constructor | intro _)
end
end Go.OAI
