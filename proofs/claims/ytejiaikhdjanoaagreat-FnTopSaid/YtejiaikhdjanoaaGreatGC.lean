/- Contracts: GC. -/
import Derived.Test.YtejiaikhdjanoaaGreatGA
import Derived.Test.YtejiaikhdjanoaaGreatGD
namespace Go.OAI
open Go.Proofs
open Go.IntKind (i64 u64 u8)
set_option linter.unusedVariables false
noncomputable section
def EL151 : Nat → Option Callee := env0
def cmp_isNaN_intK {R : Type} (fin : Bool → Option R) (x0 : Int) : Option R := fin (x0 != x0)
def cmp_isNaN_int (x0 : Int) : Option (Bool) := cmp_isNaN_intK some x0
def c151 : Callee := mkC [rI] 1 [rB] fun x => cmp_isNaN_int x
theorem k151 : Cal Tryz.prog 151 c151 := cal_mk (or := or0) Tryz.func151 (by kernel_rfl) (by kernel_rfl) mixed (EnvOk.nil : EnvOk _ EL151) (LoOk.nil (by kernel_rfl)) (fun _ fin x => cmp_isNaN_intK fin x) (fun _ => rfl) (fun x =>
 by kernel_rfl) fun x _ _ => by unfold cmp_isNaN_intK; repeat' (first | constructor | intro _)
def EL132 : Nat → Option Callee := addE 151 c151 env0
def cmp_Compare_intK {R : Type} (fin : Int → Option R) (x0 x1 : Int) : Option R := (cmp_isNaN_int x0).bind fun y1 => (cmp_isNaN_int x1).bind fun y2 => cond (y1) (cond (y2) (fin 0) (fin (-1))) (cond (y2) (fin 1) (cond (decide (x0 < x1))
 (fin (-1)) (cond (decide (x0 > x1)) (fin 1) (fin 0))))
def cmp_Compare_int (x0 x1 : Int) : Option (Int) := cmp_Compare_intK some x0 x1
def c132 : Callee := mkC [rI, rI] 1 [rI] fun x => cmp_Compare_int x.1 x.2
theorem k132 : Cal Tryz.prog 132 c132 := cal_mk (or := or0) Tryz.func132 (by kernel_rfl) (by kernel_rfl) mixed (EnvOk.nil |>.a k151 : EnvOk _ EL132) (LoOk.nil (by kernel_rfl)) (fun _ fin x => cmp_Compare_intK fin x.1 x.2) (fun _ => rfl)
 (fun x => by kernel_rfl) fun x _ _ => by unfold cmp_Compare_intK; repeat' (first | constructor | intro _)
def EL131 : Nat → Option Callee := env0
abbrev d131a := (Int × LI × Int × Int × U) × (U)
def s131a : LS := ⟨[(3, oI), (6, oL), (7, oI), (8, oI)], [], []⟩
def x131a : List (XS d131a) := [⟨.ret, ⟨[2], [], [], []⟩, ⟨[(2, oI)], [], []⟩, Int, fun i y => ((y, ()), ())⟩, ⟨.exit 0, ⟨[3], [], [], []⟩, ⟨[(3, oI)], [], []⟩, U, fun i y => ((i.1.1, ()), ())⟩]
def cmp_Or_int_l0K {R : Type} (a0 : Int) (a1 : LI) (a2 : Int) (rc : Int → Option R) (fin : (Int ⊕ U) → Option R) (a3 : Int) : Option R := cond (decide (a3 < a2)) ((lat a1 a3).bind fun e1 => cond (e1 != a0) (fin (.inl e1)) (rc (i64.wrap (a3
 + 1)))) (fin (.inr ()))
def cmp_Or_int_l0 (a0 : Int) (a1 : LI) (a2 : Int) (a3 : Int) : Option (Int ⊕ U) := lim (fun r (x : Int) => cmp_Or_int_l0K a0 a1 a2 (fun a3 => r a3) some x) a3
theorem cmp_Or_int_l0_eq (a0 : Int) (a1 : LI) (a2 : Int) (a3 : Int) : cmp_Or_int_l0 a0 a1 a2 a3 = cmp_Or_int_l0K a0 a1 a2 (cmp_Or_int_l0 a0 a1 a2) some a3 := lim_eqI (fun x =>
 by unfold cmp_Or_int_l0K; repeat' (first | constructor | intro _)) _
def L131a : Loop := mkM ⟨[3, 6, 7, 8], [], [], []⟩ s131a x131a fun (x : d131a) => cmp_Or_int_l0 x.1.1 x.1.2.1 x.1.2.2.1 x.1.2.2.2.1
def cmp_Or_intK {R : Type} (fin : Int → Option R) (x0 : LI) : Option R := (cmp_Or_int_l0 0 x0 (x0.length : Int) 0).bind fun y2 => sumO y2 (fun y3 => fin y3) (fun y4 => fin 0)
def cmp_Or_int (x0 : LI) : Option (Int) := cmp_Or_intK some x0
def or131 : Ora := { lo := addL 3 L131a lo0, fin := [] }
theorem o131a : LOk EL131 or131 Tryz.f131 0 L131a := loop_rnd (fun (x : d131a) => x.1.2.2.2.1) (fun (i : d131a) v => ((i.1.1, i.1.2.1, i.1.2.2.1, v, ()), ())) (fun (i : d131a) _ rc fin v => cmp_Or_int_l0K i.1.1 i.1.2.1 i.1.2.2.1 (fun a3 =>
 rc a3) fin v) (fun _ => rfl) (fun _ => rfl) (fun i k v => by kernel_rfl) fun i _ rc _ _ hr v => by unfold cmp_Or_int_l0K; repeat' (first | exact .of (hr _) | constructor | intro _)
def c131 : Callee := mkC [rL] 1 [rI] fun x => cmp_Or_int x
theorem k131 : Cal Tryz.prog 131 c131 := cal_mk (or := or131) Tryz.func131 (by kernel_rfl) (by kernel_rfl) mixed (EnvOk.nil : EnvOk _ EL131) (LoOk.mk (by kernel_rfl) (all1 ⟨_, by kernel_rfl, o131a⟩)) (fun _ fin x => cmp_Or_intK fin x) (fun
 _ => rfl) (fun x => by kernel_rfl) fun x _ _ => by unfold cmp_Or_intK; repeat' (first | constructor | intro _)
def EL115 : Nat → Option Callee := addE 131 c131 (addE 132 c132 env0)
def impl_compareOffsetsK {R : Type} (fin : Int → Option R) (x0 x1 : DGrid) : Option R := (cmp_Compare_int x0.2.2.1 x1.2.2.1).bind fun y1 => (cmp_Compare_int x0.2.1 x1.2.1).bind fun y2 => (cmp_Compare_int x0.1 x1.1).bind fun y3 =>
 (cmp_Or_int [y1, y2, y3]).bind fun y4 => fin y4
def impl_compareOffsets (x0 x1 : DGrid) : Option (Int) := impl_compareOffsetsK some x0 x1
def c115 : Callee := mkC [.agg [.ro TGrid], .agg [.ro TGrid]] 1 [rI] fun x => impl_compareOffsets x.1 x.2
theorem k115 : Cal Tryz.prog 115 c115 := cal_mk (or := or0) Tryz.func115 (by kernel_rfl) (by kernel_rfl) mixed (EnvOk.nil |>.a k132 |>.a k131 : EnvOk _ EL115) (LoOk.nil (by kernel_rfl)) (fun _ fin x => impl_compareOffsetsK fin x.1 x.2)
 (fun _ => rfl) (fun x => by kernel_rfl) fun x _ _ => by unfold impl_compareOffsetsK; repeat' (first | constructor | intro _)
def EL75 : Nat → Option Callee := addE 115 c115 env0
abbrev d75a := ((List DGrid) × (List DGrid) × Int × Int × U) × (U)
def s75a : LS := ⟨[(0, .one (.dat (.slice TGrid))), (13, .one (.dat (.slice TGrid))), (14, oI), (15, oI)], [], []⟩
def x75a : List (XS d75a) := [⟨.ret, ⟨[2], [], [], []⟩, ⟨[(2, oB)], [], []⟩, Bool, fun i y => ((y, ()), ())⟩, ⟨.exit 0, ⟨[], [], [], []⟩, ⟨[], [], []⟩, U, fun i y => ((), ())⟩]
def impl_IsTemplate_l0K {R : Type} (a0 a1 : List DGrid) (a2 : Int) (rc : Int → Option R) (fin : Q33 → Option R) (a3 : Int) : Option R := cond (decide (a3 < a2)) ((lat a1 a3).bind fun e1 => cond (decide (e1.1 < (-2))) (fin (.inl false))
 (cond (decide (e1.1 > 2)) (fin (.inl false)) (cond (decide (e1.2.1 < (-2))) (fin (.inl false)) (cond (decide (e1.2.1 > 2)) (fin (.inl false)) (cond (decide (e1.2.2.1 < 1)) (fin (.inl false)) (cond (decide (e1.2.2.1 > 2)) (fin (.inl
 false)) (cond (decide (a3 > 0)) ((lat a0 (i64.wrap (a3 - 1))).bind fun e2 => (impl_compareOffsets e2 e1).bind fun y3 => cond (decide (y3 ≥ 0)) (fin (.inl false)) (rc (i64.wrap (a3 + 1)))) (rc (i64.wrap (a3 + 1)))))))))) (fin (.inr ()))
def impl_IsTemplate_l0 (a0 a1 : List DGrid) (a2 : Int) (a3 : Int) : Option Q33 := lim (fun r (x : Int) => impl_IsTemplate_l0K a0 a1 a2 (fun a3 => r a3) some x) a3
theorem impl_IsTemplate_l0_eq (a0 a1 : List DGrid) (a2 : Int) (a3 : Int) : impl_IsTemplate_l0 a0 a1 a2 a3 = impl_IsTemplate_l0K a0 a1 a2 (impl_IsTemplate_l0 a0 a1 a2) some a3 := lim_eqI (fun x =>
 by unfold impl_IsTemplate_l0K; repeat' (first | constructor | intro _)) _
def L75a : Loop := mkM ⟨[0, 13, 14, 15], [], [], []⟩ s75a x75a fun (x : d75a) => impl_IsTemplate_l0 x.1.1 x.1.2.1 x.1.2.2.1 x.1.2.2.2.1
def impl_IsTemplateK {R : Type} (fin : Bool → Option R) (x0 : List DGrid) : Option R := cond (decide ((x0.length : Int) < 1)) (fin false) (cond (decide ((x0.length : Int) > 12)) (fin false) ((impl_IsTemplate_l0 x0 x0 (x0.length : Int)
 0).bind fun y4 => sumO y4 (fun y5 => fin y5) (fun y6 => fin true)))
def impl_IsTemplate (x0 : List DGrid) : Option (Bool) := impl_IsTemplateK some x0
def or75 : Ora := { lo := addL 4 L75a lo0, fin := [] }
theorem o75a : LOk EL75 or75 Tryz.f75 0 L75a := loop_rnd (fun (x : d75a) => x.1.2.2.2.1) (fun (i : d75a) v => ((i.1.1, i.1.2.1, i.1.2.2.1, v, ()), ())) (fun (i : d75a) _ rc fin v => impl_IsTemplate_l0K i.1.1 i.1.2.1 i.1.2.2.1 (fun a3 => rc
 a3) fin v) (fun _ => rfl) (fun _ => rfl) (fun i k v => by kernel_rfl) fun i _ rc _ _ hr v => by unfold impl_IsTemplate_l0K; repeat' (first | exact .of (hr _) | constructor | intro _)
def c75 : Callee := mkC [.one (.ro (.slice TGrid))] 1 [rB] fun x => impl_IsTemplate x
theorem k75 : Cal Tryz.prog 75 c75 := cal_mk (or := or75) Tryz.func75 (by kernel_rfl) (by kernel_rfl) mixed (EnvOk.nil |>.a k115 : EnvOk _ EL75) (LoOk.mk (by kernel_rfl) (all1 ⟨_, by kernel_rfl, o75a⟩)) (fun _ fin x => impl_IsTemplateK fin
 x) (fun _ => rfl) (fun x => by kernel_rfl) fun x _ _ => by unfold impl_IsTemplateK; repeat' (first | constructor | intro _)
def EL36 : Nat → Option Callee := addE 75 c75 env0
abbrev d36a := (U × (List (List DGrid)) × Int × Int × U) × ((LI × (List (List DGrid)) × U) × U)
def s36a : LS := ⟨[(3, oP 0 0), (31, .one (.dat (.slice (.slice TGrid)))), (32, oI), (33, oI)], [.box [dL, .dat (.slice (.slice TGrid))]], []⟩
def x36a : List (XS d36a) := [⟨.ret, ⟨[4], [], [], []⟩, ⟨[(4, oB)], [], []⟩, Bool, fun i y => ((y, ()), ())⟩, ⟨.exit 0, ⟨[3], [.slot 3], [], []⟩, ⟨[(3, oP 0 0)], [.box [dL, .dat (.slice (.slice TGrid))]], []⟩, U, fun i y => (((), ()),
 (i.2.1.1, i.2.1.2.1, ()), ())⟩]
def impl_areSlopes_l0K {R : Type} (a0 : List (List DGrid)) (a1 : Int) (rc : Int → Option R) (fin : Q33 → Option R) (a2 : Int) : Option R := cond (decide (a2 < a1)) ((lat a0 a2).bind fun e1 => (impl_IsTemplate e1).bind fun y2 => cond (!y2)
 (fin (.inl false)) (rc (i64.wrap (a2 + 1)))) (fin (.inr ()))
def impl_areSlopes_l0 (a0 : List (List DGrid)) (a1 : Int) (a2 : Int) : Option Q33 := lim (fun r (x : Int) => impl_areSlopes_l0K a0 a1 (fun a2 => r a2) some x) a2
theorem impl_areSlopes_l0_eq (a0 : List (List DGrid)) (a1 : Int) (a2 : Int) : impl_areSlopes_l0 a0 a1 a2 = impl_areSlopes_l0K a0 a1 (impl_areSlopes_l0 a0 a1) some a2 := lim_eqI (fun x =>
 by unfold impl_areSlopes_l0K; repeat' (first | constructor | intro _)) _
def L36a : Loop := mkM ⟨[3, 31, 32, 33], [.slot 3], [], []⟩ s36a x36a fun (x : d36a) => impl_areSlopes_l0 x.1.2.1 x.1.2.2.1 x.1.2.2.2.1
abbrev d36b := Q20 × ((LI × (List (List DGrid)) × U) × U)
def s36b : LS := ⟨[(3, oP 0 0), (42, oL), (43, oI), (44, oI)], [.box [dL, .dat (.slice (.slice TGrid))]], []⟩
def x36b : List (XS d36b) := [⟨.ret, ⟨[4], [], [], []⟩, ⟨[(4, oB)], [], []⟩, Bool, fun i y => ((y, ()), ())⟩, ⟨.exit 2, ⟨[], [], [], []⟩, ⟨[], [], []⟩, U, fun i y => ((), ())⟩]
def impl_areSlopes_l1K {R : Type} (a0 : LI) (a1 : Int) (a4 : List (List DGrid)) (rc : Int → Option R) (fin : Q33 → Option R) (a2 : Int) : Option R := cond (decide (a2 < a1)) ((lat a0 a2).bind fun e1 => cond (decide (e1 < 0)) (fin (.inl
 false)) (cond (decide (e1 ≥ (a4.length : Int))) (fin (.inl false)) (rc (i64.wrap (a2 + 1))))) (fin (.inr ()))
def impl_areSlopes_l1 (a0 : LI) (a1 : Int) (a4 : List (List DGrid)) (a2 : Int) : Option Q33 := lim (fun r (x : Int) => impl_areSlopes_l1K a0 a1 a4 (fun a2 => r a2) some x) a2
theorem impl_areSlopes_l1_eq (a0 : LI) (a1 : Int) (a4 : List (List DGrid)) (a2 : Int) : impl_areSlopes_l1 a0 a1 a4 a2 = impl_areSlopes_l1K a0 a1 a4 (impl_areSlopes_l1 a0 a1 a4) some a2 := lim_eqI (fun x =>
 by unfold impl_areSlopes_l1K; repeat' (first | constructor | intro _)) _
def L36b : Loop := mkM ⟨[3, 42, 43, 44], [.slot 3], [], []⟩ s36b x36b fun (x : d36b) => impl_areSlopes_l1 x.1.2.1 x.1.2.2.1 x.2.1.2.1 x.1.2.2.2.1
def impl_areSlopesK {R : Type} (fin : Bool → Option R) (x0 : DGrid) (x1 : DSlopes) : Option R := cond (decide ((x1.2.1.length : Int) < 1)) (fin false) (cond (decide ((x1.2.1.length : Int) > 4)) (fin false) (cond ((x1.1.length : Int) !=
 (i64.wrap (x0.1 * x0.2.1))) (fin false) ((impl_areSlopes_l0 x1.2.1 (x1.2.1.length : Int) 0).bind fun y3 => sumO y3 (fun y4 => fin y4) (fun y5 => (impl_areSlopes_l1 x1.1 (x1.1.length : Int) x1.2.1 0).bind fun y7 => sumO y7 (fun y8 => fin
 y8) (fun y9 => fin true)))))
def impl_areSlopes (x0 : DGrid) (x1 : DSlopes) : Option (Bool) := impl_areSlopesK some x0 x1
def or36 : Ora := { lo := addL 10 L36b (addL 4 L36a lo0), fin := [] }
theorem o36a : LOk EL36 or36 Tryz.f36 0 L36a := loop_rnd (fun (x : d36a) => x.1.2.2.2.1) (fun (i : d36a) v => (((), i.1.2.1, i.1.2.2.1, v, ()), (i.2.1.1, i.2.1.2.1, ()), ())) (fun (i : d36a) _ rc fin v => impl_areSlopes_l0K i.1.2.1
 i.1.2.2.1 (fun a2 => rc a2) fin v) (fun _ => rfl) (fun _ => rfl) (fun i k v => by kernel_rfl) fun i _ rc _ _ hr v => by unfold impl_areSlopes_l0K; repeat' (first | exact .of (hr _) | constructor | intro _)
theorem o36b : LOk EL36 or36 Tryz.f36 1 L36b := loop_rnd (fun (x : d36b) => x.1.2.2.2.1) (fun (i : d36b) v => (((), i.1.2.1, i.1.2.2.1, v, ()), (i.2.1.1, i.2.1.2.1, ()), ())) (fun (i : d36b) _ rc fin v => impl_areSlopes_l1K i.1.2.1
 i.1.2.2.1 i.2.1.2.1 (fun a2 => rc a2) fin v) (fun _ => rfl) (fun _ => rfl) (fun i k v => by kernel_rfl) fun i _ rc _ _ hr v => by unfold impl_areSlopes_l1K; repeat' (first | exact .of (hr _) | constructor | intro _)
def c36 : Callee := mkC [.agg [.ro TGrid], .agg [.ro TSlopes]] 1 [rB] fun x => impl_areSlopes x.1 x.2
theorem k36 : Cal Tryz.prog 36 c36 := cal_mk (or := or36) Tryz.func36 (by kernel_rfl) (by kernel_rfl) mixed (EnvOk.nil |>.a k75 : EnvOk _ EL36) (LoOk.mk (by kernel_rfl) (all2 ⟨_, by kernel_rfl, o36a⟩ ⟨_, by kernel_rfl, o36b⟩)) (fun _ fin x
 => impl_areSlopesK fin x.1 x.2) (fun _ => rfl) (fun x => by kernel_rfl) fun x _ _ => by unfold impl_areSlopesK; repeat' (first | constructor | intro _)
def EL76 : Nat → Option Callee := env0
def impl_placeOfK {R : Type} (fin : Int × Int × Int → Option R) (x0 : DGrid) (x1 : Int) : Option R := cond (decide (x0.1 = 0)) none (cond (decide (x0.1 = 0)) none (cond (decide (x0.2.1 = 0)) none (cond (decide (x0.1 = 0)) none (cond
 (decide (x0.2.1 = 0)) none (fin (x1.tmod x0.1, (i64.wrap (x1.tdiv x0.1)).tmod x0.2.1, i64.wrap ((i64.wrap (x1.tdiv x0.1)).tdiv x0.2.1)))))))
def impl_placeOf (x0 : DGrid) (x1 : Int) : Option (Int × Int × Int) := impl_placeOfK some x0 x1
def c76 : Callee := mkC [.agg [.ro TGrid], rI] 3 [rI, rI, rI] fun x => impl_placeOf x.1 x.2
theorem k76 : Cal Tryz.prog 76 c76 := cal_mk (or := or0) Tryz.func76 (by kernel_rfl) (by kernel_rfl) mixed (EnvOk.nil : EnvOk _ EL76) (LoOk.nil (by kernel_rfl)) (fun _ fin x => impl_placeOfK fin x.1 x.2) (fun _ => rfl) (fun x =>
 by kernel_rfl) fun x _ _ => by unfold impl_placeOfK; repeat' (first | constructor | intro _)
def EL116 : Nat → Option Callee := env0
def impl_blockAtK {R : Type} (fin : Int → Option R) (x0 : DGrid) (x1 x2 x3 : Int) : Option R := (some (i64.wrap ((i64.wrap ((i64.wrap (x3 * x0.2.1)) + x2)) * x0.1))).bind fun v1 => fin (i64.wrap (v1 + x1))
def impl_blockAt (x0 : DGrid) (x1 x2 x3 : Int) : Option (Int) := impl_blockAtK some x0 x1 x2 x3
def c116 : Callee := mkC [.agg [.ro TGrid], rI, rI, rI] 1 [rI] fun x => impl_blockAt x.1 x.2.1 x.2.2.1 x.2.2.2
theorem k116 : Cal Tryz.prog 116 c116 := cal_mk (or := or0) Tryz.func116 (by kernel_rfl) (by kernel_rfl) mixed (EnvOk.nil : EnvOk _ EL116) (LoOk.nil (by kernel_rfl)) (fun _ fin x => impl_blockAtK fin x.1 x.2.1 x.2.2.1 x.2.2.2) (fun _ =>
 rfl) (fun x => by kernel_rfl) fun x _ _ => by unfold impl_blockAtK; repeat' (first | constructor | intro _)
def EL77 : Nat → Option Callee := addE 116 c116 (addE 35 c35 env0)
def impl_BlockAtK {R : Type} (fin : Int × Bool → Option R) (x0 : DGrid) (x1 x2 x3 : Int) : Option R := (impl_IsGrid x0).bind fun y1 => cond (!y1) (fin (0, false)) (cond (decide (x1 < 0)) (fin (0, false)) (cond (decide (x1 ≥ x0.1)) (fin (0,
 false)) (cond (decide (x2 < 0)) (fin (0, false)) (cond (decide (x2 ≥ x0.2.1)) (fin (0, false)) (cond (decide (x3 < 0)) (fin (0, false)) (cond (decide (x3 ≥ x0.2.2.1)) (fin (0, false)) ((impl_blockAt x0 x1 x2 x3).bind fun y2 => fin (y2,
 true))))))))
def impl_BlockAt (x0 : DGrid) (x1 x2 x3 : Int) : Option (Int × Bool) := impl_BlockAtK some x0 x1 x2 x3
def c77 : Callee := mkC [.agg [.ro TGrid], rI, rI, rI] 2 [rI, rB] fun x => impl_BlockAt x.1 x.2.1 x.2.2.1 x.2.2.2
theorem k77 : Cal Tryz.prog 77 c77 := cal_mk (or := or0) Tryz.func77 (by kernel_rfl) (by kernel_rfl) mixed (EnvOk.nil |>.a k35 |>.a k116 : EnvOk _ EL77) (LoOk.nil (by kernel_rfl)) (fun _ fin x => impl_BlockAtK fin x.1 x.2.1 x.2.2.1
 x.2.2.2) (fun _ => rfl) (fun x => by kernel_rfl) fun x _ _ => by unfold impl_BlockAtK; repeat' (first | constructor | intro _)
def EL37 : Nat → Option Callee := addE 78 c78 (addE 77 c77 (addE 76 c76 (addE 38 c38 env0)))
abbrev d37b := (U × U × U × Int × Int × Int × Int × Int × Int × (List DGrid) × Int × Int × U) × (Q27 × (LI × (List (List DGrid)) × U) × LL × U)
def s37b : LS := ⟨[(2, oP 0 0), (3, oP 1 0), (5, oS 2), (6, oI), (7, oI), (8, oI), (9, oI), (18, oI), (19, oI), (42, .one (.dat (.slice TGrid))), (43, oI), (44, oI)], [.box [dI, dI, dI], .box [dL, .dat (.slice (.slice TGrid))], .mat (.int
 .i64)], []⟩
def x37b : List (XS d37b) := [⟨.exit 2, ⟨[2, 3, 5, 6, 18, 19], [.slot 2, .slot 3, .slot 5], [], []⟩, ⟨[(2, oP 0 0), (3, oP 1 0), (5, oS 2), (6, oI), (18, oI), (19, oI)], [.box [dI, dI, dI], .box [dL, .dat (.slice (.slice TGrid))], .mat
 (.int .i64)], []⟩, LL, fun i y => (((), (), (), i.1.2.2.2.1, i.1.2.2.2.2.2.2.2.1, i.1.2.2.2.2.2.2.2.2.1, ()), (i.2.1.1, i.2.1.2.1, i.2.1.2.2.1, ()), (i.2.2.1.1, i.2.2.1.2.1, ()), y, ())⟩]
def impl_arcsOf_l1K {R : Type} (a0 a1 a2 a3 : Int) (a6 : List DGrid) (a7 a9 a10 a11 : Int) (rc : Int → LL → Option R) (fin : LL → Option R) (a8 : Int) (a14 : LL) : Option R := cond (decide (a8 < a7)) ((lat a6 a8).bind fun e1 =>
 (impl_BlockAt (a9, a10, a11, ()) (i64.wrap (a1 + e1.1)) (i64.wrap (a2 + e1.2.1)) (i64.wrap (a3 - e1.2.2.1))).bind fun y2 => cond (y2.2) (cond (decide ((0 : Int) ≤ a0) && decide (a0 < (a14.length : Int))) (cond (decide (0 + a0.toNat =
 a0.toNat)) (cond (decide ((a14.getD a0.toNat []).length + [y2.1].length ≤ 1099511627776)) ((some ((a14.getD a0.toNat []) ++ [y2.1])).bind fun v3 => cond (decide ((0 : Int) ≤ a0) && decide (a0 < (a14.length : Int))) (cond (decide (0 +
 a0.toNat = a0.toNat) && true) (rc (i64.wrap (a8 + 1)) (a14.set (0 + a0.toNat) v3)) none) none) none) none) none) (rc (i64.wrap (a8 + 1)) a14)) (fin a14)
def impl_arcsOf_l1 (a0 a1 a2 a3 : Int) (a6 : List DGrid) (a7 a9 a10 a11 : Int) (a8 : Int) (a14 : LL) : Option (LL) := lim (fun r (x : Q35) => impl_arcsOf_l1K a0 a1 a2 a3 a6 a7 a9 a10 a11 (fun a8 a14 => r (a8, a14)) some x.1 x.2) (a8, a14)
theorem impl_arcsOf_l1_eq (a0 a1 a2 a3 : Int) (a6 : List DGrid) (a7 a9 a10 a11 : Int) (a8 : Int) (a14 : LL) : impl_arcsOf_l1 a0 a1 a2 a3 a6 a7 a9 a10 a11 a8 a14 = impl_arcsOf_l1K a0 a1 a2 a3 a6 a7 a9 a10 a11 (impl_arcsOf_l1 a0 a1 a2 a3 a6
 a7 a9 a10 a11) some a8 a14 := lim_eqI (fun x => by unfold impl_arcsOf_l1K; repeat' (first | constructor | intro _)) _
def L37b : Loop := mkM ⟨[2, 3, 5, 6, 7, 8, 9, 18, 19, 42, 43, 44], [.slot 2, .slot 3, .slot 5], [], []⟩ s37b x37b fun (x : d37b) => impl_arcsOf_l1 x.1.2.2.2.1 x.1.2.2.2.2.1 x.1.2.2.2.2.2.1 x.1.2.2.2.2.2.2.1 x.1.2.2.2.2.2.2.2.2.2.1
 x.1.2.2.2.2.2.2.2.2.2.2.1 x.2.1.1 x.2.1.2.1 x.2.1.2.2.1 x.1.2.2.2.2.2.2.2.2.2.2.2.1 x.2.2.2.1
abbrev d37a := Q15 × (Q27 × (LI × (List (List DGrid)) × U) × LL × U)
def s37a : LS := ⟨[(2, oP 0 0), (3, oP 1 0), (5, oS 2), (18, oI), (19, oI)], [.box [dI, dI, dI], .box [dL, .dat (.slice (.slice TGrid))], .mat (.int .i64)], []⟩
def x37a : List (XS d37a) := [⟨.exit 0, ⟨[5], [.slot 5], [], []⟩, ⟨[(5, oS 0)], [.mat (.int .i64)], []⟩, LL, fun i y => (((), ()), y, ())⟩]
def impl_arcsOf_l0K {R : Type} (a0 a2 a3 a4 : Int) (a5 : LI) (a6 : List (List DGrid)) (rc : Int → LL → Option R) (fin : LL → Option R) (a1 : Int) (a7 : LL) : Option R := cond (decide (a1 < a0)) ((impl_placeOf (a2, a3, a4, ()) a1).bind fun
 y1 => (lat a5 (i64.wrap ((i64.wrap (y1.2.1 * a2)) + y1.1))).bind fun e2 => (lat a6 e2).bind fun e3 => (impl_arcsOf_l1 a1 y1.1 y1.2.1 y1.2.2 e3 (e3.length : Int) a2 a3 a4 0 a7).bind fun y7 => cond (decide ((0 : Int) ≤ a1) && decide (a1 <
 (y7.length : Int))) ((lib_Sort (y7.getD (0 + a1.toNat) [])).bind fun y8 => rc (i64.wrap (a1 + 1)) (y7.set (0 + a1.toNat) y8)) none) (fin a7)
def impl_arcsOf_l0 (a0 a2 a3 a4 : Int) (a5 : LI) (a6 : List (List DGrid)) (a1 : Int) (a7 : LL) : Option (LL) := lim (fun r (x : Q35) => impl_arcsOf_l0K a0 a2 a3 a4 a5 a6 (fun a1 a7 => r (a1, a7)) some x.1 x.2) (a1, a7)
theorem impl_arcsOf_l0_eq (a0 a2 a3 a4 : Int) (a5 : LI) (a6 : List (List DGrid)) (a1 : Int) (a7 : LL) : impl_arcsOf_l0 a0 a2 a3 a4 a5 a6 a1 a7 = impl_arcsOf_l0K a0 a2 a3 a4 a5 a6 (impl_arcsOf_l0 a0 a2 a3 a4 a5 a6) some a1 a7 := lim_eqI
 (fun x => by unfold impl_arcsOf_l0K; repeat' (first | constructor | intro _)) _
def L37a : Loop := mkM ⟨[2, 3, 5, 18, 19], [.slot 2, .slot 3, .slot 5], [], []⟩ s37a x37a fun (x : d37a) => impl_arcsOf_l0 x.1.2.2.2.1 x.2.1.1 x.2.1.2.1 x.2.1.2.2.1 x.2.2.1.1 x.2.2.1.2.1 x.1.2.2.2.2.1 x.2.2.2.1
def impl_arcsOfK {R : Type} (fin : LL → Option R) (x0 : DGrid) (x1 : DSlopes) : Option R := (impl_blocksOf x0).bind fun y1 => cond (decide ((0 : Int) ≤ y1) && (decide (y1 ≤ y1) && decide (y1 ≤ 1099511627776))) ((some ((List.replicate
 y1.toNat [] : LL))).bind fun v2 => (impl_arcsOf_l0 (v2.length : Int) x0.1 x0.2.1 x0.2.2.1 x1.1 x1.2.1 0 v2).bind fun y11 => fin y11) none
def impl_arcsOf (x0 : DGrid) (x1 : DSlopes) : Option (LL) := impl_arcsOfK some x0 x1
def or37 : Ora := { lo := addL 3 L37a (addL 7 L37b lo0), fin := [], fz := fun i => cond (decide (i = 11)) [.take (.slot 5) (.slot 6)] <| [] }
theorem o37b : LOk EL37 or37 Tryz.f37 1 L37b := loop_rnd (fun (x : d37b) => (x.1.2.2.2.2.2.2.2.2.2.2.2.1, x.2.2.2.1)) (fun (i : d37b) v => (((), (), (), i.1.2.2.2.1, i.1.2.2.2.2.1, i.1.2.2.2.2.2.1, i.1.2.2.2.2.2.2.1, i.1.2.2.2.2.2.2.2.1,
 i.1.2.2.2.2.2.2.2.2.1, i.1.2.2.2.2.2.2.2.2.2.1, i.1.2.2.2.2.2.2.2.2.2.2.1, v.1, ()), (i.2.1.1, i.2.1.2.1, i.2.1.2.2.1, ()), (i.2.2.1.1, i.2.2.1.2.1, ()), v.2, ())) (fun (i : d37b) _ rc fin v => impl_arcsOf_l1K i.1.2.2.2.1 i.1.2.2.2.2.1
 i.1.2.2.2.2.2.1 i.1.2.2.2.2.2.2.1 i.1.2.2.2.2.2.2.2.2.2.1 i.1.2.2.2.2.2.2.2.2.2.2.1 i.2.1.1 i.2.1.2.1 i.2.1.2.2.1 (fun a8 a14 => rc (a8, a14)) fin v.1 v.2) (fun _ => rfl) (fun _ => rfl) (fun i k v => by kernel_rfl) fun i _ rc _ _ hr v =>
 by unfold impl_arcsOf_l1K; repeat' (first | exact .of (hr _) | constructor | intro _)
theorem o37a : LOk EL37 or37 Tryz.f37 0 L37a := loop_rnd (fun (x : d37a) => (x.1.2.2.2.2.1, x.2.2.2.1)) (fun (i : d37a) v => (((), (), (), i.1.2.2.2.1, v.1, ()), (i.2.1.1, i.2.1.2.1, i.2.1.2.2.1, ()), (i.2.2.1.1, i.2.2.1.2.1, ()), v.2,
 ())) (fun (i : d37a) _ rc fin v => impl_arcsOf_l0K i.1.2.2.2.1 i.2.1.1 i.2.1.2.1 i.2.1.2.2.1 i.2.2.1.1 i.2.2.1.2.1 (fun a1 a7 => rc (a1, a7)) fin v.1 v.2) (fun _ => rfl) (fun _ => rfl) (fun i k v => by kernel_rfl) fun i _ rc _ _ hr v =>
 by unfold impl_arcsOf_l0K; repeat' (first | exact .of (hr _) | constructor | intro _)
def c37 : Callee := mkC [.agg [.ro TGrid], .agg [.ro TSlopes]] 1 [.one (.mat (.int .i64))] fun x => impl_arcsOf x.1 x.2
theorem k37 : Cal Tryz.prog 37 c37 := cal_mk (or := or37) Tryz.func37 (by kernel_rfl) (by kernel_rfl) mixed (EnvOk.nil |>.a k38 |>.a k76 |>.a k77 |>.a k78 : EnvOk _ EL37) (LoOk.mk (by kernel_rfl) (all2 ⟨_, by kernel_rfl, o37a⟩ ⟨_,
 by kernel_rfl, o37b⟩)) (fun _ fin x => impl_arcsOfK fin x.1 x.2) (fun _ => rfl) (fun x => by kernel_rfl) fun x _ _ => by unfold impl_arcsOfK; repeat' (first | constructor | intro _)
def EL9 : Nat → Option Callee := addE 37 c37 (addE 36 c36 (addE 35 c35 env0))
def impl_ArcsOfK {R : Type} (fin : LL × Bool → Option R) (x0 : DGrid) (x1 : DSlopes) : Option R := (impl_IsGrid x0).bind fun y1 => cond (!y1) (fin ([], false)) ((impl_areSlopes x0 x1).bind fun y2 => cond (!y2) (fin ([], false))
 ((impl_arcsOf x0 x1).bind fun y3 => fin (y3, true)))
def impl_ArcsOf (x0 : DGrid) (x1 : DSlopes) : Option (LL × Bool) := impl_ArcsOfK some x0 x1
def or9 : Ora := { lo := lo0, fin := [.ownm (.slot 4) (.int .i64)] }
def c9 : Callee := mkC [.agg [.ro TGrid], .agg [.ro TSlopes]] 2 [.one (.mat (.int .i64)), rB] fun x => impl_ArcsOf x.1 x.2
theorem k9 : Cal Tryz.prog 9 c9 := cal_mk (or := or9) Tryz.func9 (by kernel_rfl) (by kernel_rfl) mixed (EnvOk.nil |>.a k35 |>.a k36 |>.a k37 : EnvOk _ EL9) (LoOk.nil (by kernel_rfl)) (fun _ fin x => impl_ArcsOfK fin x.1 x.2) (fun _ => rfl)
 (fun x => by kernel_rfl) fun x _ _ => by unfold impl_ArcsOfK; repeat' (first | constructor | intro _)
def EL145 : Nat → Option Callee := env0
def spec_slBeforeK {R : Type} (fin : Bool → Option R) (x0 x1 : DGrid) : Option R := cond (x0.2.2.1 != x1.2.2.1) (fin (decide (x0.2.2.1 < x1.2.2.1))) (cond (x0.2.1 != x1.2.1) (fin (decide (x0.2.1 < x1.2.1))) (fin (decide (x0.1 < x1.1))))
def spec_slBefore (x0 x1 : DGrid) : Option (Bool) := spec_slBeforeK some x0 x1
def c145 : Callee := mkC [.agg [.ro TGrid], .agg [.ro TGrid]] 1 [rB] fun x => spec_slBefore x.1 x.2
theorem k145 : Cal Tryz.prog 145 c145 := cal_mk (or := or0) Tryz.func145 (by kernel_rfl) (by kernel_rfl) mixed (EnvOk.nil : EnvOk _ EL145) (LoOk.nil (by kernel_rfl)) (fun _ fin x => spec_slBeforeK fin x.1 x.2) (fun _ => rfl) (fun x =>
 by kernel_rfl) fun x _ _ => by unfold spec_slBeforeK; repeat' (first | constructor | intro _)
def EL120 : Nat → Option Callee := addE 145 c145 (addE 40 c40 env0)
abbrev d120a := ((List DGrid) × (List DGrid) × Int × Int × U) × (U)
def s120a : LS := ⟨[(0, .one (.dat (.slice TGrid))), (5, .one (.dat (.slice TGrid))), (6, oI), (7, oI)], [], []⟩
def x120a : List (XS d120a) := [⟨.ret, ⟨[2], [], [], []⟩, ⟨[(2, oB)], [], []⟩, Bool, fun i y => ((y, ()), ())⟩, ⟨.exit 0, ⟨[0], [], [], []⟩, ⟨[(0, .one (.dat (.slice TGrid)))], [], []⟩, U, fun i y => ((i.1.1, ()), ())⟩]
def spec_slTemplate_l0K {R : Type} (a0 a1 : List DGrid) (a2 : Int) (rc : Int → Option R) (fin : Q33 → Option R) (a3 : Int) : Option R := cond (decide (a3 < a2)) ((lat a1 a3).bind fun e1 => (spec_l1In e1.1 (-2) 2).bind fun y2 => cond (!y2)
 (fin (.inl false)) ((spec_l1In e1.2.1 (-2) 2).bind fun y3 => cond (!y3) (fin (.inl false)) ((spec_l1In e1.2.2.1 1 2).bind fun y4 => cond (!y4) (fin (.inl false)) (cond (decide (a3 > 0)) ((lat a0 (i64.wrap (a3 - 1))).bind fun e5 =>
 (spec_slBefore e5 e1).bind fun y6 => cond (!y6) (fin (.inl false)) (rc (i64.wrap (a3 + 1)))) (rc (i64.wrap (a3 + 1))))))) (fin (.inr ()))
def spec_slTemplate_l0 (a0 a1 : List DGrid) (a2 : Int) (a3 : Int) : Option Q33 := lim (fun r (x : Int) => spec_slTemplate_l0K a0 a1 a2 (fun a3 => r a3) some x) a3
theorem spec_slTemplate_l0_eq (a0 a1 : List DGrid) (a2 : Int) (a3 : Int) : spec_slTemplate_l0 a0 a1 a2 a3 = spec_slTemplate_l0K a0 a1 a2 (spec_slTemplate_l0 a0 a1 a2) some a3 := lim_eqI (fun x =>
 by unfold spec_slTemplate_l0K; repeat' (first | constructor | intro _)) _
def L120a : Loop := mkM ⟨[0, 5, 6, 7], [], [], []⟩ s120a x120a fun (x : d120a) => spec_slTemplate_l0 x.1.1 x.1.2.1 x.1.2.2.1 x.1.2.2.2.1
def spec_slTemplateK {R : Type} (fin : Bool → Option R) (x0 : List DGrid) : Option R := (spec_slTemplate_l0 x0 x0 (x0.length : Int) 0).bind fun y7 => sumO y7 (fun y8 => fin y8) (fun y9 => (spec_l1In (x0.length : Int) 1 12).bind fun y10 =>
 fin y10)
def spec_slTemplate (x0 : List DGrid) : Option (Bool) := spec_slTemplateK some x0
def or120 : Ora := { lo := addL 2 L120a lo0, fin := [] }
theorem o120a : LOk EL120 or120 Tryz.f120 0 L120a := loop_rnd (fun (x : d120a) => x.1.2.2.2.1) (fun (i : d120a) v => ((i.1.1, i.1.2.1, i.1.2.2.1, v, ()), ())) (fun (i : d120a) _ rc fin v => spec_slTemplate_l0K i.1.1 i.1.2.1 i.1.2.2.1 (fun
 a3 => rc a3) fin v) (fun _ => rfl) (fun _ => rfl) (fun i k v => by kernel_rfl) fun i _ rc _ _ hr v => by unfold spec_slTemplate_l0K; repeat' (first | exact .of (hr _) | constructor | intro _)
def c120 : Callee := mkC [.one (.ro (.slice TGrid))] 1 [rB] fun x => spec_slTemplate x
theorem k120 : Cal Tryz.prog 120 c120 := cal_mk (or := or120) Tryz.func120 (by kernel_rfl) (by kernel_rfl) mixed (EnvOk.nil |>.a k40 |>.a k145 : EnvOk _ EL120) (LoOk.mk (by kernel_rfl) (all1 ⟨_, by kernel_rfl, o120a⟩)) (fun _ fin x =>
 spec_slTemplateK fin x) (fun _ => rfl) (fun x => by kernel_rfl) fun x _ _ => by unfold spec_slTemplateK; repeat' (first | constructor | intro _)
def EL80 : Nat → Option Callee := addE 72 c72 (addE 40 c40 (addE 120 c120 env0))
abbrev d80a := (U × U × (List (List DGrid)) × Int × Int × U) × (Q27 × (LI × (List (List DGrid)) × U) × U)
def s80a : LS := ⟨[(2, oP 0 0), (3, oP 1 0), (8, .one (.dat (.slice (.slice TGrid)))), (9, oI), (10, oI)], [.box [dI, dI, dI], .box [dL, .dat (.slice (.slice TGrid))]], []⟩
def x80a : List (XS d80a) := [⟨.ret, ⟨[4], [], [], []⟩, ⟨[(4, oB)], [], []⟩, Bool, fun i y => ((y, ()), ())⟩, ⟨.exit 0, ⟨[2, 3], [.slot 2, .slot 3], [], []⟩, ⟨[(2, oP 0 0), (3, oP 1 0)], [.box [dI, dI, dI], .box [dL, .dat (.slice (.slice
 TGrid))]], []⟩, U, fun i y => (((), (), ()), (i.2.1.1, i.2.1.2.1, i.2.1.2.2.1, ()), (i.2.2.1.1, i.2.2.1.2.1, ()), ())⟩]
def spec_slGood_l0K {R : Type} (a0 : List (List DGrid)) (a1 : Int) (rc : Int → Option R) (fin : Q33 → Option R) (a2 : Int) : Option R := cond (decide (a2 < a1)) ((lat a0 a2).bind fun e1 => (spec_slTemplate e1).bind fun y2 => cond (!y2)
 (fin (.inl false)) (rc (i64.wrap (a2 + 1)))) (fin (.inr ()))
def spec_slGood_l0 (a0 : List (List DGrid)) (a1 : Int) (a2 : Int) : Option Q33 := lim (fun r (x : Int) => spec_slGood_l0K a0 a1 (fun a2 => r a2) some x) a2
theorem spec_slGood_l0_eq (a0 : List (List DGrid)) (a1 : Int) (a2 : Int) : spec_slGood_l0 a0 a1 a2 = spec_slGood_l0K a0 a1 (spec_slGood_l0 a0 a1) some a2 := lim_eqI (fun x =>
 by unfold spec_slGood_l0K; repeat' (first | constructor | intro _)) _
def L80a : Loop := mkM ⟨[2, 3, 8, 9, 10], [.slot 2, .slot 3], [], []⟩ s80a x80a fun (x : d80a) => spec_slGood_l0 x.1.2.2.1 x.1.2.2.2.1 x.1.2.2.2.2.1
def spec_slGoodK {R : Type} (fin : Bool → Option R) (x0 : DGrid) (x1 : DSlopes) : Option R := (spec_slGood_l0 x1.2.1 (x1.2.1.length : Int) 0).bind fun y3 => sumO y3 (fun y4 => fin y4) (fun y5 => (spec_l1In (x1.2.1.length : Int) 1 4).bind
 fun y6 => cond (y6) (cond ((x1.1.length : Int) == (i64.wrap (x0.1 * x0.2.1))) ((spec_l1All x1.1 0 (i64.wrap ((x1.2.1.length : Int) - 1))).bind fun y7 => fin y7) (fin false)) (fin false))
def spec_slGood (x0 : DGrid) (x1 : DSlopes) : Option (Bool) := spec_slGoodK some x0 x1
def or80 : Ora := { lo := addL 2 L80a lo0, fin := [] }
theorem o80a : LOk EL80 or80 Tryz.f80 0 L80a := loop_rnd (fun (x : d80a) => x.1.2.2.2.2.1) (fun (i : d80a) v => (((), (), i.1.2.2.1, i.1.2.2.2.1, v, ()), (i.2.1.1, i.2.1.2.1, i.2.1.2.2.1, ()), (i.2.2.1.1, i.2.2.1.2.1, ()), ())) (fun (i :
 d80a) _ rc fin v => spec_slGood_l0K i.1.2.2.1 i.1.2.2.2.1 (fun a2 => rc a2) fin v) (fun _ => rfl) (fun _ => rfl) (fun i k v => by kernel_rfl) fun i _ rc _ _ hr v =>
 by unfold spec_slGood_l0K; repeat' (first | exact .of (hr _) | constructor | intro _)
def c80 : Callee := mkC [.agg [.ro TGrid], .agg [.ro TSlopes]] 1 [rB] fun x => spec_slGood x.1 x.2
theorem k80 : Cal Tryz.prog 80 c80 := cal_mk (or := or80) Tryz.func80 (by kernel_rfl) (by kernel_rfl) mixed (EnvOk.nil |>.a k120 |>.a k40 |>.a k72 : EnvOk _ EL80) (LoOk.mk (by kernel_rfl) (all1 ⟨_, by kernel_rfl, o80a⟩)) (fun _ fin x =>
 spec_slGoodK fin x.1 x.2) (fun _ => rfl) (fun x => by kernel_rfl) fun x _ _ => by unfold spec_slGoodK; repeat' (first | constructor | intro _)
def EL42 : Nat → Option Callee := addE 80 c80 (addE 39 c39 env0)
def spec_slBothK {R : Type} (fin : Bool → Option R) (x0 : DGrid) (x1 : DSlopes) : Option R := (spec_grGood x0).bind fun y1 => cond (y1) ((spec_slGood x0 x1).bind fun y2 => fin y2) (fin false)
def spec_slBoth (x0 : DGrid) (x1 : DSlopes) : Option (Bool) := spec_slBothK some x0 x1
def c42 : Callee := mkC [.agg [.ro TGrid], .agg [.ro TSlopes]] 1 [rB] fun x => spec_slBoth x.1 x.2
theorem k42 : Cal Tryz.prog 42 c42 := cal_mk (or := or0) Tryz.func42 (by kernel_rfl) (by kernel_rfl) mixed (EnvOk.nil |>.a k39 |>.a k80 : EnvOk _ EL42) (LoOk.nil (by kernel_rfl)) (fun _ fin x => spec_slBothK fin x.1 x.2) (fun _ => rfl)
 (fun x => by kernel_rfl) fun x _ _ => by unfold spec_slBothK; repeat' (first | constructor | intro _)
def EL81 : Nat → Option Callee := env0
def spec_grXK {R : Type} (fin : Int → Option R) (x0 : DGrid) (x1 : Int) : Option R := cond (decide (x0.1 = 0)) none (fin (x1.tmod x0.1))
def spec_grX (x0 : DGrid) (x1 : Int) : Option (Int) := spec_grXK some x0 x1
def c81 : Callee := mkC [.agg [.ro TGrid], rI] 1 [rI] fun x => spec_grX x.1 x.2
theorem k81 : Cal Tryz.prog 81 c81 := cal_mk (or := or0) Tryz.func81 (by kernel_rfl) (by kernel_rfl) mixed (EnvOk.nil : EnvOk _ EL81) (LoOk.nil (by kernel_rfl)) (fun _ fin x => spec_grXK fin x.1 x.2) (fun _ => rfl) (fun x => by kernel_rfl)
 fun x _ _ => by unfold spec_grXK; repeat' (first | constructor | intro _)
def EL82 : Nat → Option Callee := env0
def spec_grYK {R : Type} (fin : Int → Option R) (x0 : DGrid) (x1 : Int) : Option R := cond (decide (x0.1 = 0)) none (cond (decide (x0.2.1 = 0)) none (fin ((i64.wrap (x1.tdiv x0.1)).tmod x0.2.1)))
def spec_grY (x0 : DGrid) (x1 : Int) : Option (Int) := spec_grYK some x0 x1
def c82 : Callee := mkC [.agg [.ro TGrid], rI] 1 [rI] fun x => spec_grY x.1 x.2
theorem k82 : Cal Tryz.prog 82 c82 := cal_mk (or := or0) Tryz.func82 (by kernel_rfl) (by kernel_rfl) mixed (EnvOk.nil : EnvOk _ EL82) (LoOk.nil (by kernel_rfl)) (fun _ fin x => spec_grYK fin x.1 x.2) (fun _ => rfl) (fun x => by kernel_rfl)
 fun x _ _ => by unfold spec_grYK; repeat' (first | constructor | intro _)
def EL83 : Nat → Option Callee := env0
def spec_grZK {R : Type} (fin : Int → Option R) (x0 : DGrid) (x1 : Int) : Option R := cond (decide (x0.1 = 0)) none (cond (decide (x0.2.1 = 0)) none (fin (i64.wrap ((i64.wrap (x1.tdiv x0.1)).tdiv x0.2.1))))
def spec_grZ (x0 : DGrid) (x1 : Int) : Option (Int) := spec_grZK some x0 x1
def c83 : Callee := mkC [.agg [.ro TGrid], rI] 1 [rI] fun x => spec_grZ x.1 x.2
theorem k83 : Cal Tryz.prog 83 c83 := cal_mk (or := or0) Tryz.func83 (by kernel_rfl) (by kernel_rfl) mixed (EnvOk.nil : EnvOk _ EL83) (LoOk.nil (by kernel_rfl)) (fun _ fin x => spec_grZK fin x.1 x.2) (fun _ => rfl) (fun x => by kernel_rfl)
 fun x _ _ => by unfold spec_grZK; repeat' (first | constructor | intro _)
def EL84 : Nat → Option Callee := addE 40 c40 env0
def spec_grAtK {R : Type} (fin : Int → Option R) (x0 : DGrid) (x1 x2 x3 : Int) : Option R := (spec_l1In x1 0 (i64.wrap (x0.1 - 1))).bind fun y1 => cond (!y1) (fin (-1)) ((spec_l1In x2 0 (i64.wrap (x0.2.1 - 1))).bind fun y2 => cond (!y2)
 (fin (-1)) ((spec_l1In x3 0 (i64.wrap (x0.2.2.1 - 1))).bind fun y3 => cond (!y3) (fin (-1)) ((some (i64.wrap ((i64.wrap ((i64.wrap (x3 * x0.2.1)) + x2)) * x0.1))).bind fun v4 => fin (i64.wrap (v4 + x1)))))
def spec_grAt (x0 : DGrid) (x1 x2 x3 : Int) : Option (Int) := spec_grAtK some x0 x1 x2 x3
def c84 : Callee := mkC [.agg [.ro TGrid], rI, rI, rI] 1 [rI] fun x => spec_grAt x.1 x.2.1 x.2.2.1 x.2.2.2
theorem k84 : Cal Tryz.prog 84 c84 := cal_mk (or := or0) Tryz.func84 (by kernel_rfl) (by kernel_rfl) mixed (EnvOk.nil |>.a k40 : EnvOk _ EL84) (LoOk.nil (by kernel_rfl)) (fun _ fin x => spec_grAtK fin x.1 x.2.1 x.2.2.1 x.2.2.2) (fun _ =>
 rfl) (fun x => by kernel_rfl) fun x _ _ => by unfold spec_grAtK; repeat' (first | constructor | intro _)
def EL85 : Nat → Option Callee := env0
abbrev d85a := Q28 × (U)
def s85a : LS := ⟨[(0, oL), (1, oI), (5, oI)], [], []⟩
def x85a : List (XS d85a) := [⟨.exit 0, ⟨[0, 1, 5], [], [], []⟩, ⟨[(0, oL), (1, oI), (5, oI)], [], []⟩, Int, fun i y => ((i.1.1, i.1.2.1, y, ()), ())⟩]
def spec_l1Put_l0K {R : Type} (a0 : LI) (a1 : Int) (rc : Int → Option R) (fin : Int → Option R) (a2 : Int) : Option R := cond (decide (a2 < (a0.length : Int))) ((lat a0 a2).bind fun e1 => cond (decide (e1 < a1)) (rc (i64.wrap (a2 + 1)))
 (fin a2)) (fin a2)
def spec_l1Put_l0 (a0 : LI) (a1 : Int) (a2 : Int) : Option (Int) := lim (fun r (x : Int) => spec_l1Put_l0K a0 a1 (fun a2 => r a2) some x) a2
theorem spec_l1Put_l0_eq (a0 : LI) (a1 : Int) (a2 : Int) : spec_l1Put_l0 a0 a1 a2 = spec_l1Put_l0K a0 a1 (spec_l1Put_l0 a0 a1) some a2 := lim_eqI (fun x => by unfold spec_l1Put_l0K; repeat' (first | constructor | intro _)) _
def L85a : Loop := mkM ⟨[0, 1, 5], [], [], []⟩ s85a x85a fun (x : d85a) => spec_l1Put_l0 x.1.1 x.1.2.1 x.1.2.2.1
def spec_l1PutK {R : Type} (fin : LI → Option R) (x0 : LI) (x1 : Int) : Option R := (spec_l1Put_l0 x0 x1 0).bind fun y2 => cond (decide (y2 < (x0.length : Int))) ((lat x0 y2).bind fun e3 => cond (e3 == x1) (fin x0) (cond (decide ((0 : Int)
 ≤ y2) && decide (y2 ≤ (x0.length : Int))) (cond (decide (([] : LI).length + ((x0.drop 0).take (y2.toNat - 0)).length ≤ 1099511627776)) (cond (decide ((([] : LI) ++ ((x0.drop 0).take (y2.toNat - 0))).length + [x1].length ≤ 1099511627776))
 ((some ((([] : LI) ++ ((x0.drop 0).take (y2.toNat - 0))) ++ [x1])).bind fun v4 => cond (decide ((0 : Int) ≤ y2) && (decide (y2 ≤ (x0.length : Int)) && decide ((x0.length : Int) ≤ (x0.length : Int)))) (cond (decide (v4.length + ((x0.drop
 y2.toNat).take ((x0.length : Int).toNat - y2.toNat)).length ≤ 1099511627776)) ((some (v4 ++ ((x0.drop y2.toNat).take ((x0.length : Int).toNat - y2.toNat)))).bind fun v5 => fin v5) none) none) none) none) none)) (cond (decide ((0 : Int) ≤
 y2) && decide (y2 ≤ (x0.length : Int))) (cond (decide (([] : LI).length + ((x0.drop 0).take (y2.toNat - 0)).length ≤ 1099511627776)) (cond (decide ((([] : LI) ++ ((x0.drop 0).take (y2.toNat - 0))).length + [x1].length ≤ 1099511627776))
 ((some ((([] : LI) ++ ((x0.drop 0).take (y2.toNat - 0))) ++ [x1])).bind fun v6 => cond (decide ((0 : Int) ≤ y2) && (decide (y2 ≤ (x0.length : Int)) && decide ((x0.length : Int) ≤ (x0.length : Int)))) (cond (decide (v6.length + ((x0.drop
 y2.toNat).take ((x0.length : Int).toNat - y2.toNat)).length ≤ 1099511627776)) ((some (v6 ++ ((x0.drop y2.toNat).take ((x0.length : Int).toNat - y2.toNat)))).bind fun v7 => fin v7) none) none) none) none) none)
def spec_l1Put (x0 : LI) (x1 : Int) : Option (LI) := spec_l1PutK some x0 x1
def or85 : Ora := { lo := addL 2 L85a lo0, fin := [.frz (.slot 4)] }
theorem o85a : LOk EL85 or85 Tryz.f85 0 L85a := loop_rnd (fun (x : d85a) => x.1.2.2.1) (fun (i : d85a) v => ((i.1.1, i.1.2.1, v, ()), ())) (fun (i : d85a) _ rc fin v => spec_l1Put_l0K i.1.1 i.1.2.1 (fun a2 => rc a2) fin v) (fun _ => rfl)
 (fun _ => rfl) (fun i k v => by kernel_rfl) fun i _ rc _ _ hr v => by unfold spec_l1Put_l0K; repeat' (first | exact .of (hr _) | constructor | intro _)
def c85 : Callee := mkC [rL, rI] 1 [rL] fun x => spec_l1Put x.1 x.2
set_option maxHeartbeats 4000000 in
theorem k85 : Cal Tryz.prog 85 c85 := cal_mk (or := or85) Tryz.func85 (by kernel_rfl) (by kernel_rfl) mixed (EnvOk.nil : EnvOk _ EL85) (LoOk.mk (by kernel_rfl) (all1 ⟨_, by kernel_rfl, o85a⟩)) (fun _ fin x => spec_l1PutK fin x.1 x.2) (fun
 _ => rfl) (fun x => by kernel_rfl) fun x _ _ => by unfold spec_l1PutK; repeat' (first | constructor | intro _)
def EL43 : Nat → Option Callee := addE 85 c85 (addE 84 c84 (addE 83 c83 (addE 82 c82 (addE 81 c81 (addE 71 c71 env0)))))
abbrev d43b := (U × U × U × Int × Int × Int × Int × LI × (List DGrid) × Int × Int × U) × (Q27 × (LI × (List (List DGrid)) × U) × LL × U)
def s43b : LS := ⟨[(2, oP 0 0), (3, oP 1 0), (5, oS 2), (6, oI), (7, oI), (8, oI), (9, oI), (10, oL), (42, .one (.dat (.slice TGrid))), (43, oI), (44, oI)], [.box [dI, dI, dI], .box [dL, .dat (.slice (.slice TGrid))], .sl (.slice (.int
 .i64))], []⟩
def x43b : List (XS d43b) := [⟨.exit 2, ⟨[2, 3, 5, 6, 10], [.slot 2, .slot 3, .slot 5], [], []⟩, ⟨[(2, oP 0 0), (3, oP 1 0), (5, oS 2), (6, oI), (10, oL)], [.box [dI, dI, dI], .box [dL, .dat (.slice (.slice TGrid))], .sl (.slice (.int
 .i64))], []⟩, LI, fun i y => (((), (), (), i.1.2.2.2.1, y, ()), (i.2.1.1, i.2.1.2.1, i.2.1.2.2.1, ()), (i.2.2.1.1, i.2.2.1.2.1, ()), i.2.2.2.1, ())⟩]
def spec_slArcs_l1K {R : Type} (a1 a2 a3 : Int) (a5 : List DGrid) (a6 a8 a9 a10 : Int) (rc : LI → Int → Option R) (fin : LI → Option R) (a4 : LI) (a7 : Int) : Option R := cond (decide (a7 < a6)) ((lat a5 a7).bind fun e1 => (spec_grAt (a8,
 a9, a10, ()) (i64.wrap (a1 + e1.1)) (i64.wrap (a2 + e1.2.1)) (i64.wrap (a3 - e1.2.2.1))).bind fun y2 => cond (decide (y2 ≥ 0)) ((spec_l1Put a4 y2).bind fun y3 => rc y3 (i64.wrap (a7 + 1))) (rc a4 (i64.wrap (a7 + 1)))) (fin a4)
def spec_slArcs_l1 (a1 a2 a3 : Int) (a5 : List DGrid) (a6 a8 a9 a10 : Int) (a4 : LI) (a7 : Int) : Option (LI) := lim (fun r (x : LI × Int) => spec_slArcs_l1K a1 a2 a3 a5 a6 a8 a9 a10 (fun a4 a7 => r (a4, a7)) some x.1 x.2) (a4, a7)
theorem spec_slArcs_l1_eq (a1 a2 a3 : Int) (a5 : List DGrid) (a6 a8 a9 a10 : Int) (a4 : LI) (a7 : Int) : spec_slArcs_l1 a1 a2 a3 a5 a6 a8 a9 a10 a4 a7 = spec_slArcs_l1K a1 a2 a3 a5 a6 a8 a9 a10 (spec_slArcs_l1 a1 a2 a3 a5 a6 a8 a9 a10)
 some a4 a7 := lim_eqI (fun x => by unfold spec_slArcs_l1K; repeat' (first | constructor | intro _)) _
def L43b : Loop := mkM ⟨[2, 3, 5, 6, 7, 8, 9, 10, 42, 43, 44], [.slot 2, .slot 3, .slot 5], [], [.ro (.slot 10) (.int .i64)]⟩ s43b x43b fun (x : d43b) => spec_slArcs_l1 x.1.2.2.2.2.1 x.1.2.2.2.2.2.1 x.1.2.2.2.2.2.2.1 x.1.2.2.2.2.2.2.2.2.1
 x.1.2.2.2.2.2.2.2.2.2.1 x.2.1.1 x.2.1.2.1 x.2.1.2.2.1 x.1.2.2.2.2.2.2.2.1 x.1.2.2.2.2.2.2.2.2.2.2.1
abbrev d43a := Q26 × (Q27 × (LI × (List (List DGrid)) × U) × LL × U)
def s43a : LS := ⟨[(2, oP 0 0), (3, oP 1 0), (5, oS 2), (6, oI)], [.box [dI, dI, dI], .box [dL, .dat (.slice (.slice TGrid))], .sl (.slice (.int .i64))], []⟩
def x43a : List (XS d43a) := [⟨.exit 0, ⟨[5], [.slot 5], [], []⟩, ⟨[(5, oS 0)], [.sl (.slice (.int .i64))], []⟩, LL, fun i y => (((), ()), y, ())⟩]
def spec_slArcs_l0K {R : Type} (a1 a2 a3 : Int) (a4 : LI) (a5 : List (List DGrid)) (rc : Int → LL → Option R) (fin : LL → Option R) (a0 : Int) (a6 : LL) : Option R := (spec_grCount (a1, a2, a3, ())).bind fun y1 => cond (decide (a0 < y1))
 ((spec_grX (a1, a2, a3, ()) a0).bind fun y2 => (spec_grY (a1, a2, a3, ()) a0).bind fun y3 => (spec_grZ (a1, a2, a3, ()) a0).bind fun y4 => (lat a4 (i64.wrap ((i64.wrap (y3 * a1)) + y2))).bind fun e5 => (lat a5 e5).bind fun e6 =>
 (spec_slArcs_l1 y2 y3 y4 e6 (e6.length : Int) a1 a2 a3 [] 0).bind fun y13 => cond (decide (a6.length + [y13].length ≤ 1099511627776)) (rc (i64.wrap (a0 + 1)) (a6 ++ [y13])) none) (fin a6)
def spec_slArcs_l0 (a1 a2 a3 : Int) (a4 : LI) (a5 : List (List DGrid)) (a0 : Int) (a6 : LL) : Option (LL) := lim (fun r (x : Q35) => spec_slArcs_l0K a1 a2 a3 a4 a5 (fun a0 a6 => r (a0, a6)) some x.1 x.2) (a0, a6)
theorem spec_slArcs_l0_eq (a1 a2 a3 : Int) (a4 : LI) (a5 : List (List DGrid)) (a0 : Int) (a6 : LL) : spec_slArcs_l0 a1 a2 a3 a4 a5 a0 a6 = spec_slArcs_l0K a1 a2 a3 a4 a5 (spec_slArcs_l0 a1 a2 a3 a4 a5) some a0 a6 := lim_eqI (fun x =>
 by unfold spec_slArcs_l0K; repeat' (first | constructor | intro _)) _
def L43a : Loop := mkM ⟨[2, 3, 5, 6], [.slot 2, .slot 3, .slot 5], [], [.own (.slot 5) (.slice (.int .i64))]⟩ s43a x43a fun (x : d43a) => spec_slArcs_l0 x.2.1.1 x.2.1.2.1 x.2.1.2.2.1 x.2.2.1.1 x.2.2.1.2.1 x.1.2.2.2.1 x.2.2.2.1
def spec_slArcsK {R : Type} (fin : LL → Option R) (x0 : DGrid) (x1 : DSlopes) : Option R := (spec_slArcs_l0 x0.1 x0.2.1 x0.2.2.1 x1.1 x1.2.1 0 []).bind fun y27 => fin y27
def spec_slArcs (x0 : DGrid) (x1 : DSlopes) : Option (LL) := spec_slArcsK some x0 x1
def or43 : Ora := { lo := addL 3 L43a (addL 8 L43b lo0), fin := [] }
theorem o43b : LOk EL43 or43 Tryz.f43 1 L43b := loop_rnd (fun (x : d43b) => (x.1.2.2.2.2.2.2.2.1, x.1.2.2.2.2.2.2.2.2.2.2.1)) (fun (i : d43b) v => (((), (), (), i.1.2.2.2.1, i.1.2.2.2.2.1, i.1.2.2.2.2.2.1, i.1.2.2.2.2.2.2.1, v.1,
 i.1.2.2.2.2.2.2.2.2.1, i.1.2.2.2.2.2.2.2.2.2.1, v.2, ()), (i.2.1.1, i.2.1.2.1, i.2.1.2.2.1, ()), (i.2.2.1.1, i.2.2.1.2.1, ()), i.2.2.2.1, ())) (fun (i : d43b) _ rc fin v => spec_slArcs_l1K i.1.2.2.2.2.1 i.1.2.2.2.2.2.1 i.1.2.2.2.2.2.2.1
 i.1.2.2.2.2.2.2.2.2.1 i.1.2.2.2.2.2.2.2.2.2.1 i.2.1.1 i.2.1.2.1 i.2.1.2.2.1 (fun a4 a7 => rc (a4, a7)) fin v.1 v.2) (fun _ => rfl) (fun _ => rfl) (fun i k v => by kernel_rfl) fun i _ rc _ _ hr v =>
 by unfold spec_slArcs_l1K; repeat' (first | exact .of (hr _) | constructor | intro _)
theorem o43a : LOk EL43 or43 Tryz.f43 0 L43a := loop_rnd (fun (x : d43a) => (x.1.2.2.2.1, x.2.2.2.1)) (fun (i : d43a) v => (((), (), (), v.1, ()), (i.2.1.1, i.2.1.2.1, i.2.1.2.2.1, ()), (i.2.2.1.1, i.2.2.1.2.1, ()), v.2, ())) (fun (i :
 d43a) _ rc fin v => spec_slArcs_l0K i.2.1.1 i.2.1.2.1 i.2.1.2.2.1 i.2.2.1.1 i.2.2.1.2.1 (fun a0 a6 => rc (a0, a6)) fin v.1 v.2) (fun _ => rfl) (fun _ => rfl) (fun i k v => by kernel_rfl) fun i _ rc _ _ hr v =>
 by unfold spec_slArcs_l0K; repeat' (first | exact .of (hr _) | constructor | intro _)
def c43 : Callee := mkC [.agg [.ro TGrid], .agg [.ro TSlopes]] 1 [.one (.sl (.slice (.int .i64)))] fun x => spec_slArcs x.1 x.2
theorem k43 : Cal Tryz.prog 43 c43 := cal_mk (or := or43) Tryz.func43 (by kernel_rfl) (by kernel_rfl) mixed (EnvOk.nil |>.a k71 |>.a k81 |>.a k82 |>.a k83 |>.a k84 |>.a k85 : EnvOk _ EL43) (LoOk.mk (by kernel_rfl) (all2 ⟨_, by kernel_rfl,
 o43a⟩ ⟨_, by kernel_rfl, o43b⟩)) (fun _ fin x => spec_slArcsK fin x.1 x.2) (fun _ => rfl) (fun x => by kernel_rfl) fun x _ _ => by unfold spec_slArcsK; repeat' (first | constructor | intro _)
def EL13 : Nat → Option Callee := addE 43 c43 (addE 42 c42 env0)
def spec_ArcsOfK {R : Type} (fin : LL × Bool → Option R) (x0 : DGrid) (x1 : DSlopes) : Option R := (spec_slBoth x0 x1).bind fun y1 => cond (!y1) (fin ([], false)) ((spec_slArcs x0 x1).bind fun y2 => fin (y2, true))
def spec_ArcsOf (x0 : DGrid) (x1 : DSlopes) : Option (LL × Bool) := spec_ArcsOfK some x0 x1
def or13 : Ora := { lo := lo0, fin := [.own (.slot 4) (.slice (.int .i64))] }
def c13 : Callee := mkC [.agg [.ro TGrid], .agg [.ro TSlopes]] 2 [.one (.sl (.slice (.int .i64))), rB] fun x => spec_ArcsOf x.1 x.2
theorem k13 : Cal Tryz.prog 13 c13 := cal_mk (or := or13) Tryz.func13 (by kernel_rfl) (by kernel_rfl) mixed (EnvOk.nil |>.a k42 |>.a k43 : EnvOk _ EL13) (LoOk.nil (by kernel_rfl)) (fun _ fin x => spec_ArcsOfK fin x.1 x.2) (fun _ => rfl)
 (fun x => by kernel_rfl) fun x _ _ => by unfold spec_ArcsOfK; repeat' (first | constructor | intro _)
end
end Go.OAI
