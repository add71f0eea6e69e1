/- Contracts: GS. -/
import Derived.Test.YtejiaikhdjanoaaGreatGA
import Derived.Test.YtejiaikhdjanoaaGreatGD
namespace Go.OAI
open Go.Proofs
open Go.IntKind (i64 u64 u8)
set_option linter.unusedVariables false
noncomputable section
def EL74 : Nat → Option Callee := env0
def impl_absK {R : Type} (fin : Int → Option R) (x0 : Int) : Option R := fin (if (i64.wrap (0 - x0)) > x0 then i64.wrap (0 - x0) else x0)
def impl_abs (x0 : Int) : Option (Int) := impl_absK some x0
def c74 : Callee := mkC [rI] 1 [rI] fun x => impl_abs x
theorem k74 : Cal Tryz.prog 74 c74 := cal_mk (or := or0) Tryz.func74 (by kernel_rfl) (by kernel_rfl) mixed (EnvOk.nil : EnvOk _ EL74) (LoOk.nil (by kernel_rfl)) (fun _ fin x => impl_absK fin x) (fun _ => rfl) (fun x => by kernel_rfl) fun x
 _ _ => by unfold impl_absK; repeat' (first | constructor | intro _)
def EL34 : Nat → Option Callee := addE 74 c74 env0
abbrev d34c := (Int × U × Int × Int × Int × U) × ((List DGrid) × U)
def s34c : LS := ⟨[(0, oI), (4, oS 0), (5, oI), (6, oI), (7, oI)], [.sl TGrid], []⟩
def x34c : List (XS d34c) := [⟨.exit 4, ⟨[0, 4, 5, 6], [.slot 4], [], []⟩, ⟨[(0, oI), (4, oS 0), (5, oI), (6, oI)], [.sl TGrid], []⟩, List DGrid, fun i y => ((i.1.1, (), i.1.2.2.1, i.1.2.2.2.1, ()), y, ())⟩]
def impl_TemplateOf_l2K {R : Type} (a0 a1 a2 : Int) (rc : Int → List DGrid → Option R) (fin : List DGrid → Option R) (a3 : Int) (a4 : List DGrid) : Option R := cond (decide (a3 ≤ 2)) ((impl_abs a3).bind fun y1 => (impl_abs a2).bind fun y2
 => (impl_abs a3).bind fun y3 => (impl_abs a2).bind fun y4 => cond (a0 == 1) (cond ((i64.wrap (y1 + y2)) == 0) (cond (a0 == 4) (cond ((if y4 > y3 then y4 else y3) == 2) (cond (a1 == 1) (cond (decide (a4.length + [(a3, a2, a1, ())].length ≤
 1099511627776)) ((some (a4 ++ [(a3, a2, a1, ())])).bind fun v5 => rc (i64.wrap (a3 + 1)) v5) none) (cond (a1 == 2) (cond ((i64.wrap (y1 + y2)) == 2) (cond (decide (a4.length + [(a3, a2, a1, ())].length ≤ 1099511627776)) ((some (a4 ++
 [(a3, a2, a1, ())])).bind fun v6 => rc (i64.wrap (a3 + 1)) v6) none) (rc (i64.wrap (a3 + 1)) a4)) (rc (i64.wrap (a3 + 1)) a4))) (cond (a1 == 1) (cond (decide (a4.length + [(a3, a2, a1, ())].length ≤ 1099511627776)) ((some (a4 ++ [(a3, a2,
 a1, ())])).bind fun v7 => rc (i64.wrap (a3 + 1)) v7) none) (cond (a1 == 2) (rc (i64.wrap (a3 + 1)) a4) (rc (i64.wrap (a3 + 1)) a4)))) (cond (a1 == 1) (cond (decide (a4.length + [(a3, a2, a1, ())].length ≤ 1099511627776)) ((some (a4 ++
 [(a3, a2, a1, ())])).bind fun v8 => rc (i64.wrap (a3 + 1)) v8) none) (cond (a1 == 2) (rc (i64.wrap (a3 + 1)) a4) (rc (i64.wrap (a3 + 1)) a4)))) (cond (a0 == 2) (cond (decide ((i64.wrap (y1 + y2)) ≤ 1)) (cond (a0 == 4) (cond ((if y4 > y3
 then y4 else y3) == 2) (cond (a1 == 1) (cond (decide (a4.length + [(a3, a2, a1, ())].length ≤ 1099511627776)) ((some (a4 ++ [(a3, a2, a1, ())])).bind fun v9 => rc (i64.wrap (a3 + 1)) v9) none) (cond (a1 == 2) (cond ((i64.wrap (y1 + y2))
 == 2) (cond (decide (a4.length + [(a3, a2, a1, ())].length ≤ 1099511627776)) ((some (a4 ++ [(a3, a2, a1, ())])).bind fun v10 => rc (i64.wrap (a3 + 1)) v10) none) (rc (i64.wrap (a3 + 1)) a4)) (rc (i64.wrap (a3 + 1)) a4))) (cond (a1 == 1)
 (cond (decide (a4.length + [(a3, a2, a1, ())].length ≤ 1099511627776)) ((some (a4 ++ [(a3, a2, a1, ())])).bind fun v11 => rc (i64.wrap (a3 + 1)) v11) none) (cond (a1 == 2) (rc (i64.wrap (a3 + 1)) a4) (rc (i64.wrap (a3 + 1)) a4)))) (cond
 (a1 == 1) (cond (decide (a4.length + [(a3, a2, a1, ())].length ≤ 1099511627776)) ((some (a4 ++ [(a3, a2, a1, ())])).bind fun v12 => rc (i64.wrap (a3 + 1)) v12) none) (cond (a1 == 2) (rc (i64.wrap (a3 + 1)) a4) (rc (i64.wrap (a3 + 1))
 a4)))) (cond (a0 == 3) (cond (a0 == 4) (cond ((if y4 > y3 then y4 else y3) == 2) (cond (a1 == 1) (cond (decide ((if y4 > y3 then y4 else y3) ≤ 1)) (cond (decide (a4.length + [(a3, a2, a1, ())].length ≤ 1099511627776)) ((some (a4 ++ [(a3,
 a2, a1, ())])).bind fun v13 => rc (i64.wrap (a3 + 1)) v13) none) (cond (a1 == 2) (cond ((i64.wrap (y1 + y2)) == 2) (cond (decide (a4.length + [(a3, a2, a1, ())].length ≤ 1099511627776)) ((some (a4 ++ [(a3, a2, a1, ())])).bind fun v14 =>
 rc (i64.wrap (a3 + 1)) v14) none) (rc (i64.wrap (a3 + 1)) a4)) (rc (i64.wrap (a3 + 1)) a4))) (cond (a1 == 2) (cond ((i64.wrap (y1 + y2)) == 2) (cond (decide (a4.length + [(a3, a2, a1, ())].length ≤ 1099511627776)) ((some (a4 ++ [(a3, a2,
 a1, ())])).bind fun v15 => rc (i64.wrap (a3 + 1)) v15) none) (rc (i64.wrap (a3 + 1)) a4)) (rc (i64.wrap (a3 + 1)) a4))) (cond (a1 == 1) (cond (decide ((if y4 > y3 then y4 else y3) ≤ 1)) (cond (decide (a4.length + [(a3, a2, a1, ())].length
 ≤ 1099511627776)) ((some (a4 ++ [(a3, a2, a1, ())])).bind fun v16 => rc (i64.wrap (a3 + 1)) v16) none) (cond (a1 == 2) (rc (i64.wrap (a3 + 1)) a4) (rc (i64.wrap (a3 + 1)) a4))) (cond (a1 == 2) (rc (i64.wrap (a3 + 1)) a4) (rc (i64.wrap (a3
 + 1)) a4)))) (cond (a1 == 1) (cond (decide ((if y4 > y3 then y4 else y3) ≤ 1)) (cond (decide (a4.length + [(a3, a2, a1, ())].length ≤ 1099511627776)) ((some (a4 ++ [(a3, a2, a1, ())])).bind fun v17 => rc (i64.wrap (a3 + 1)) v17) none)
 (cond (a1 == 2) (rc (i64.wrap (a3 + 1)) a4) (rc (i64.wrap (a3 + 1)) a4))) (cond (a1 == 2) (rc (i64.wrap (a3 + 1)) a4) (rc (i64.wrap (a3 + 1)) a4)))) (cond (a0 == 4) (cond ((if y4 > y3 then y4 else y3) == 2) (cond (a1 == 1) (cond (a1 == 2)
 (cond ((i64.wrap (y1 + y2)) == 2) (cond (decide (a4.length + [(a3, a2, a1, ())].length ≤ 1099511627776)) ((some (a4 ++ [(a3, a2, a1, ())])).bind fun v18 => rc (i64.wrap (a3 + 1)) v18) none) (rc (i64.wrap (a3 + 1)) a4)) (rc (i64.wrap (a3 +
 1)) a4)) (cond (a1 == 2) (cond ((i64.wrap (y1 + y2)) == 2) (cond (decide (a4.length + [(a3, a2, a1, ())].length ≤ 1099511627776)) ((some (a4 ++ [(a3, a2, a1, ())])).bind fun v19 => rc (i64.wrap (a3 + 1)) v19) none) (rc (i64.wrap (a3 + 1))
 a4)) (rc (i64.wrap (a3 + 1)) a4))) (cond (a1 == 1) (cond (a1 == 2) (rc (i64.wrap (a3 + 1)) a4) (rc (i64.wrap (a3 + 1)) a4)) (cond (a1 == 2) (rc (i64.wrap (a3 + 1)) a4) (rc (i64.wrap (a3 + 1)) a4)))) (cond (a1 == 1) (cond (a1 == 2) (rc
 (i64.wrap (a3 + 1)) a4) (rc (i64.wrap (a3 + 1)) a4)) (cond (a1 == 2) (rc (i64.wrap (a3 + 1)) a4) (rc (i64.wrap (a3 + 1)) a4)))))) (cond (a0 == 4) (cond (decide ((i64.wrap (y1 + y2)) ≤ 1)) (cond (a0 == 4) (cond ((if y4 > y3 then y4 else
 y3) == 2) (cond (a1 == 1) (cond (decide (a4.length + [(a3, a2, a1, ())].length ≤ 1099511627776)) ((some (a4 ++ [(a3, a2, a1, ())])).bind fun v20 => rc (i64.wrap (a3 + 1)) v20) none) (cond (a1 == 2) (cond ((i64.wrap (y1 + y2)) == 2) (cond
 (decide (a4.length + [(a3, a2, a1, ())].length ≤ 1099511627776)) ((some (a4 ++ [(a3, a2, a1, ())])).bind fun v21 => rc (i64.wrap (a3 + 1)) v21) none) (rc (i64.wrap (a3 + 1)) a4)) (rc (i64.wrap (a3 + 1)) a4))) (cond (a1 == 1) (cond (decide
 (a4.length + [(a3, a2, a1, ())].length ≤ 1099511627776)) ((some (a4 ++ [(a3, a2, a1, ())])).bind fun v22 => rc (i64.wrap (a3 + 1)) v22) none) (cond (a1 == 2) (rc (i64.wrap (a3 + 1)) a4) (rc (i64.wrap (a3 + 1)) a4)))) (cond (a1 == 1) (cond
 (decide (a4.length + [(a3, a2, a1, ())].length ≤ 1099511627776)) ((some (a4 ++ [(a3, a2, a1, ())])).bind fun v23 => rc (i64.wrap (a3 + 1)) v23) none) (cond (a1 == 2) (rc (i64.wrap (a3 + 1)) a4) (rc (i64.wrap (a3 + 1)) a4)))) (cond (a0 ==
 3) (cond (a0 == 4) (cond ((if y4 > y3 then y4 else y3) == 2) (cond (a1 == 1) (cond (decide ((if y4 > y3 then y4 else y3) ≤ 1)) (cond (decide (a4.length + [(a3, a2, a1, ())].length ≤ 1099511627776)) ((some (a4 ++ [(a3, a2, a1, ())])).bind
 fun v24 => rc (i64.wrap (a3 + 1)) v24) none) (cond (a1 == 2) (cond ((i64.wrap (y1 + y2)) == 2) (cond (decide (a4.length + [(a3, a2, a1, ())].length ≤ 1099511627776)) ((some (a4 ++ [(a3, a2, a1, ())])).bind fun v25 => rc (i64.wrap (a3 +
 1)) v25) none) (rc (i64.wrap (a3 + 1)) a4)) (rc (i64.wrap (a3 + 1)) a4))) (cond (a1 == 2) (cond ((i64.wrap (y1 + y2)) == 2) (cond (decide (a4.length + [(a3, a2, a1, ())].length ≤ 1099511627776)) ((some (a4 ++ [(a3, a2, a1, ())])).bind fun
 v26 => rc (i64.wrap (a3 + 1)) v26) none) (rc (i64.wrap (a3 + 1)) a4)) (rc (i64.wrap (a3 + 1)) a4))) (cond (a1 == 1) (cond (decide ((if y4 > y3 then y4 else y3) ≤ 1)) (cond (decide (a4.length + [(a3, a2, a1, ())].length ≤ 1099511627776))
 ((some (a4 ++ [(a3, a2, a1, ())])).bind fun v27 => rc (i64.wrap (a3 + 1)) v27) none) (cond (a1 == 2) (rc (i64.wrap (a3 + 1)) a4) (rc (i64.wrap (a3 + 1)) a4))) (cond (a1 == 2) (rc (i64.wrap (a3 + 1)) a4) (rc (i64.wrap (a3 + 1)) a4))))
 (cond (a1 == 1) (cond (decide ((if y4 > y3 then y4 else y3) ≤ 1)) (cond (decide (a4.length + [(a3, a2, a1, ())].length ≤ 1099511627776)) ((some (a4 ++ [(a3, a2, a1, ())])).bind fun v28 => rc (i64.wrap (a3 + 1)) v28) none) (cond (a1 == 2)
 (rc (i64.wrap (a3 + 1)) a4) (rc (i64.wrap (a3 + 1)) a4))) (cond (a1 == 2) (rc (i64.wrap (a3 + 1)) a4) (rc (i64.wrap (a3 + 1)) a4)))) (cond (a0 == 4) (cond ((if y4 > y3 then y4 else y3) == 2) (cond (a1 == 1) (cond (a1 == 2) (cond
 ((i64.wrap (y1 + y2)) == 2) (cond (decide (a4.length + [(a3, a2, a1, ())].length ≤ 1099511627776)) ((some (a4 ++ [(a3, a2, a1, ())])).bind fun v29 => rc (i64.wrap (a3 + 1)) v29) none) (rc (i64.wrap (a3 + 1)) a4)) (rc (i64.wrap (a3 + 1))
 a4)) (cond (a1 == 2) (cond ((i64.wrap (y1 + y2)) == 2) (cond (decide (a4.length + [(a3, a2, a1, ())].length ≤ 1099511627776)) ((some (a4 ++ [(a3, a2, a1, ())])).bind fun v30 => rc (i64.wrap (a3 + 1)) v30) none) (rc (i64.wrap (a3 + 1))
 a4)) (rc (i64.wrap (a3 + 1)) a4))) (cond (a1 == 1) (cond (a1 == 2) (rc (i64.wrap (a3 + 1)) a4) (rc (i64.wrap (a3 + 1)) a4)) (cond (a1 == 2) (rc (i64.wrap (a3 + 1)) a4) (rc (i64.wrap (a3 + 1)) a4)))) (cond (a1 == 1) (cond (a1 == 2) (rc
 (i64.wrap (a3 + 1)) a4) (rc (i64.wrap (a3 + 1)) a4)) (cond (a1 == 2) (rc (i64.wrap (a3 + 1)) a4) (rc (i64.wrap (a3 + 1)) a4)))))) (cond (a0 == 3) (cond (a0 == 4) (cond ((if y4 > y3 then y4 else y3) == 2) (cond (a1 == 1) (cond (decide ((if
 y4 > y3 then y4 else y3) ≤ 1)) (cond (decide (a4.length + [(a3, a2, a1, ())].length ≤ 1099511627776)) ((some (a4 ++ [(a3, a2, a1, ())])).bind fun v31 => rc (i64.wrap (a3 + 1)) v31) none) (cond (a1 == 2) (cond ((i64.wrap (y1 + y2)) == 2)
 (cond (decide (a4.length + [(a3, a2, a1, ())].length ≤ 1099511627776)) ((some (a4 ++ [(a3, a2, a1, ())])).bind fun v32 => rc (i64.wrap (a3 + 1)) v32) none) (rc (i64.wrap (a3 + 1)) a4)) (rc (i64.wrap (a3 + 1)) a4))) (cond (a1 == 2) (cond
 ((i64.wrap (y1 + y2)) == 2) (cond (decide (a4.length + [(a3, a2, a1, ())].length ≤ 1099511627776)) ((some (a4 ++ [(a3, a2, a1, ())])).bind fun v33 => rc (i64.wrap (a3 + 1)) v33) none) (rc (i64.wrap (a3 + 1)) a4)) (rc (i64.wrap (a3 + 1))
 a4))) (cond (a1 == 1) (cond (decide ((if y4 > y3 then y4 else y3) ≤ 1)) (cond (decide (a4.length + [(a3, a2, a1, ())].length ≤ 1099511627776)) ((some (a4 ++ [(a3, a2, a1, ())])).bind fun v34 => rc (i64.wrap (a3 + 1)) v34) none) (cond (a1
 == 2) (rc (i64.wrap (a3 + 1)) a4) (rc (i64.wrap (a3 + 1)) a4))) (cond (a1 == 2) (rc (i64.wrap (a3 + 1)) a4) (rc (i64.wrap (a3 + 1)) a4)))) (cond (a1 == 1) (cond (decide ((if y4 > y3 then y4 else y3) ≤ 1)) (cond (decide (a4.length + [(a3,
 a2, a1, ())].length ≤ 1099511627776)) ((some (a4 ++ [(a3, a2, a1, ())])).bind fun v35 => rc (i64.wrap (a3 + 1)) v35) none) (cond (a1 == 2) (rc (i64.wrap (a3 + 1)) a4) (rc (i64.wrap (a3 + 1)) a4))) (cond (a1 == 2) (rc (i64.wrap (a3 + 1))
 a4) (rc (i64.wrap (a3 + 1)) a4)))) (cond (a0 == 4) (cond ((if y4 > y3 then y4 else y3) == 2) (cond (a1 == 1) (cond (a1 == 2) (cond ((i64.wrap (y1 + y2)) == 2) (cond (decide (a4.length + [(a3, a2, a1, ())].length ≤ 1099511627776)) ((some
 (a4 ++ [(a3, a2, a1, ())])).bind fun v36 => rc (i64.wrap (a3 + 1)) v36) none) (rc (i64.wrap (a3 + 1)) a4)) (rc (i64.wrap (a3 + 1)) a4)) (cond (a1 == 2) (cond ((i64.wrap (y1 + y2)) == 2) (cond (decide (a4.length + [(a3, a2, a1, ())].length
 ≤ 1099511627776)) ((some (a4 ++ [(a3, a2, a1, ())])).bind fun v37 => rc (i64.wrap (a3 + 1)) v37) none) (rc (i64.wrap (a3 + 1)) a4)) (rc (i64.wrap (a3 + 1)) a4))) (cond (a1 == 1) (cond (a1 == 2) (rc (i64.wrap (a3 + 1)) a4) (rc (i64.wrap
 (a3 + 1)) a4)) (cond (a1 == 2) (rc (i64.wrap (a3 + 1)) a4) (rc (i64.wrap (a3 + 1)) a4)))) (cond (a1 == 1) (cond (a1 == 2) (rc (i64.wrap (a3 + 1)) a4) (rc (i64.wrap (a3 + 1)) a4)) (cond (a1 == 2) (rc (i64.wrap (a3 + 1)) a4) (rc (i64.wrap
 (a3 + 1)) a4)))))))) (cond (a0 == 2) (cond (decide ((i64.wrap (y1 + y2)) ≤ 1)) (cond (a0 == 4) (cond ((if y4 > y3 then y4 else y3) == 2) (cond (a1 == 1) (cond (decide (a4.length + [(a3, a2, a1, ())].length ≤ 1099511627776)) ((some (a4 ++
 [(a3, a2, a1, ())])).bind fun v38 => rc (i64.wrap (a3 + 1)) v38) none) (cond (a1 == 2) (cond ((i64.wrap (y1 + y2)) == 2) (cond (decide (a4.length + [(a3, a2, a1, ())].length ≤ 1099511627776)) ((some (a4 ++ [(a3, a2, a1, ())])).bind fun
 v39 => rc (i64.wrap (a3 + 1)) v39) none) (rc (i64.wrap (a3 + 1)) a4)) (rc (i64.wrap (a3 + 1)) a4))) (cond (a1 == 1) (cond (decide (a4.length + [(a3, a2, a1, ())].length ≤ 1099511627776)) ((some (a4 ++ [(a3, a2, a1, ())])).bind fun v40 =>
 rc (i64.wrap (a3 + 1)) v40) none) (cond (a1 == 2) (rc (i64.wrap (a3 + 1)) a4) (rc (i64.wrap (a3 + 1)) a4)))) (cond (a1 == 1) (cond (decide (a4.length + [(a3, a2, a1, ())].length ≤ 1099511627776)) ((some (a4 ++ [(a3, a2, a1, ())])).bind
 fun v41 => rc (i64.wrap (a3 + 1)) v41) none) (cond (a1 == 2) (rc (i64.wrap (a3 + 1)) a4) (rc (i64.wrap (a3 + 1)) a4)))) (cond (a0 == 3) (cond (a0 == 4) (cond ((if y4 > y3 then y4 else y3) == 2) (cond (a1 == 1) (cond (decide ((if y4 > y3
 then y4 else y3) ≤ 1)) (cond (decide (a4.length + [(a3, a2, a1, ())].length ≤ 1099511627776)) ((some (a4 ++ [(a3, a2, a1, ())])).bind fun v42 => rc (i64.wrap (a3 + 1)) v42) none) (cond (a1 == 2) (cond ((i64.wrap (y1 + y2)) == 2) (cond
 (decide (a4.length + [(a3, a2, a1, ())].length ≤ 1099511627776)) ((some (a4 ++ [(a3, a2, a1, ())])).bind fun v43 => rc (i64.wrap (a3 + 1)) v43) none) (rc (i64.wrap (a3 + 1)) a4)) (rc (i64.wrap (a3 + 1)) a4))) (cond (a1 == 2) (cond
 ((i64.wrap (y1 + y2)) == 2) (cond (decide (a4.length + [(a3, a2, a1, ())].length ≤ 1099511627776)) ((some (a4 ++ [(a3, a2, a1, ())])).bind fun v44 => rc (i64.wrap (a3 + 1)) v44) none) (rc (i64.wrap (a3 + 1)) a4)) (rc (i64.wrap (a3 + 1))
 a4))) (cond (a1 == 1) (cond (decide ((if y4 > y3 then y4 else y3) ≤ 1)) (cond (decide (a4.length + [(a3, a2, a1, ())].length ≤ 1099511627776)) ((some (a4 ++ [(a3, a2, a1, ())])).bind fun v45 => rc (i64.wrap (a3 + 1)) v45) none) (cond (a1
 == 2) (rc (i64.wrap (a3 + 1)) a4) (rc (i64.wrap (a3 + 1)) a4))) (cond (a1 == 2) (rc (i64.wrap (a3 + 1)) a4) (rc (i64.wrap (a3 + 1)) a4)))) (cond (a1 == 1) (cond (decide ((if y4 > y3 then y4 else y3) ≤ 1)) (cond (decide (a4.length + [(a3,
 a2, a1, ())].length ≤ 1099511627776)) ((some (a4 ++ [(a3, a2, a1, ())])).bind fun v46 => rc (i64.wrap (a3 + 1)) v46) none) (cond (a1 == 2) (rc (i64.wrap (a3 + 1)) a4) (rc (i64.wrap (a3 + 1)) a4))) (cond (a1 == 2) (rc (i64.wrap (a3 + 1))
 a4) (rc (i64.wrap (a3 + 1)) a4)))) (cond (a0 == 4) (cond ((if y4 > y3 then y4 else y3) == 2) (cond (a1 == 1) (cond (a1 == 2) (cond ((i64.wrap (y1 + y2)) == 2) (cond (decide (a4.length + [(a3, a2, a1, ())].length ≤ 1099511627776)) ((some
 (a4 ++ [(a3, a2, a1, ())])).bind fun v47 => rc (i64.wrap (a3 + 1)) v47) none) (rc (i64.wrap (a3 + 1)) a4)) (rc (i64.wrap (a3 + 1)) a4)) (cond (a1 == 2) (cond ((i64.wrap (y1 + y2)) == 2) (cond (decide (a4.length + [(a3, a2, a1, ())].length
 ≤ 1099511627776)) ((some (a4 ++ [(a3, a2, a1, ())])).bind fun v48 => rc (i64.wrap (a3 + 1)) v48) none) (rc (i64.wrap (a3 + 1)) a4)) (rc (i64.wrap (a3 + 1)) a4))) (cond (a1 == 1) (cond (a1 == 2) (rc (i64.wrap (a3 + 1)) a4) (rc (i64.wrap
 (a3 + 1)) a4)) (cond (a1 == 2) (rc (i64.wrap (a3 + 1)) a4) (rc (i64.wrap (a3 + 1)) a4)))) (cond (a1 == 1) (cond (a1 == 2) (rc (i64.wrap (a3 + 1)) a4) (rc (i64.wrap (a3 + 1)) a4)) (cond (a1 == 2) (rc (i64.wrap (a3 + 1)) a4) (rc (i64.wrap
 (a3 + 1)) a4)))))) (cond (a0 == 4) (cond (decide ((i64.wrap (y1 + y2)) ≤ 1)) (cond (a0 == 4) (cond ((if y4 > y3 then y4 else y3) == 2) (cond (a1 == 1) (cond (decide (a4.length + [(a3, a2, a1, ())].length ≤ 1099511627776)) ((some (a4 ++
 [(a3, a2, a1, ())])).bind fun v49 => rc (i64.wrap (a3 + 1)) v49) none) (cond (a1 == 2) (cond ((i64.wrap (y1 + y2)) == 2) (cond (decide (a4.length + [(a3, a2, a1, ())].length ≤ 1099511627776)) ((some (a4 ++ [(a3, a2, a1, ())])).bind fun
 v50 => rc (i64.wrap (a3 + 1)) v50) none) (rc (i64.wrap (a3 + 1)) a4)) (rc (i64.wrap (a3 + 1)) a4))) (cond (a1 == 1) (cond (decide (a4.length + [(a3, a2, a1, ())].length ≤ 1099511627776)) ((some (a4 ++ [(a3, a2, a1, ())])).bind fun v51 =>
 rc (i64.wrap (a3 + 1)) v51) none) (cond (a1 == 2) (rc (i64.wrap (a3 + 1)) a4) (rc (i64.wrap (a3 + 1)) a4)))) (cond (a1 == 1) (cond (decide (a4.length + [(a3, a2, a1, ())].length ≤ 1099511627776)) ((some (a4 ++ [(a3, a2, a1, ())])).bind
 fun v52 => rc (i64.wrap (a3 + 1)) v52) none) (cond (a1 == 2) (rc (i64.wrap (a3 + 1)) a4) (rc (i64.wrap (a3 + 1)) a4)))) (cond (a0 == 3) (cond (a0 == 4) (cond ((if y4 > y3 then y4 else y3) == 2) (cond (a1 == 1) (cond (decide ((if y4 > y3
 then y4 else y3) ≤ 1)) (cond (decide (a4.length + [(a3, a2, a1, ())].length ≤ 1099511627776)) ((some (a4 ++ [(a3, a2, a1, ())])).bind fun v53 => rc (i64.wrap (a3 + 1)) v53) none) (cond (a1 == 2) (cond ((i64.wrap (y1 + y2)) == 2) (cond
 (decide (a4.length + [(a3, a2, a1, ())].length ≤ 1099511627776)) ((some (a4 ++ [(a3, a2, a1, ())])).bind fun v54 => rc (i64.wrap (a3 + 1)) v54) none) (rc (i64.wrap (a3 + 1)) a4)) (rc (i64.wrap (a3 + 1)) a4))) (cond (a1 == 2) (cond
 ((i64.wrap (y1 + y2)) == 2) (cond (decide (a4.length + [(a3, a2, a1, ())].length ≤ 1099511627776)) ((some (a4 ++ [(a3, a2, a1, ())])).bind fun v55 => rc (i64.wrap (a3 + 1)) v55) none) (rc (i64.wrap (a3 + 1)) a4)) (rc (i64.wrap (a3 + 1))
 a4))) (cond (a1 == 1) (cond (decide ((if y4 > y3 then y4 else y3) ≤ 1)) (cond (decide (a4.length + [(a3, a2, a1, ())].length ≤ 1099511627776)) ((some (a4 ++ [(a3, a2, a1, ())])).bind fun v56 => rc (i64.wrap (a3 + 1)) v56) none) (cond (a1
 == 2) (rc (i64.wrap (a3 + 1)) a4) (rc (i64.wrap (a3 + 1)) a4))) (cond (a1 == 2) (rc (i64.wrap (a3 + 1)) a4) (rc (i64.wrap (a3 + 1)) a4)))) (cond (a1 == 1) (cond (decide ((if y4 > y3 then y4 else y3) ≤ 1)) (cond (decide (a4.length + [(a3,
 a2, a1, ())].length ≤ 1099511627776)) ((some (a4 ++ [(a3, a2, a1, ())])).bind fun v57 => rc (i64.wrap (a3 + 1)) v57) none) (cond (a1 == 2) (rc (i64.wrap (a3 + 1)) a4) (rc (i64.wrap (a3 + 1)) a4))) (cond (a1 == 2) (rc (i64.wrap (a3 + 1))
 a4) (rc (i64.wrap (a3 + 1)) a4)))) (cond (a0 == 4) (cond ((if y4 > y3 then y4 else y3) == 2) (cond (a1 == 1) (cond (a1 == 2) (cond ((i64.wrap (y1 + y2)) == 2) (cond (decide (a4.length + [(a3, a2, a1, ())].length ≤ 1099511627776)) ((some
 (a4 ++ [(a3, a2, a1, ())])).bind fun v58 => rc (i64.wrap (a3 + 1)) v58) none) (rc (i64.wrap (a3 + 1)) a4)) (rc (i64.wrap (a3 + 1)) a4)) (cond (a1 == 2) (cond ((i64.wrap (y1 + y2)) == 2) (cond (decide (a4.length + [(a3, a2, a1, ())].length
 ≤ 1099511627776)) ((some (a4 ++ [(a3, a2, a1, ())])).bind fun v59 => rc (i64.wrap (a3 + 1)) v59) none) (rc (i64.wrap (a3 + 1)) a4)) (rc (i64.wrap (a3 + 1)) a4))) (cond (a1 == 1) (cond (a1 == 2) (rc (i64.wrap (a3 + 1)) a4) (rc (i64.wrap
 (a3 + 1)) a4)) (cond (a1 == 2) (rc (i64.wrap (a3 + 1)) a4) (rc (i64.wrap (a3 + 1)) a4)))) (cond (a1 == 1) (cond (a1 == 2) (rc (i64.wrap (a3 + 1)) a4) (rc (i64.wrap (a3 + 1)) a4)) (cond (a1 == 2) (rc (i64.wrap (a3 + 1)) a4) (rc (i64.wrap
 (a3 + 1)) a4)))))) (cond (a0 == 3) (cond (a0 == 4) (cond ((if y4 > y3 then y4 else y3) == 2) (cond (a1 == 1) (cond (decide ((if y4 > y3 then y4 else y3) ≤ 1)) (cond (decide (a4.length + [(a3, a2, a1, ())].length ≤ 1099511627776)) ((some
 (a4 ++ [(a3, a2, a1, ())])).bind fun v60 => rc (i64.wrap (a3 + 1)) v60) none) (cond (a1 == 2) (cond ((i64.wrap (y1 + y2)) == 2) (cond (decide (a4.length + [(a3, a2, a1, ())].length ≤ 1099511627776)) ((some (a4 ++ [(a3, a2, a1, ())])).bind
 fun v61 => rc (i64.wrap (a3 + 1)) v61) none) (rc (i64.wrap (a3 + 1)) a4)) (rc (i64.wrap (a3 + 1)) a4))) (cond (a1 == 2) (cond ((i64.wrap (y1 + y2)) == 2) (cond (decide (a4.length + [(a3, a2, a1, ())].length ≤ 1099511627776)) ((some (a4 ++
 [(a3, a2, a1, ())])).bind fun v62 => rc (i64.wrap (a3 + 1)) v62) none) (rc (i64.wrap (a3 + 1)) a4)) (rc (i64.wrap (a3 + 1)) a4))) (cond (a1 == 1) (cond (decide ((if y4 > y3 then y4 else y3) ≤ 1)) (cond (decide (a4.length + [(a3, a2, a1,
 ())].length ≤ 1099511627776)) ((some (a4 ++ [(a3, a2, a1, ())])).bind fun v63 => rc (i64.wrap (a3 + 1)) v63) none) (cond (a1 == 2) (rc (i64.wrap (a3 + 1)) a4) (rc (i64.wrap (a3 + 1)) a4))) (cond (a1 == 2) (rc (i64.wrap (a3 + 1)) a4) (rc
 (i64.wrap (a3 + 1)) a4)))) (cond (a1 == 1) (cond (decide ((if y4 > y3 then y4 else y3) ≤ 1)) (cond (decide (a4.length + [(a3, a2, a1, ())].length ≤ 1099511627776)) ((some (a4 ++ [(a3, a2, a1, ())])).bind fun v64 => rc (i64.wrap (a3 + 1))
 v64) none) (cond (a1 == 2) (rc (i64.wrap (a3 + 1)) a4) (rc (i64.wrap (a3 + 1)) a4))) (cond (a1 == 2) (rc (i64.wrap (a3 + 1)) a4) (rc (i64.wrap (a3 + 1)) a4)))) (cond (a0 == 4) (cond ((if y4 > y3 then y4 else y3) == 2) (cond (a1 == 1)
 (cond (a1 == 2) (cond ((i64.wrap (y1 + y2)) == 2) (cond (decide (a4.length + [(a3, a2, a1, ())].length ≤ 1099511627776)) ((some (a4 ++ [(a3, a2, a1, ())])).bind fun v65 => rc (i64.wrap (a3 + 1)) v65) none) (rc (i64.wrap (a3 + 1)) a4)) (rc
 (i64.wrap (a3 + 1)) a4)) (cond (a1 == 2) (cond ((i64.wrap (y1 + y2)) == 2) (cond (decide (a4.length + [(a3, a2, a1, ())].length ≤ 1099511627776)) ((some (a4 ++ [(a3, a2, a1, ())])).bind fun v66 => rc (i64.wrap (a3 + 1)) v66) none) (rc
 (i64.wrap (a3 + 1)) a4)) (rc (i64.wrap (a3 + 1)) a4))) (cond (a1 == 1) (cond (a1 == 2) (rc (i64.wrap (a3 + 1)) a4) (rc (i64.wrap (a3 + 1)) a4)) (cond (a1 == 2) (rc (i64.wrap (a3 + 1)) a4) (rc (i64.wrap (a3 + 1)) a4)))) (cond (a1 == 1)
 (cond (a1 == 2) (rc (i64.wrap (a3 + 1)) a4) (rc (i64.wrap (a3 + 1)) a4)) (cond (a1 == 2) (rc (i64.wrap (a3 + 1)) a4) (rc (i64.wrap (a3 + 1)) a4)))))))) (fin a4)
def impl_TemplateOf_l2 (a0 a1 a2 : Int) (a3 : Int) (a4 : List DGrid) : Option (List DGrid) := lim (fun r (x : Int × (List DGrid)) => impl_TemplateOf_l2K a0 a1 a2 (fun a3 a4 => r (a3, a4)) some x.1 x.2) (a3, a4)
def L34c : Loop := mkM ⟨[0, 4, 5, 6, 7], [.slot 4], [], []⟩ s34c x34c fun (x : d34c) => impl_TemplateOf_l2 x.1.1 x.1.2.2.1 x.1.2.2.2.1 x.1.2.2.2.2.1 x.2.1
abbrev d34b := (Int × U × Int × Int × U) × ((List DGrid) × U)
def s34b : LS := ⟨[(0, oI), (4, oS 0), (5, oI), (6, oI)], [.sl TGrid], []⟩
def x34b : List (XS d34b) := [⟨.exit 2, ⟨[0, 4, 5], [.slot 4], [], []⟩, ⟨[(0, oI), (4, oS 0), (5, oI)], [.sl TGrid], []⟩, List DGrid, fun i y => ((i.1.1, (), i.1.2.2.1, ()), y, ())⟩]
def impl_TemplateOf_l1K {R : Type} (a0 a1 : Int) (rc : Int → List DGrid → Option R) (fin : List DGrid → Option R) (a2 : Int) (a3 : List DGrid) : Option R := cond (decide (a2 ≤ 2)) ((impl_TemplateOf_l2 a0 a1 a2 (-2) a3).bind fun y67 => rc
 (i64.wrap (a2 + 1)) y67) (fin a3)
def impl_TemplateOf_l1 (a0 a1 : Int) (a2 : Int) (a3 : List DGrid) : Option (List DGrid) := lim (fun r (x : Int × (List DGrid)) => impl_TemplateOf_l1K a0 a1 (fun a2 a3 => r (a2, a3)) some x.1 x.2) (a2, a3)
theorem impl_TemplateOf_l1_eq (a0 a1 : Int) (a2 : Int) (a3 : List DGrid) : impl_TemplateOf_l1 a0 a1 a2 a3 = impl_TemplateOf_l1K a0 a1 (impl_TemplateOf_l1 a0 a1) some a2 a3 := lim_eqI (fun x =>
 by unfold impl_TemplateOf_l1K; repeat' (first | constructor | intro _)) _
def L34b : Loop := mkM ⟨[0, 4, 5, 6], [.slot 4], [], []⟩ s34b x34b fun (x : d34b) => impl_TemplateOf_l1 x.1.1 x.1.2.2.1 x.1.2.2.2.1 x.2.1
abbrev d34a := (Int × U × Int × U) × ((List DGrid) × U)
def s34a : LS := ⟨[(0, oI), (4, oS 0), (5, oI)], [.sl TGrid], []⟩
def x34a : List (XS d34a) := [⟨.exit 0, ⟨[4], [.slot 4], [], []⟩, ⟨[(4, oS 0)], [.sl TGrid], []⟩, List DGrid, fun i y => (((), ()), y, ())⟩]
def impl_TemplateOf_l0K {R : Type} (a0 : Int) (rc : Int → List DGrid → Option R) (fin : List DGrid → Option R) (a1 : Int) (a2 : List DGrid) : Option R := cond (decide (a1 ≤ 2)) ((impl_TemplateOf_l1 a0 a1 (-2) a2).bind fun y68 => rc
 (i64.wrap (a1 + 1)) y68) (fin a2)
def impl_TemplateOf_l0 (a0 : Int) (a1 : Int) (a2 : List DGrid) : Option (List DGrid) := lim (fun r (x : Int × (List DGrid)) => impl_TemplateOf_l0K a0 (fun a1 a2 => r (a1, a2)) some x.1 x.2) (a1, a2)
theorem impl_TemplateOf_l0_eq (a0 : Int) (a1 : Int) (a2 : List DGrid) : impl_TemplateOf_l0 a0 a1 a2 = impl_TemplateOf_l0K a0 (impl_TemplateOf_l0 a0) some a1 a2 := lim_eqI (fun x =>
 by unfold impl_TemplateOf_l0K; repeat' (first | constructor | intro _)) _
def L34a : Loop := mkM ⟨[0, 4, 5], [.slot 4], [], []⟩ s34a x34a fun (x : d34a) => impl_TemplateOf_l0 x.1.1 x.1.2.2.1 x.2.1
def impl_TemplateOfK {R : Type} (fin : (List DGrid) × Bool → Option R) (x0 : Int) : Option R := cond (decide (x0 < 1)) (fin ([], false)) (cond (decide (x0 > 4)) (fin ([], false)) ((impl_TemplateOf_l0 x0 1 []).bind fun y69 => fin (y69,
 true)))
def impl_TemplateOf (x0 : Int) : Option ((List DGrid) × Bool) := impl_TemplateOfK some x0
def or34 : Ora := { lo := addL 5 L34a (addL 8 L34b (addL 11 L34c lo0)), fin := [.own (.slot 2) TGrid, .frz (.slot 2)] }
set_option maxHeartbeats 4000000 in
theorem o34c : LOk EL34 or34 Tryz.f34 2 L34c := loop_rnd (fun (x : d34c) => (x.1.2.2.2.2.1, x.2.1)) (fun (i : d34c) v => ((i.1.1, (), i.1.2.2.1, i.1.2.2.2.1, v.1, ()), v.2, ())) (fun (i : d34c) _ rc fin v => impl_TemplateOf_l2K i.1.1
 i.1.2.2.1 i.1.2.2.2.1 (fun a3 a4 => rc (a3, a4)) fin v.1 v.2) (fun _ => rfl) (fun _ => rfl) (fun i k v => by kernel_rfl) fun i _ rc _ _ hr v => by unfold impl_TemplateOf_l2K; repeat' (first | exact .of (hr _) | constructor | intro _)
theorem o34b : LOk EL34 or34 Tryz.f34 1 L34b := loop_rnd (fun (x : d34b) => (x.1.2.2.2.1, x.2.1)) (fun (i : d34b) v => ((i.1.1, (), i.1.2.2.1, v.1, ()), v.2, ())) (fun (i : d34b) _ rc fin v => impl_TemplateOf_l1K i.1.1 i.1.2.2.1 (fun a2 a3
 => rc (a2, a3)) fin v.1 v.2) (fun _ => rfl) (fun _ => rfl) (fun i k v => by kernel_rfl) fun i _ rc _ _ hr v => by unfold impl_TemplateOf_l1K; repeat' (first | exact .of (hr _) | constructor | intro _)
theorem o34a : LOk EL34 or34 Tryz.f34 0 L34a := loop_rnd (fun (x : d34a) => (x.1.2.2.1, x.2.1)) (fun (i : d34a) v => ((i.1.1, (), v.1, ()), v.2, ())) (fun (i : d34a) _ rc fin v => impl_TemplateOf_l0K i.1.1 (fun a1 a2 => rc (a1, a2)) fin
 v.1 v.2) (fun _ => rfl) (fun _ => rfl) (fun i k v => by kernel_rfl) fun i _ rc _ _ hr v => by unfold impl_TemplateOf_l0K; repeat' (first | exact .of (hr _) | constructor | intro _)
def c34 : Callee := mkC [rI] 2 [.one (.ro (.slice TGrid)), rB] fun x => impl_TemplateOf x
theorem k34 : Cal Tryz.prog 34 c34 := cal_mk (or := or34) Tryz.func34 (by kernel_rfl) (by kernel_rfl) mixed (EnvOk.nil |>.a k74 : EnvOk _ EL34) (LoOk.mk (by kernel_rfl) (all3 ⟨_, by kernel_rfl, o34a⟩ ⟨_, by kernel_rfl, o34b⟩ ⟨_,
 by kernel_rfl, o34c⟩)) (fun _ fin x => impl_TemplateOfK fin x) (fun _ => rfl) (fun x => by kernel_rfl) fun x _ _ => by unfold impl_TemplateOfK; repeat' (first | constructor | intro _)
def EL8 : Nat → Option Callee := addE 35 c35 (addE 34 c34 env0)
def impl_UniformSlopesK {R : Type} (fin : (LI × (List (List DGrid))) × Bool → Option R) (x0 : DGrid) (x1 : Int) : Option R := (impl_TemplateOf x1).bind fun y1 => (impl_IsGrid x0).bind fun y2 => cond (!y2) (fin (([], []), false)) (cond
 (!y1.2) (fin (([], []), false)) (cond (decide ((0 : Int) ≤ i64.wrap (x0.1 * x0.2.1)) && (decide (i64.wrap (x0.1 * x0.2.1) ≤ i64.wrap (x0.1 * x0.2.1)) && decide (i64.wrap (x0.1 * x0.2.1) ≤ 1099511627776))) ((some ((List.replicate
 ((i64.wrap (x0.1 * x0.2.1)).toNat) 0 : LI))).bind fun v3 => fin ((v3, [y1.1]), true)) none))
def impl_UniformSlopes (x0 : DGrid) (x1 : Int) : Option ((LI × (List (List DGrid))) × Bool) := impl_UniformSlopesK some x0 x1
def or8 : Ora := { lo := lo0, fin := [.own (.cell 4 0) (.int .i64), .own (.cell 4 1) (.slice TGrid)] }
def c8 : Callee := mkC [.agg [.ro TGrid], rI] 2 [.agg [.sl (.int .i64), .sl (.slice TGrid)], rB] fun x => impl_UniformSlopes x.1 x.2
theorem k8 : Cal Tryz.prog 8 c8 := cal_mk (or := or8) Tryz.func8 (by kernel_rfl) (by kernel_rfl) mixed (EnvOk.nil |>.a k34 |>.a k35 : EnvOk _ EL8) (LoOk.nil (by kernel_rfl)) (fun _ fin x => impl_UniformSlopesK fin x.1 x.2) (fun _ => rfl)
 (fun x => by kernel_rfl) fun x _ _ => by unfold impl_UniformSlopesK; repeat' (first | constructor | intro _)
def EL144 : Nat → Option Callee := addE 61 c61 env0
def spec_l1AbsK {R : Type} (fin : Int → Option R) (x0 : Int) : Option R := (spec_l1Most x0 (i64.wrap (0 - x0))).bind fun y1 => fin y1
def spec_l1Abs (x0 : Int) : Option (Int) := spec_l1AbsK some x0
def c144 : Callee := mkC [rI] 1 [rI] fun x => spec_l1Abs x
theorem k144 : Cal Tryz.prog 144 c144 := cal_mk (or := or0) Tryz.func144 (by kernel_rfl) (by kernel_rfl) mixed (EnvOk.nil |>.a k61 : EnvOk _ EL144) (LoOk.nil (by kernel_rfl)) (fun _ fin x => spec_l1AbsK fin x) (fun _ => rfl) (fun x =>
 by kernel_rfl) fun x _ _ => by unfold spec_l1AbsK; repeat' (first | constructor | intro _)
def EL119 : Nat → Option Callee := addE 144 c144 env0
def spec_slHasK {R : Type} (fin : Bool → Option R) (x0 x1 x2 x3 : Int) : Option R := (spec_l1Abs x1).bind fun y1 => (spec_l1Abs x2).bind fun y2 => cond (x0 == 1) (cond (x3 == 1) (fin ((i64.wrap (y1 + y2)) == 0)) (fin false)) (cond (x0 ==
 2) (cond (x3 == 1) (fin (decide ((i64.wrap (y1 + y2)) ≤ 1))) (fin false)) (cond (x0 == 3) (cond (x3 == 1) ((spec_l1Abs x1).bind fun y3 => cond (decide (y3 ≤ 1)) ((spec_l1Abs x2).bind fun y4 => fin (decide (y4 ≤ 1))) (fin false)) (fin
 false)) (cond (x3 == 1) (cond (decide ((i64.wrap (y1 + y2)) ≤ 1)) (fin true) (cond (x3 == 2) (cond ((i64.wrap (y1 + y2)) == 2) (fin ((i64.wrap (x1 * x2)) == 0)) (fin false)) (fin false))) (cond (x3 == 2) (cond ((i64.wrap (y1 + y2)) == 2)
 (fin ((i64.wrap (x1 * x2)) == 0)) (fin false)) (fin false)))))
def spec_slHas (x0 x1 x2 x3 : Int) : Option (Bool) := spec_slHasK some x0 x1 x2 x3
def c119 : Callee := mkC [rI, rI, rI, rI] 1 [rB] fun x => spec_slHas x.1 x.2.1 x.2.2.1 x.2.2.2
theorem k119 : Cal Tryz.prog 119 c119 := cal_mk (or := or0) Tryz.func119 (by kernel_rfl) (by kernel_rfl) mixed (EnvOk.nil |>.a k144 : EnvOk _ EL119) (LoOk.nil (by kernel_rfl)) (fun _ fin x => spec_slHasK fin x.1 x.2.1 x.2.2.1 x.2.2.2) (fun
 _ => rfl) (fun x => by kernel_rfl) fun x _ _ => by unfold spec_slHasK; repeat' (first | constructor | intro _)
def EL79 : Nat → Option Callee := addE 119 c119 env0
abbrev d79c := (Int × U × Int × Int × Int × U) × ((List DGrid) × U)
def s79c : LS := ⟨[(0, oI), (3, oS 0), (4, oI), (5, oI), (6, oI)], [.sl TGrid], []⟩
def x79c : List (XS d79c) := [⟨.exit 4, ⟨[0, 3, 4, 5], [.slot 3], [], []⟩, ⟨[(0, oI), (3, oS 0), (4, oI), (5, oI)], [.sl TGrid], []⟩, List DGrid, fun i y => ((i.1.1, (), i.1.2.2.1, i.1.2.2.2.1, ()), y, ())⟩]
def spec_slStandard_l2K {R : Type} (a0 a1 a2 : Int) (rc : Int → List DGrid → Option R) (fin : List DGrid → Option R) (a3 : Int) (a4 : List DGrid) : Option R := cond (decide (a3 ≤ 2)) ((spec_slHas a0 a3 a2 a1).bind fun y1 => cond (y1) (cond
 (decide (a4.length + [(a3, a2, a1, ())].length ≤ 1099511627776)) ((some (a4 ++ [(a3, a2, a1, ())])).bind fun v2 => rc (i64.wrap (a3 + 1)) v2) none) (rc (i64.wrap (a3 + 1)) a4)) (fin a4)
def spec_slStandard_l2 (a0 a1 a2 : Int) (a3 : Int) (a4 : List DGrid) : Option (List DGrid) := lim (fun r (x : Int × (List DGrid)) => spec_slStandard_l2K a0 a1 a2 (fun a3 a4 => r (a3, a4)) some x.1 x.2) (a3, a4)
def L79c : Loop := mkM ⟨[0, 3, 4, 5, 6], [.slot 3], [], []⟩ s79c x79c fun (x : d79c) => spec_slStandard_l2 x.1.1 x.1.2.2.1 x.1.2.2.2.1 x.1.2.2.2.2.1 x.2.1
abbrev d79b := (Int × U × Int × Int × U) × ((List DGrid) × U)
def s79b : LS := ⟨[(0, oI), (3, oS 0), (4, oI), (5, oI)], [.sl TGrid], []⟩
def x79b : List (XS d79b) := [⟨.exit 2, ⟨[0, 3, 4], [.slot 3], [], []⟩, ⟨[(0, oI), (3, oS 0), (4, oI)], [.sl TGrid], []⟩, List DGrid, fun i y => ((i.1.1, (), i.1.2.2.1, ()), y, ())⟩]
def spec_slStandard_l1K {R : Type} (a0 a1 : Int) (rc : Int → List DGrid → Option R) (fin : List DGrid → Option R) (a2 : Int) (a3 : List DGrid) : Option R := cond (decide (a2 ≤ 2)) ((spec_slStandard_l2 a0 a1 a2 (-2) a3).bind fun y3 => rc
 (i64.wrap (a2 + 1)) y3) (fin a3)
def spec_slStandard_l1 (a0 a1 : Int) (a2 : Int) (a3 : List DGrid) : Option (List DGrid) := lim (fun r (x : Int × (List DGrid)) => spec_slStandard_l1K a0 a1 (fun a2 a3 => r (a2, a3)) some x.1 x.2) (a2, a3)
theorem spec_slStandard_l1_eq (a0 a1 : Int) (a2 : Int) (a3 : List DGrid) : spec_slStandard_l1 a0 a1 a2 a3 = spec_slStandard_l1K a0 a1 (spec_slStandard_l1 a0 a1) some a2 a3 := lim_eqI (fun x =>
 by unfold spec_slStandard_l1K; repeat' (first | constructor | intro _)) _
def L79b : Loop := mkM ⟨[0, 3, 4, 5], [.slot 3], [], []⟩ s79b x79b fun (x : d79b) => spec_slStandard_l1 x.1.1 x.1.2.2.1 x.1.2.2.2.1 x.2.1
abbrev d79a := (Int × U × Int × U) × ((List DGrid) × U)
def s79a : LS := ⟨[(0, oI), (3, oS 0), (4, oI)], [.sl TGrid], []⟩
def x79a : List (XS d79a) := [⟨.exit 0, ⟨[3], [.slot 3], [], []⟩, ⟨[(3, oS 0)], [.sl TGrid], []⟩, List DGrid, fun i y => (((), ()), y, ())⟩]
def spec_slStandard_l0K {R : Type} (a0 : Int) (rc : Int → List DGrid → Option R) (fin : List DGrid → Option R) (a1 : Int) (a2 : List DGrid) : Option R := cond (decide (a1 ≤ 2)) ((spec_slStandard_l1 a0 a1 (-2) a2).bind fun y4 => rc
 (i64.wrap (a1 + 1)) y4) (fin a2)
def spec_slStandard_l0 (a0 : Int) (a1 : Int) (a2 : List DGrid) : Option (List DGrid) := lim (fun r (x : Int × (List DGrid)) => spec_slStandard_l0K a0 (fun a1 a2 => r (a1, a2)) some x.1 x.2) (a1, a2)
theorem spec_slStandard_l0_eq (a0 : Int) (a1 : Int) (a2 : List DGrid) : spec_slStandard_l0 a0 a1 a2 = spec_slStandard_l0K a0 (spec_slStandard_l0 a0) some a1 a2 := lim_eqI (fun x =>
 by unfold spec_slStandard_l0K; repeat' (first | constructor | intro _)) _
def L79a : Loop := mkM ⟨[0, 3, 4], [.slot 3], [], [.own (.slot 3) TGrid]⟩ s79a x79a fun (x : d79a) => spec_slStandard_l0 x.1.1 x.1.2.2.1 x.2.1
def spec_slStandardK {R : Type} (fin : List DGrid → Option R) (x0 : Int) : Option R := (spec_slStandard_l0 x0 1 []).bind fun y14 => fin y14
def spec_slStandard (x0 : Int) : Option (List DGrid) := spec_slStandardK some x0
def or79 : Ora := { lo := addL 3 L79a (addL 6 L79b (addL 9 L79c lo0)), fin := [.frz (.slot 2)] }
theorem o79c : LOk EL79 or79 Tryz.f79 2 L79c := loop_rnd (fun (x : d79c) => (x.1.2.2.2.2.1, x.2.1)) (fun (i : d79c) v => ((i.1.1, (), i.1.2.2.1, i.1.2.2.2.1, v.1, ()), v.2, ())) (fun (i : d79c) _ rc fin v => spec_slStandard_l2K i.1.1
 i.1.2.2.1 i.1.2.2.2.1 (fun a3 a4 => rc (a3, a4)) fin v.1 v.2) (fun _ => rfl) (fun _ => rfl) (fun i k v => by kernel_rfl) fun i _ rc _ _ hr v => by unfold spec_slStandard_l2K; repeat' (first | exact .of (hr _) | constructor | intro _)
theorem o79b : LOk EL79 or79 Tryz.f79 1 L79b := loop_rnd (fun (x : d79b) => (x.1.2.2.2.1, x.2.1)) (fun (i : d79b) v => ((i.1.1, (), i.1.2.2.1, v.1, ()), v.2, ())) (fun (i : d79b) _ rc fin v => spec_slStandard_l1K i.1.1 i.1.2.2.1 (fun a2 a3
 => rc (a2, a3)) fin v.1 v.2) (fun _ => rfl) (fun _ => rfl) (fun i k v => by kernel_rfl) fun i _ rc _ _ hr v => by unfold spec_slStandard_l1K; repeat' (first | exact .of (hr _) | constructor | intro _)
theorem o79a : LOk EL79 or79 Tryz.f79 0 L79a := loop_rnd (fun (x : d79a) => (x.1.2.2.1, x.2.1)) (fun (i : d79a) v => ((i.1.1, (), v.1, ()), v.2, ())) (fun (i : d79a) _ rc fin v => spec_slStandard_l0K i.1.1 (fun a1 a2 => rc (a1, a2)) fin
 v.1 v.2) (fun _ => rfl) (fun _ => rfl) (fun i k v => by kernel_rfl) fun i _ rc _ _ hr v => by unfold spec_slStandard_l0K; repeat' (first | exact .of (hr _) | constructor | intro _)
def c79 : Callee := mkC [rI] 1 [.one (.ro (.slice TGrid))] fun x => spec_slStandard x
theorem k79 : Cal Tryz.prog 79 c79 := cal_mk (or := or79) Tryz.func79 (by kernel_rfl) (by kernel_rfl) mixed (EnvOk.nil |>.a k119 : EnvOk _ EL79) (LoOk.mk (by kernel_rfl) (all3 ⟨_, by kernel_rfl, o79a⟩ ⟨_, by kernel_rfl, o79b⟩ ⟨_,
 by kernel_rfl, o79c⟩)) (fun _ fin x => spec_slStandardK fin x) (fun _ => rfl) (fun x => by kernel_rfl) fun x _ _ => by unfold spec_slStandardK; repeat' (first | constructor | intro _)
def EL41 : Nat → Option Callee := addE 79 c79 env0
def spec_slUniformK {R : Type} (fin : LI × (List (List DGrid)) → Option R) (x0 : DGrid) (x1 : Int) : Option R := cond (decide ((0 : Int) ≤ i64.wrap (x0.1 * x0.2.1)) && (decide (i64.wrap (x0.1 * x0.2.1) ≤ i64.wrap (x0.1 * x0.2.1)) && decide
 (i64.wrap (x0.1 * x0.2.1) ≤ 1099511627776))) ((some ((List.replicate ((i64.wrap (x0.1 * x0.2.1)).toNat) 0 : LI))).bind fun v1 => (spec_slStandard x1).bind fun y2 => fin (v1, [y2])) none
def spec_slUniform (x0 : DGrid) (x1 : Int) : Option (LI × (List (List DGrid))) := spec_slUniformK some x0 x1
def c41 : Callee := mkC [.agg [.ro TGrid], rI] 1 [.agg [.sl (.int .i64), .sl (.slice TGrid)]] fun x => spec_slUniform x.1 x.2
theorem k41 : Cal Tryz.prog 41 c41 := cal_mk (or := or0) Tryz.func41 (by kernel_rfl) (by kernel_rfl) mixed (EnvOk.nil |>.a k79 : EnvOk _ EL41) (LoOk.nil (by kernel_rfl)) (fun _ fin x => spec_slUniformK fin x.1 x.2) (fun _ => rfl) (fun x =>
 by kernel_rfl) fun x _ _ => by unfold spec_slUniformK; repeat' (first | constructor | intro _)
def EL12 : Nat → Option Callee := addE 41 c41 (addE 40 c40 (addE 39 c39 env0))
def spec_UniformSlopesK {R : Type} (fin : (LI × (List (List DGrid))) × Bool → Option R) (x0 : DGrid) (x1 : Int) : Option R := (spec_grGood x0).bind fun y1 => cond (!y1) (fin (([], []), false)) ((spec_l1In x1 1 4).bind fun y2 => cond (!y2)
 (fin (([], []), false)) ((spec_slUniform x0 x1).bind fun y3 => fin (y3, true)))
def spec_UniformSlopes (x0 : DGrid) (x1 : Int) : Option ((LI × (List (List DGrid))) × Bool) := spec_UniformSlopesK some x0 x1
def or12 : Ora := { lo := lo0, fin := [.own (.cell 4 0) (.int .i64), .own (.cell 4 1) (.slice TGrid)] }
def c12 : Callee := mkC [.agg [.ro TGrid], rI] 2 [.agg [.sl (.int .i64), .sl (.slice TGrid)], rB] fun x => spec_UniformSlopes x.1 x.2
theorem k12 : Cal Tryz.prog 12 c12 := cal_mk (or := or12) Tryz.func12 (by kernel_rfl) (by kernel_rfl) mixed (EnvOk.nil |>.a k39 |>.a k40 |>.a k41 : EnvOk _ EL12) (LoOk.nil (by kernel_rfl)) (fun _ fin x => spec_UniformSlopesK fin x.1 x.2)
 (fun _ => rfl) (fun x => by kernel_rfl) fun x _ _ => by unfold spec_UniformSlopesK; repeat' (first | constructor | intro _)
end
end Go.OAI
