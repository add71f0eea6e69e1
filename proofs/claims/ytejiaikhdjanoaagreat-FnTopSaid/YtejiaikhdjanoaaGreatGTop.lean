/- Contracts: GTop. -/
import Derived.Test.YtejiaikhdjanoaaGreatGA
import Derived.Test.YtejiaikhdjanoaaGreatGD
import Derived.Test.YtejiaikhdjanoaaGreatGS
import Derived.Test.YtejiaikhdjanoaaGreatGC
import Derived.Test.YtejiaikhdjanoaaGreatGP
import Derived.Test.YtejiaikhdjanoaaGreatGX
import Derived.Test.YtejiaikhdjanoaaGreatGO
namespace Go.OAI
open Go.Proofs
open Go.IntKind (i64 u64 u8)
set_option linter.unusedVariables false
noncomputable section
def EL3 : Nat → Option Callee := addE 27 c27 (addE 26 c26 (addE 25 c25 (addE 24 c24 (addE 23 c23 (addE 22 c22 (addE 21 c21 (addE 20 c20 (addE 19 c19 (addE 18 c18 (addE 17 c17 (addE 16 c16 (addE 15 c15 (addE 14 c14 (addE 13 c13 (addE 12 c12
 (addE 11 c11 (addE 10 c10 (addE 9 c9 (addE 8 c8 (addE 7 c7 (addE 6 c6 (addE 5 c5 (addE 4 c4 env0)))))))))))))))))))))))
abbrev d3a := (LI × U × U × U × U × Bool × U × Bool × Bool × Bool × Int × Bool × Int × Bool × Int × U × Int × Int × U) × (Q10 × LI × LI × LI × LI × LL × LI × LI × U)
def s3a : LS := ⟨[(1, .one (.dat (.slice (.int .u8)))), (5, oP 0 0), (9, oS 4), (17, oS 5), (19, oS 6), (20, oB), (21, oS 7), (22, oB), (23, oB), (24, oB), (25, oI), (26, oB), (27, oI), (28, oB), (29, oI), (185, oS 4), (186, oI), (187,
 oI)], [.box [dI, dI, dI, .fix (.sref 1), .fix (.sref 2), .fix (.sref 3)], .sl (.int .i64), .sl (.int .i64), .sl (.int .i64), .sl (.int .i64), .sl (.slice (.int .i64)), .sl (.int .i64), .sl (.int .i64)], []⟩
def x3a : List (XS d3a) := [⟨.exit 0, ⟨[1, 5, 9, 17, 19, 20, 21, 22, 23, 24, 25, 26, 27, 28, 29], [.slot 5, .cell 5 3, .cell 5 4, .cell 5 5, .slot 9, .slot 17, .slot 19, .slot 21], [], []⟩, ⟨[(1, .one (.dat (.slice (.int .u8)))), (5, oP 0
 0), (9, oS 4), (17, oS 5), (19, oS 6), (20, oB), (21, oS 7), (22, oB), (23, oB), (24, oB), (25, oI), (26, oB), (27, oI), (28, oB), (29, oI)], [.box [dI, dI, dI, .fix (.sref 1), .fix (.sref 2), .fix (.sref 3)], .sl (.int .i64), .sl (.int
 .i64), .sl (.int .i64), .sl (.int .i64), .sl (.slice (.int .i64)), .sl (.int .i64), .sl (.int .i64)], []⟩, Int, fun i y => ((i.1.1, (), (), (), (), i.1.2.2.2.2.2.1, (), i.1.2.2.2.2.2.2.2.1, i.1.2.2.2.2.2.2.2.2.1, i.1.2.2.2.2.2.2.2.2.2.1,
 i.1.2.2.2.2.2.2.2.2.2.2.1, i.1.2.2.2.2.2.2.2.2.2.2.2.1, i.1.2.2.2.2.2.2.2.2.2.2.2.2.1, i.1.2.2.2.2.2.2.2.2.2.2.2.2.2.1, y, ()), (i.2.1.1, i.2.1.2.1, i.2.1.2.2.1, (), (), (), ()), i.2.2.1, i.2.2.2.1, i.2.2.2.2.1, i.2.2.2.2.2.1,
 i.2.2.2.2.2.2.1, i.2.2.2.2.2.2.2.1, i.2.2.2.2.2.2.2.2.1, ())⟩]
def laws_FnTop_l0K {R : Type} (a10 : Int) (a18 : LI) (rc : Int → Int → Option R) (fin : Int → Option R) (a9 a11 : Int) : Option R := cond (decide (a11 < a10)) (cond (decide ((0 : Int) ≤ a11) && decide (a11 < (a18.length : Int))) (cond
 (decide ((a18.getD (0 + a11.toNat) 0) > 0)) (rc (i64.wrap (a9 + (a18.getD (0 + a11.toNat) 0))) (i64.wrap (a11 + 1))) (rc a9 (i64.wrap (a11 + 1)))) none) (fin a9)
def laws_FnTop_l0 (a10 : Int) (a18 : LI) (a9 a11 : Int) : Option (Int) := lim (fun r (x : Q32) => laws_FnTop_l0K a10 a18 (fun a9 a11 => r (a9, a11)) some x.1 x.2) (a9, a11)
theorem laws_FnTop_l0_eq (a10 : Int) (a18 : LI) (a9 a11 : Int) : laws_FnTop_l0 a10 a18 a9 a11 = laws_FnTop_l0K a10 a18 (laws_FnTop_l0 a10 a18) some a9 a11 := lim_eqI (fun x =>
 by unfold laws_FnTop_l0K; repeat' (first | constructor | intro _)) _
def L3a : Loop := mkM ⟨[1, 5, 9, 17, 19, 20, 21, 22, 23, 24, 25, 26, 27, 28, 29, 185, 186, 187], [.slot 5, .cell 5 3, .cell 5 4, .cell 5 5, .slot 9, .slot 17, .slot 19, .slot 21], [], []⟩ s3a x3a fun (x : d3a) => laws_FnTop_l0
 x.1.2.2.2.2.2.2.2.2.2.2.2.2.2.2.2.2.1 x.2.2.2.2.2.1 x.1.2.2.2.2.2.2.2.2.2.2.2.2.2.2.1 x.1.2.2.2.2.2.2.2.2.2.2.2.2.2.2.2.2.2.1
abbrev d3b := (U × U × U × U × Int × Int × U × Int × Int × U) × (Q10 × LI × LI × LI × (U × U × U × Int × Int × Int × Int × Int × U) × LL × LI × (Int × U × U) × LI × (Bool × Int × U × U) × (List DLimits) × U)
def s3b : LS := ⟨[(5, oP 0 0), (32, oP 4 0), (37, oP 7 0), (45, oP 9 0), (46, oI), (47, oI), (329, oS 8), (330, oI), (331, oI)], [.box [dI, dI, dI, .fix (.sref 1), .fix (.sref 2), .fix (.sref 3)], .sl (.int .i64), .sl (.int .i64), .sl
 (.int .i64), .box [.fix (.sref 5), .fix (.sref 1), .fix (.sref 6), dI, dI, dI, dI, dI], .sl (.slice (.int .i64)), .sl (.int .i64), .box [dI, .fix (.sref 8)], .sl (.int .i64), .box [dB, dI, .fix (.sref 10)], .sl TLimits], []⟩
def x3b : List (XS d3b) := [⟨.ret, ⟨[4], [], [], []⟩, ⟨[(4, oB)], [], []⟩, Bool, fun i y => ((y, ()), ())⟩, ⟨.exit 2, ⟨[32, 37, 45, 46, 47], [.slot 32, .cell 32 0, .cell 32 1, .cell 32 2, .slot 37, .cell 37 1, .slot 45, .cell 45 2], [],
 []⟩, ⟨[(32, oP 0 0), (37, oP 4 0), (45, oP 6 0), (46, oI), (47, oI)], [.box [.fix (.sref 1), .fix (.sref 2), .fix (.sref 3), dI, dI, dI, dI, dI], .sl (.slice (.int .i64)), .sl (.int .i64), .sl (.int .i64), .box [dI, .fix (.sref 5)], .sl
 (.int .i64), .box [dB, dI, .fix (.sref 7)], .sl TLimits], []⟩, Int × Int × Bool × Int × (List DLimits), fun i y => (((), (), (), y.1, y.2.1, ()), ((), (), (), i.2.2.2.2.2.1.2.2.2.1, i.2.2.2.2.2.1.2.2.2.2.1, i.2.2.2.2.2.1.2.2.2.2.2.1,
 i.2.2.2.2.2.1.2.2.2.2.2.2.1, i.2.2.2.2.2.1.2.2.2.2.2.2.2.1, ()), i.2.2.2.2.2.2.1, i.2.2.1, i.2.2.2.2.2.2.2.1, (i.2.2.2.2.2.2.2.2.1.1, (), ()), i.2.2.2.2.2.2.2.2.2.1, (y.2.2.1, y.2.2.2.1, (), ()), y.2.2.2.2, ())⟩]
def laws_FnTop_l1K {R : Type} (a2 : Int) (a7 a8 a18 : LI) (rc : Int → Int → Int → Bool → Int → List DLimits → Option R) (fin : (Bool ⊕ (Int × Int × Bool × Int × (List DLimits))) → Option R) (a0 a1 a3 : Int) (a19 : Bool) (a20 : Int) (a21 :
 List DLimits) : Option R := cond (decide (a3 < a2)) (cond (decide ((0 : Int) ≤ a3) && decide (a3 < (a18.length : Int))) (cond (decide ((a18.getD (0 + a3.toNat) 0) < 0)) (rc a0 a1 (i64.wrap (a3 + 1)) a19 a20 a21) (cond (decide ((0 : Int) ≤
 a3) && decide (a3 < (a7.length : Int))) (cond (decide ((0 : Int) ≤ a3) && decide (a3 < (a7.length : Int))) (cond (decide ((0 : Int) ≤ a3) && decide (a3 < (a8.length : Int))) ((some (i64.wrap ((a7.getD (0 + a3.toNat) 0) * (a8.getD (0 +
 a3.toNat) 0)))).bind fun v1 => cond (decide ((0 : Int) ≤ a3) && decide (a3 < (a7.length : Int))) (cond ((a7.getD (0 + a3.toNat) 0) == 0) (rc (i64.wrap (a0 + (a7.getD (0 + a3.toNat) 0))) (i64.wrap (a1 + v1)) (i64.wrap (a3 + 1)) a19 a20
 a21) (cond (decide ((0 : Int) ≤ a3) && decide (a3 < (a7.length : Int))) (cond (decide ((0 : Int) ≤ a3) && decide (a3 < (a7.length : Int))) (cond (decide ((0 : Int) ≤ a3) && decide (a3 < (a8.length : Int))) ((some (i64.wrap ((a7.getD (0 +
 a3.toNat) 0) * (a8.getD (0 + a3.toNat) 0)))).bind fun v2 => (impl_PutLot (a19, a20, a21, ()) (a7.getD (0 + a3.toNat) 0, v2, ())).bind fun y3 => cond (!y3.2) (fin (.inl false)) (rc (i64.wrap (a0 + (a7.getD (0 + a3.toNat) 0))) (i64.wrap (a1
 + v1)) (i64.wrap (a3 + 1)) y3.1.1 y3.1.2.1 y3.1.2.2)) none) none) none)) none) none) none) none)) none) (fin (.inr (a0, a1, a19, a20, a21)))
def laws_FnTop_l1 (a2 : Int) (a7 a8 a18 : LI) (a0 a1 a3 : Int) (a19 : Bool) (a20 : Int) (a21 : List DLimits) : Option (Bool ⊕ (Int × Int × Bool × Int × (List DLimits))) := lim (fun r (x : Int × Int × Int × Bool × Int × (List DLimits)) =>
 laws_FnTop_l1K a2 a7 a8 a18 (fun a0 a1 a3 a19 a20 a21 => r (a0, a1, a3, a19, a20, a21)) some x.1 x.2.1 x.2.2.1 x.2.2.2.1 x.2.2.2.2.1 x.2.2.2.2.2) (a0, a1, a3, a19, a20, a21)
theorem laws_FnTop_l1_eq (a2 : Int) (a7 a8 a18 : LI) (a0 a1 a3 : Int) (a19 : Bool) (a20 : Int) (a21 : List DLimits) : laws_FnTop_l1 a2 a7 a8 a18 a0 a1 a3 a19 a20 a21 = laws_FnTop_l1K a2 a7 a8 a18 (laws_FnTop_l1 a2 a7 a8 a18) some a0 a1 a3
 a19 a20 a21 := lim_eqI (fun x => by unfold laws_FnTop_l1K; repeat' (first | constructor | intro _)) _
def L3b : Loop := mkM ⟨[5, 32, 37, 45, 46, 47, 329, 330, 331], [.slot 5, .cell 5 3, .cell 5 4, .cell 5 5, .slot 32, .cell 32 0, .cell 32 2, .slot 37, .cell 37 1, .slot 45, .cell 45 2], [], [.own (.cell 45 2) TLimits]⟩ s3b x3b fun (x : d3b)
 => laws_FnTop_l1 x.1.2.2.2.2.2.2.2.1 x.2.2.1 x.2.2.2.1 x.2.2.2.2.2.2.2.2.2.1 x.1.2.2.2.2.1 x.1.2.2.2.2.2.1 x.1.2.2.2.2.2.2.2.2.1 x.2.2.2.2.2.2.2.2.2.2.1.1 x.2.2.2.2.2.2.2.2.2.2.1.2.1 x.2.2.2.2.2.2.2.2.2.2.2.1
def laws_FnTopK {R : Type} (fin : Bool → Option R) (x0 x1 : LI) : Option R := (laws_big x0 x1).bind fun y1 => cond (y1) (fin true) ((spec_DrawModelText x0).bind fun y2 => (impl_PriceValues ((y2.1, y2.2.1, y2.2.2.1, ()), y2.2.2.2.1,
 y2.2.2.2.2.1, y2.2.2.2.2.2, ()) (i64.wrap (10 + ((x1.length : Int).tmod 90)), 900, 20, i64.wrap (5 + ((x0.length : Int).tmod 40)), ())).bind fun y3 => (spec_PriceValues ((y2.1, y2.2.1, y2.2.2.1, ()), y2.2.2.2.1, y2.2.2.2.2.1,
 y2.2.2.2.2.2, ()) (i64.wrap (10 + ((x1.length : Int).tmod 90)), 900, 20, i64.wrap (5 + ((x0.length : Int).tmod 40)), ())).bind fun y4 => (impl_UniformSlopes (y2.1, y2.2.1, y2.2.2.1, ()) (i64.wrap (1 + ((x0.length : Int).tmod 4)))).bind
 fun y5 => (impl_ArcsOf (y2.1, y2.2.1, y2.2.2.1, ()) (y5.1.1, y5.1.2, ())).bind fun y6 => cond (!(y3.2 == y4.2)) (fin false) ((laws_sameInts y3.1 y4.1).bind fun y7 => cond (!y7) (fin false) ((impl_IsModel ((y2.1, y2.2.1, y2.2.2.1, ()),
 y2.2.2.2.1, y2.2.2.2.2.1, y2.2.2.2.2.2, ())).bind fun y8 => cond (!(y3.2 == y8)) (fin false) (cond (!y3.2) (fin true) ((spec_UniformSlopes (y2.1, y2.2.1, y2.2.2.1, ()) (i64.wrap (1 + ((x0.length : Int).tmod 4)))).bind fun y9 =>
 (spec_ArcsOf (y2.1, y2.2.1, y2.2.2.1, ()) (y9.1.1, y9.1.2, ())).bind fun y10 => cond (!y5.2) (fin false) (cond (!y6.2) (fin false) (cond (!y9.2) (fin false) (cond (!y10.2) (fin false) ((laws_sameLists y6.1 y10.1).bind fun y11 => cond
 (!y11) (fin false) ((impl_BestPit y10.1 y4.1).bind fun y12 => (spec_BestPit y10.1 y4.1).bind fun y13 => (impl_IsClosure y10.1 y13.1).bind fun y14 => (impl_CutOfPit y10.1 y4.1 y13.1).bind fun y15 => (impl_ValueOf y4.1 y13.1).bind fun y16
 => (laws_FnTop_l0 (y4.1.length : Int) y4.1 0 0).bind fun y17 => cond (!y12.2) (fin false) (cond (!y13.2) (fin false) ((laws_sameInts y12.1 y13.1).bind fun y18 => cond (!y18) (fin false) (cond (!y14.2) (fin false) (cond (!y14.1) (fin
 false) (cond (!y15.2) (fin false) (cond (!y16.2) (fin false) (cond (decide (y16.1 < 0)) (fin false) (cond ((i64.wrap (y16.1 + y15.1)) != y17) (fin false) (cond (decide ((y4.1.length : Int) > 12)) (fin true) ((some (i64.wrap (500 +
 (i64.wrap (100 * ((x1.length : Int).tmod 20)))))).bind fun v19 => (impl_SearchPlan (y10.1, y2.2.2.2.1, y4.1, (v19, 1000000, ()), 2, 9, 10, ()) 3000).bind fun y20 => (spec_SearchPlan (y10.1, y2.2.2.2.1, y4.1, (v19, 1000000, ()), 2, 9, 10,
 ()) 3000).bind fun y21 => (impl_OrderFaults (y10.1, y2.2.2.2.1, y4.1, (v19, 1000000, ()), 2, 9, 10, ()) (y21.1.1, y21.1.2, ())).bind fun y22 => (impl_OverLimits (y10.1, y2.2.2.2.1, y4.1, (v19, 1000000, ()), 2, 9, 10, ()) (y21.1.1,
 y21.1.2, ())).bind fun y23 => cond (!y20.2.2.2) (fin false) (cond (!y21.2.2.2) (fin false) ((laws_pSamePlan (y20.1.1, y20.1.2, ()) (y21.1.1, y21.1.2, ())).bind fun y24 => cond (!y24) (fin false) (cond (y20.2.1 != y21.2.1) (fin false)
 (cond (y20.2.2.1 != y21.2.2.1) (fin false) (cond (!y22.2) (fin false) (cond ((y22.1.length : Int) != 0) (fin false) (cond (!y23.2) (fin false) (cond ((y23.1.length : Int) != 0) (fin false) (cond (decide (y21.2.1 > (i64.wrap (10 *
 y16.1)))) (fin false) (cond (decide (y21.2.2.1 < y21.2.1)) (fin false) ((laws_FnTop_l1 (y21.1.2.length : Int) y2.2.2.2.1 y2.2.2.2.2.1 y21.1.2 0 0 0 false 10000000 []).bind fun y31 => sumO y31 (fun y32 => fin y32) (fun y33 =>
 (impl_PileSums (y33.2.2.1, y33.2.2.2.1, y33.2.2.2.2, ())).bind fun y34 => (impl_TonnesIn (y10.1, y2.2.2.2.1, y4.1, (v19, 1000000, ()), 2, 9, 10, ()) (y21.1.1, y21.1.2, ())).bind fun y35 => cond (!y34.2.2) (fin false) (cond (y34.1 !=
 y33.1) (fin false) (cond (y34.2.1 != y33.2.1) (fin false) (cond (!y35.2) (fin false) (cond ((y35.1.length : Int) != 2) (fin false) (cond (decide ((0 : Int) < (y35.1.length : Int))) (cond (((y35.1.getD (0 + 0) []).length : Int) != 2) (fin
 false) (cond (decide ((1 : Int) < (y35.1.length : Int))) (cond (((y35.1.getD (0 + 1) []).length : Int) != 2) (fin false) (cond (decide ((0 : Int) < (y35.1.length : Int))) (cond (decide ((0 : Int) < ((y35.1.getD (0 + 0) []).length : Int)))
 (cond (decide ((1 : Int) < (y35.1.length : Int))) (cond (decide ((0 : Int) < ((y35.1.getD (0 + 1) []).length : Int))) ((some (i64.wrap (((y35.1.getD (0 + 0) []).getD (0 + 0) 0) + ((y35.1.getD (0 + 1) []).getD (0 + 0) 0)))).bind fun v36 =>
 fin (v36 == y33.1)) none) none) none) none)) none)) none)))))))))))))))))))))))))))))))))))))
def laws_FnTop (x0 x1 : LI) : Option (Bool) := laws_FnTopK some x0 x1
def or3 : Ora := { lo := addL 43 L3b (addL 24 L3a lo0), fin := [] }
theorem o3a : LOk EL3 or3 Tryz.f3 0 L3a := loop_rnd (fun (x : d3a) => (x.1.2.2.2.2.2.2.2.2.2.2.2.2.2.2.1, x.1.2.2.2.2.2.2.2.2.2.2.2.2.2.2.2.2.2.1)) (fun (i : d3a) v => ((i.1.1, (), (), (), (), i.1.2.2.2.2.2.1, (), i.1.2.2.2.2.2.2.2.1,
 i.1.2.2.2.2.2.2.2.2.1, i.1.2.2.2.2.2.2.2.2.2.1, i.1.2.2.2.2.2.2.2.2.2.2.1, i.1.2.2.2.2.2.2.2.2.2.2.2.1, i.1.2.2.2.2.2.2.2.2.2.2.2.2.1, i.1.2.2.2.2.2.2.2.2.2.2.2.2.2.1, v.1, (), i.1.2.2.2.2.2.2.2.2.2.2.2.2.2.2.2.2.1, v.2, ()), (i.2.1.1,
 i.2.1.2.1, i.2.1.2.2.1, (), (), (), ()), i.2.2.1, i.2.2.2.1, i.2.2.2.2.1, i.2.2.2.2.2.1, i.2.2.2.2.2.2.1, i.2.2.2.2.2.2.2.1, i.2.2.2.2.2.2.2.2.1, ())) (fun (i : d3a) _ rc fin v => laws_FnTop_l0K i.1.2.2.2.2.2.2.2.2.2.2.2.2.2.2.2.2.1
 i.2.2.2.2.2.1 (fun a9 a11 => rc (a9, a11)) fin v.1 v.2) (fun _ => rfl) (fun _ => rfl) (fun i k v => by kernel_rfl) fun i _ rc _ _ hr v => by unfold laws_FnTop_l0K; repeat' (first | exact .of (hr _) | constructor | intro _)
theorem o3b : LOk EL3 or3 Tryz.f3 1 L3b := loop_rnd (fun (x : d3b) => (x.1.2.2.2.2.1, x.1.2.2.2.2.2.1, x.1.2.2.2.2.2.2.2.2.1, x.2.2.2.2.2.2.2.2.2.2.1.1, x.2.2.2.2.2.2.2.2.2.2.1.2.1, x.2.2.2.2.2.2.2.2.2.2.2.1)) (fun (i : d3b) v => (((), (),
 (), (), v.1, v.2.1, (), i.1.2.2.2.2.2.2.2.1, v.2.2.1, ()), (i.2.1.1, i.2.1.2.1, i.2.1.2.2.1, (), (), (), ()), i.2.2.1, i.2.2.2.1, i.2.2.2.2.1, ((), (), (), i.2.2.2.2.2.1.2.2.2.1, i.2.2.2.2.2.1.2.2.2.2.1, i.2.2.2.2.2.1.2.2.2.2.2.1,
 i.2.2.2.2.2.1.2.2.2.2.2.2.1, i.2.2.2.2.2.1.2.2.2.2.2.2.2.1, ()), i.2.2.2.2.2.2.1, i.2.2.2.2.2.2.2.1, (i.2.2.2.2.2.2.2.2.1.1, (), ()), i.2.2.2.2.2.2.2.2.2.1, (v.2.2.2.1, v.2.2.2.2.1, (), ()), v.2.2.2.2.2, ())) (fun (i : d3b) _ rc fin v =>
 laws_FnTop_l1K i.1.2.2.2.2.2.2.2.1 i.2.2.1 i.2.2.2.1 i.2.2.2.2.2.2.2.2.2.1 (fun a0 a1 a3 a19 a20 a21 => rc (a0, a1, a3, a19, a20, a21)) fin v.1 v.2.1 v.2.2.1 v.2.2.2.1 v.2.2.2.2.1 v.2.2.2.2.2) (fun _ => rfl) (fun _ => rfl) (fun i k v =>
 by kernel_rfl) fun i _ rc _ _ hr v => by unfold laws_FnTop_l1K; repeat' (first | exact .of (hr _) | constructor | intro _)
def c3 : Callee := mkC [.one (.ro (.slice (.int .u8))), .one (.ro (.slice (.int .u8)))] 1 [rB] fun x => laws_FnTop x.1 x.2
set_option maxHeartbeats 4000000 in
theorem k3 : Cal Tryz.prog 3 c3 := cal_mk (or := or3) Tryz.func3 (by kernel_rfl) (by kernel_rfl) mixed (EnvOk.nil |>.a k4 |>.a k5 |>.a k6 |>.a k7 |>.a k8 |>.a k9 |>.a k10 |>.a k11 |>.a k12 |>.a k13 |>.a k14 |>.a k15 |>.a k16 |>.a k17 |>.a
 k18 |>.a k19 |>.a k20 |>.a k21 |>.a k22 |>.a k23 |>.a k24 |>.a k25 |>.a k26 |>.a k27 : EnvOk _ EL3) (LoOk.mk (by kernel_rfl) (all2 ⟨_, by kernel_rfl, o3a⟩ ⟨_, by kernel_rfl, o3b⟩)) (fun _ fin x => laws_FnTopK fin x.1 x.2) (fun _ => rfl)
 (fun x => by kernel_rfl) fun x _ _ => by unfold laws_FnTopK; repeat' (first | constructor | intro _)
end
end Go.OAI
