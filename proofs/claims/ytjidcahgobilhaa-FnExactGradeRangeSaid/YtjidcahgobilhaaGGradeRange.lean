/- Contracts: GGradeRange. -/
import Derived.Test.YtjidcahgobilhaaGIsWanted
import Derived.Test.YtjidcahgobilhaaGAreBins
import Derived.Test.YtjidcahgobilhaaGBlendSums
import Derived.Test.YtjidcahgobilhaaGLeastImpurity
namespace Go.OAI
open Go.Proofs
set_option linter.unusedVariables false
noncomputable section


/-- spec.GradeRange -/
def EL28 : Nat → Option Callee := addE 43 c43 (addE 31 c31 (addE 34 c34 env0))
theorem vL28 : EnvOk Try.prog EL28 := ((EnvOk.nil.add Try.func34 rfl (by kernel_rfl) k34).add Try.func31 rfl (by kernel_rfl) k31).add Try.func43 rfl (by kernel_rfl) k43
def spec_GradeRangeK {R : Type} (fin : Int × Int × Bool → Option R) (x0 : List DWanted) (x1 : Int) : Option R :=
  (spec_blBins x0).bind fun y1 =>
  cond (!y1)
  (fin (0, (0, false)))
  ((spec_l1In x1 0 12).bind fun y2 =>
    cond (!y2)
    (fin (0, (0, false)))
    ((spec_blEdge x0 x1 1).bind fun y3 =>
      fin y3))
def spec_GradeRange (x0 : List DWanted) (x1 : Int) : Option (Int × Int × Bool) := spec_GradeRangeK some x0 x1
theorem p28 {R : Type} (fin : Int × Int × Bool → Option R) (x0 : List DWanted) (x1 : Int) : Par fin (spec_GradeRangeK some x0 x1) (spec_GradeRangeK fin x0 x1) := by
  unfold spec_GradeRangeK
  repeat' (first | exact .fin | exact .none | refine .cond ?_ ?_ | refine .bind fun _ => ?_ | refine .sum (fun _ => ?_) fun _ => ?_)
def c28 : Callee := mkC [.one (.ro (.slice TWanted)), .one (.ro (.int .i64))] 3 [.one (.ro (.int .i64)), .one (.ro (.int .i64)), .one (.ro .bool)] fun x => spec_GradeRange x.1 x.2
theorem e28 (x : PK.dens [.one (.ro (.slice TWanted)), .one (.ro (.int .i64))]) : evalFn Try.prog EL28 or0 Try.f28 (PK.outs [.one (.ro (.slice TWanted)), .one (.ro (.int .i64))] x) =
    spec_GradeRangeK (fun y => some (tupOf ((PK.outs [.one (.ro (.int .i64)), .one (.ro (.int .i64)), .one (.ro .bool)] y).take 3), (PK.outs [.one (.ro (.int .i64)), .one (.ro (.int .i64)), .one (.ro .bool)] y).drop 3)) x.1 x.2 := by kernel_rfl
theorem k28 : CalleeOk Try.prog 28 c28 := callee_mk Try.func28 (code := codeOf Try.f28) (by kernel_rfl) vL28 mixed (LoOk.nil (by kernel_rfl)) fun x y h => (e28 x).trans (p28 _ x.1 x.2 y h)

/-- impl.GradeRange$1 -/
def EL46 : Nat → Option Callee := addE 40 c40 env0
theorem vL46 : EnvOk Try.prog EL46 := EnvOk.nil.add Try.func40 rfl (by kernel_rfl) k40
def impl_GradeRange_1K {R : Type} (fin : Int × Int → Option R) (x0 : List Int) (x1 : Unit) (x2 : Int) (x3 : Int) (x4 : List DWanted) : Option R :=
  (impl_blendSums x4 x0).bind fun y1 =>
  cond (decide (x2 < 0))
  (fin (y1.2.1, if y1.2.1 > x3 then y1.2.1 else x3))
  (cond (decide (y1.2.1 < x2))
    (fin (y1.2.1, if y1.2.1 > x3 then y1.2.1 else x3))
    (fin (x2, if y1.2.1 > x3 then y1.2.1 else x3)))
def impl_GradeRange_1 (x0 : List Int) (x1 : Unit) (x2 : Int) (x3 : Int) (x4 : List DWanted) : Option (Int × Int) := impl_GradeRange_1K some x0 x1 x2 x3 x4
theorem p46 {R : Type} (fin : Int × Int → Option R) (x0 : List Int) (x1 : Unit) (x2 : Int) (x3 : Int) (x4 : List DWanted) : Par fin (impl_GradeRange_1K some x0 x1 x2 x3 x4) (impl_GradeRange_1K fin x0 x1 x2 x3 x4) := by
  unfold impl_GradeRange_1K
  repeat' (first | exact .fin | exact .none | refine .cond ?_ ?_ | refine .bind fun _ => ?_ | refine .sum (fun _ => ?_) fun _ => ?_)
def c46 : Callee := mkG [.one (.ro (.slice (.int .i64))), .rp [21], .box [.ro (.int .i64)], .box [.ro (.int .i64)], .one (.ro (.slice TWanted))] 0 [.box [.ro (.int .i64)], .box [.ro (.int .i64)]] [.cell 1 0] 21 fun x => impl_GradeRange_1 x.1 x.2.1 x.2.2.1 x.2.2.2.1 x.2.2.2.2
theorem e46 (x : PK.dens [.one (.ro (.slice (.int .i64))), .rp [21], .box [.ro (.int .i64)], .box [.ro (.int .i64)], .one (.ro (.slice TWanted))]) : evalFn Try.prog EL46 or0 Try.f46 (PK.outs [.one (.ro (.slice (.int .i64))), .rp [21], .box [.ro (.int .i64)], .box [.ro (.int .i64)], .one (.ro (.slice TWanted))] x) 1 =
    impl_GradeRange_1K (fun y => some (tupOf ((PK.outs [.box [.ro (.int .i64)], .box [.ro (.int .i64)]] y).take 0), (PK.outs [.box [.ro (.int .i64)], .box [.ro (.int .i64)]] y).drop 0)) x.1 x.2.1 x.2.2.1 x.2.2.2.1 x.2.2.2.2 := by kernel_rfl
theorem k46 : CalleeOk Try.prog 46 c46 := callee_mkG Try.func46 (code := codeOf Try.f46) (by kernel_rfl) vL46 mixed (LoOk.nil (by kernel_rfl)) (.inr rfl) fun x y h => (e46 x).trans (p46 _ x.1 x.2.1 x.2.2.1 x.2.2.2.1 x.2.2.2.2 y h)

/-- impl.eachParts$1 -/
def EL10050 : Nat → Option Callee := addE 46 c46 env0
theorem vL10050 : EnvOk Try.prog EL10050 := EnvOk.nil.add Try.func46 rfl (by kernel_rfl) k46
def simpl_eachParts_1_N1_l0 : LS := ⟨[(0, .one (.dat (.int .i64))), (1, .one (.dat (.int .i64))), (2, .one (.fix (.rptr [43] 0))), (4, .one (.fix (.rptr [45] 0))), (5, .one (.fix (.rptr [46] 0))), (8, .one (.dat (.int .i64))), (43, .one (.dat (.slice TWanted))), (44, .one (.fix (.cfn 46 [47, 49, 50]))), (45, .one (.fix (.sref 0))), (46, .one (.fix (.cfn 50 [51, 52, 53, 54]))), (47, .one (.fix (.rptr [48] 0))), (48, .one (.dat (.slice TWanted))), (49, .one (.fix (.ptr 1 0))), (50, .one (.fix (.ptr 2 0))), (51, .one (.fix (.rptr [43] 0))), (52, .one (.fix (.rptr [44] 0))), (53, .one (.fix (.rptr [45] 0))), (54, .one (.fix (.rptr [46] 0)))], [.sl (.int .i64), .box [.dat (.int .i64)], .box [.dat (.int .i64)]], [45, 49, 50]⟩
def simpl_eachParts_1_N1_l0x0 : LS := ⟨[(0, .one (.dat (.int .i64))), (4, .one (.fix (.rptr [45] 0))), (43, .one (.dat (.slice TWanted))), (44, .one (.fix (.cfn 46 [47, 49, 50]))), (45, .one (.fix (.sref 0))), (46, .one (.fix (.cfn 50 [51, 52, 53, 54]))), (47, .one (.fix (.rptr [48] 0))), (48, .one (.dat (.slice TWanted))), (49, .one (.fix (.ptr 1 0))), (50, .one (.fix (.ptr 2 0))), (51, .one (.fix (.rptr [43] 0))), (52, .one (.fix (.rptr [44] 0))), (53, .one (.fix (.rptr [45] 0))), (54, .one (.fix (.rptr [46] 0)))], [.sl (.int .i64), .box [.dat (.int .i64)], .box [.dat (.int .i64)]], [45, 49, 50]⟩
def ximpl_eachParts_1_N1_l0 : List (XS (Int × Int × (List DWanted) × (List DWanted))) := [⟨.exit 0, ⟨[0, 4, 43, 44, 45, 46, 47, 48, 49, 50, 51, 52, 53, 54], [.slot 45, .slot 49, .slot 50], [45, 49, 50], []⟩, simpl_eachParts_1_N1_l0x0, (List Int) × Int × Int, fun i y => ((i.1, ((), (i.2.2.1, ((), ((), ((), ((), (i.2.2.2, ((), ((), ((), ((), ((), ((), ())))))))))))))), (y.1, ((y.2.1, ()), ((y.2.2, ()), ()))))⟩]
def impl_eachParts_1_N1_l0K {R : Type} (slf : (Int × Int × Unit × Unit × Unit × Unit × (List DWanted) × Unit × (List Int) × Unit × Unit × (List DWanted) × Int × Int × Unit × Unit × Unit × Unit) → Option ((List Int) × Int × Int)) (a0 : Int) (a1 : Int) (a3 : List DWanted) (a4 : List DWanted) (rc : Int → List Int → Int → Int → Option R) (fin : (List Int) × Int × Int → Option R) (a2 : Int) (a5 : List Int) (a6 : Int) (a7 : Int) : Option R :=
  (lat a3 a0).bind fun e1 =>
  cond (decide (a2 ≤ (if e1.1 < a1 then e1.1 else a1)))
  (cond (decide ((0 : Int) ≤ a0) && decide (a0 < (a5.length : Int)))
    ((some (a5.set (0 + a0.toNat) a2)).bind fun v2 =>
      (slf (IntKind.i64.wrap (a0 + 1), (IntKind.i64.wrap (a1 - a2), ((), ((), ((), ((), (a3, ((), (v2, ((), ((), (a4, (a6, (a7, ((), ((), ((), ())))))))))))))))))).bind fun y3 =>
      rc (IntKind.i64.wrap (a2 + 1)) y3.1 y3.2.1 y3.2.2)
    (none))
  (fin (a5, (a6, a7)))
def impl_eachParts_1_N1_l0F (slf : (Int × Int × Unit × Unit × Unit × Unit × (List DWanted) × Unit × (List Int) × Unit × Unit × (List DWanted) × Int × Int × Unit × Unit × Unit × Unit) → Option ((List Int) × Int × Int)) (a0 : Int) (a1 : Int) (a3 : List DWanted) (a4 : List DWanted) (r : (Int × (List Int) × Int × Int) → Option ((List Int) × Int × Int)) (x : Int × (List Int) × Int × Int) : Option ((List Int) × Int × Int) := impl_eachParts_1_N1_l0K slf a0 a1 a3 a4 (fun a2 a5 a6 a7 => r (a2, (a5, (a6, a7)))) some x.1 x.2.1 x.2.2.1 x.2.2.2
theorem impl_eachParts_1_N1_l0c (slf : (Int × Int × Unit × Unit × Unit × Unit × (List DWanted) × Unit × (List Int) × Unit × Unit × (List DWanted) × Int × Int × Unit × Unit × Unit × Unit) → Option ((List Int) × Int × Int)) (a0 : Int) (a1 : Int) (a3 : List DWanted) (a4 : List DWanted) (x : Int × (List Int) × Int × Int) : Ct fun r => impl_eachParts_1_N1_l0F slf a0 a1 a3 a4 r x := by
  unfold impl_eachParts_1_N1_l0F impl_eachParts_1_N1_l0K
  repeat' (first | exact Ct.const | exact Ct.call | refine Ct.cond ?_ ?_ | refine Ct.bind ?_ fun _ => ?_ | refine Ct.sum (fun _ => ?_) fun _ => ?_)
theorem impl_eachParts_1_N1_l0d (a0 : Int) (a1 : Int) (a3 : List DWanted) (a4 : List DWanted) (D : (Int × (List Int) × Int × Int) → ((Int × Int × Unit × Unit × Unit × Unit × (List DWanted) × Unit × (List Int) × Unit × Unit × (List DWanted) × Int × Int × Unit × Unit × Unit × Unit) → Option ((List Int) × Int × Int)) → Option ((List Int) × Int × Int)) (hD : ∀ a, Ct (D a)) (x : Int × (List Int) × Int × Int) : Ct fun slf => impl_eachParts_1_N1_l0F slf a0 a1 a3 a4 (fun a => D a slf) x := by
  unfold impl_eachParts_1_N1_l0F impl_eachParts_1_N1_l0K
  repeat' (first | exact Ct.const | exact Ct.call | exact hD _ | refine Ct.cond ?_ ?_ | refine Ct.bind ?_ fun _ => ?_ | refine Ct.sum (fun _ => ?_) fun _ => ?_)
def impl_eachParts_1_N1_l0 (slf : (Int × Int × Unit × Unit × Unit × Unit × (List DWanted) × Unit × (List Int) × Unit × Unit × (List DWanted) × Int × Int × Unit × Unit × Unit × Unit) → Option ((List Int) × Int × Int)) (a0 : Int) (a1 : Int) (a3 : List DWanted) (a4 : List DWanted) (a2 : Int) (a5 : List Int) (a6 : Int) (a7 : Int) : Option ((List Int) × Int × Int) := lim (impl_eachParts_1_N1_l0F slf a0 a1 a3 a4) (a2, (a5, (a6, a7)))
theorem impl_eachParts_1_N1_l0_eq (slf : (Int × Int × Unit × Unit × Unit × Unit × (List DWanted) × Unit × (List Int) × Unit × Unit × (List DWanted) × Int × Int × Unit × Unit × Unit × Unit) → Option ((List Int) × Int × Int)) (a0 : Int) (a1 : Int) (a3 : List DWanted) (a4 : List DWanted) (a2 : Int) (a5 : List Int) (a6 : Int) (a7 : Int) : impl_eachParts_1_N1_l0 slf a0 a1 a3 a4 a2 a5 a6 a7 = impl_eachParts_1_N1_l0K slf a0 a1 a3 a4 (impl_eachParts_1_N1_l0 slf a0 a1 a3 a4) some a2 a5 a6 a7 := lim_eq (impl_eachParts_1_N1_l0c slf a0 a1 a3 a4) (a2, (a5, (a6, a7)))
theorem impl_eachParts_1_N1_l0s (a0 : Int) (a1 : Int) (a3 : List DWanted) (a4 : List DWanted) (x : Int × (List Int) × Int × Int) : Ct fun slf => lim (impl_eachParts_1_N1_l0F slf a0 a1 a3 a4) x := Ct.lim (fun slf a => impl_eachParts_1_N1_l0c slf a0 a1 a3 a4 a) (impl_eachParts_1_N1_l0d a0 a1 a3 a4) x
theorem impl_eachParts_1_N1_l0p {R : Type} (slf : (Int × Int × Unit × Unit × Unit × Unit × (List DWanted) × Unit × (List Int) × Unit × Unit × (List DWanted) × Int × Int × Unit × Unit × Unit × Unit) → Option ((List Int) × Int × Int)) (a0 : Int) (a1 : Int) (a3 : List DWanted) (a4 : List DWanted) {rc : Int → List Int → Int → Int → Option ((List Int) × Int × Int)} {rc' : Int → List Int → Int → Int → Option R} {fin : (List Int) × Int × Int → Option R} (hr : ∀ a2 a5 a6 a7, Par fin (rc a2 a5 a6 a7) (rc' a2 a5 a6 a7)) (a2 : Int) (a5 : List Int) (a6 : Int) (a7 : Int) : Par fin (impl_eachParts_1_N1_l0K slf a0 a1 a3 a4 rc some a2 a5 a6 a7) (impl_eachParts_1_N1_l0K slf a0 a1 a3 a4 rc' fin a2 a5 a6 a7) := by
  unfold impl_eachParts_1_N1_l0K
  repeat' (first | exact .fin | exact .none | exact hr _ _ _ _ | refine .cond ?_ ?_ | refine .bind fun _ => ?_ | refine .sum (fun _ => ?_) fun _ => ?_)
def Limpl_eachParts_1_N1_l0 (slf : (Int × Int × Unit × Unit × Unit × Unit × (List DWanted) × Unit × (List Int) × Unit × Unit × (List DWanted) × Int × Int × Unit × Unit × Unit × Unit) → Option ((List Int) × Int × Int)) : Loop := mkL ⟨[0, 1, 2, 4, 5, 8, 43, 44, 45, 46, 47, 48, 49, 50, 51, 52, 53, 54], [.slot 45, .slot 49, .slot 50], [45, 49, 50], []⟩ simpl_eachParts_1_N1_l0 ximpl_eachParts_1_N1_l0 (fun (x : (Int × Int × Unit × Unit × Unit × Int × (List DWanted) × Unit × Unit × Unit × Unit × (List DWanted) × Unit × Unit × Unit × Unit × Unit × Unit × Unit) × ((List Int) × (Int × Unit) × (Int × Unit) × Unit)) => (x.1.1, (x.1.2.1, (x.1.2.2.2.2.2.2.1, x.1.2.2.2.2.2.2.2.2.2.2.2.1)))) fun (x : (Int × Int × Unit × Unit × Unit × Int × (List DWanted) × Unit × Unit × Unit × Unit × (List DWanted) × Unit × Unit × Unit × Unit × Unit × Unit × Unit) × ((List Int) × (Int × Unit) × (Int × Unit) × Unit)) => impl_eachParts_1_N1_l0 slf x.1.1 x.1.2.1 x.1.2.2.2.2.2.2.1 x.1.2.2.2.2.2.2.2.2.2.2.2.1 x.1.2.2.2.2.2.1 x.2.1 x.2.2.1.1 x.2.2.2.1.1
def impl_eachParts_1_N1K {R : Type} (slf : (Int × Int × Unit × Unit × Unit × Unit × (List DWanted) × Unit × (List Int) × Unit × Unit × (List DWanted) × Int × Int × Unit × Unit × Unit × Unit) → Option ((List Int) × Int × Int)) (fin : (List Int) × Int × Int → Option R) (x0 : Int) (x1 : Int) (x2 : Unit) (x3 : Unit) (x4 : Unit) (x5 : Unit) (x6 : List DWanted) (x7 : Unit) (x8 : List Int) (x9 : Unit) (x10 : Unit) (x11 : List DWanted) (x12 : Int) (x13 : Int) (x14 : Unit) (x15 : Unit) (x16 : Unit) (x17 : Unit) : Option R :=
  cond (x0 == (x6.length : Int))
  (cond (x1 == 0)
    ((impl_GradeRange_1 x8 () x12 x13 x11).bind fun y1 =>
      fin (x8, y1))
    (fin (x8, (x12, x13))))
  ((impl_eachParts_1_N1_l0 slf x0 x1 x6 x11 0 x8 x12 x13).bind fun y5 =>
    cond (decide ((0 : Int) ≤ x0) && decide (x0 < (y5.1.length : Int)))
    ((some (y5.1.set (0 + x0.toNat) 0)).bind fun v6 =>
      fin (v6, y5.2))
    (none))
def impl_eachParts_1_N1F (slf : (Int × Int × Unit × Unit × Unit × Unit × (List DWanted) × Unit × (List Int) × Unit × Unit × (List DWanted) × Int × Int × Unit × Unit × Unit × Unit) → Option ((List Int) × Int × Int)) (x : Int × Int × Unit × Unit × Unit × Unit × (List DWanted) × Unit × (List Int) × Unit × Unit × (List DWanted) × Int × Int × Unit × Unit × Unit × Unit) : Option ((List Int) × Int × Int) := impl_eachParts_1_N1K slf some x.1 x.2.1 x.2.2.1 x.2.2.2.1 x.2.2.2.2.1 x.2.2.2.2.2.1 x.2.2.2.2.2.2.1 x.2.2.2.2.2.2.2.1 x.2.2.2.2.2.2.2.2.1 x.2.2.2.2.2.2.2.2.2.1 x.2.2.2.2.2.2.2.2.2.2.1 x.2.2.2.2.2.2.2.2.2.2.2.1 x.2.2.2.2.2.2.2.2.2.2.2.2.1 x.2.2.2.2.2.2.2.2.2.2.2.2.2.1 x.2.2.2.2.2.2.2.2.2.2.2.2.2.2.1 x.2.2.2.2.2.2.2.2.2.2.2.2.2.2.2.1 x.2.2.2.2.2.2.2.2.2.2.2.2.2.2.2.2.1 x.2.2.2.2.2.2.2.2.2.2.2.2.2.2.2.2.2
theorem impl_eachParts_1_N1c (x : Int × Int × Unit × Unit × Unit × Unit × (List DWanted) × Unit × (List Int) × Unit × Unit × (List DWanted) × Int × Int × Unit × Unit × Unit × Unit) : Ct fun slf => impl_eachParts_1_N1F slf x := by
  unfold impl_eachParts_1_N1F impl_eachParts_1_N1K
  repeat' (first | exact Ct.const | exact Ct.call | exact impl_eachParts_1_N1_l0s _ _ _ _ _ | refine Ct.cond ?_ ?_ | refine Ct.bind ?_ fun _ => ?_ | refine Ct.sum (fun _ => ?_) fun _ => ?_)
def impl_eachParts_1_N1 (x0 : Int) (x1 : Int) (x2 : Unit) (x3 : Unit) (x4 : Unit) (x5 : Unit) (x6 : List DWanted) (x7 : Unit) (x8 : List Int) (x9 : Unit) (x10 : Unit) (x11 : List DWanted) (x12 : Int) (x13 : Int) (x14 : Unit) (x15 : Unit) (x16 : Unit) (x17 : Unit) : Option ((List Int) × Int × Int) := lim impl_eachParts_1_N1F (x0, (x1, (x2, (x3, (x4, (x5, (x6, (x7, (x8, (x9, (x10, (x11, (x12, (x13, (x14, (x15, (x16, x17)))))))))))))))))
theorem impl_eachParts_1_N1_eq (x0 : Int) (x1 : Int) (x2 : Unit) (x3 : Unit) (x4 : Unit) (x5 : Unit) (x6 : List DWanted) (x7 : Unit) (x8 : List Int) (x9 : Unit) (x10 : Unit) (x11 : List DWanted) (x12 : Int) (x13 : Int) (x14 : Unit) (x15 : Unit) (x16 : Unit) (x17 : Unit) : impl_eachParts_1_N1 x0 x1 x2 x3 x4 x5 x6 x7 x8 x9 x10 x11 x12 x13 x14 x15 x16 x17 = impl_eachParts_1_N1K (fun x => impl_eachParts_1_N1 x.1 x.2.1 x.2.2.1 x.2.2.2.1 x.2.2.2.2.1 x.2.2.2.2.2.1 x.2.2.2.2.2.2.1 x.2.2.2.2.2.2.2.1 x.2.2.2.2.2.2.2.2.1 x.2.2.2.2.2.2.2.2.2.1 x.2.2.2.2.2.2.2.2.2.2.1 x.2.2.2.2.2.2.2.2.2.2.2.1 x.2.2.2.2.2.2.2.2.2.2.2.2.1 x.2.2.2.2.2.2.2.2.2.2.2.2.2.1 x.2.2.2.2.2.2.2.2.2.2.2.2.2.2.1 x.2.2.2.2.2.2.2.2.2.2.2.2.2.2.2.1 x.2.2.2.2.2.2.2.2.2.2.2.2.2.2.2.2.1 x.2.2.2.2.2.2.2.2.2.2.2.2.2.2.2.2.2) some x0 x1 x2 x3 x4 x5 x6 x7 x8 x9 x10 x11 x12 x13 x14 x15 x16 x17 := lim_eq impl_eachParts_1_N1c (x0, (x1, (x2, (x3, (x4, (x5, (x6, (x7, (x8, (x9, (x10, (x11, (x12, (x13, (x14, (x15, (x16, x17)))))))))))))))))
theorem p10050 {R : Type} (slf : (Int × Int × Unit × Unit × Unit × Unit × (List DWanted) × Unit × (List Int) × Unit × Unit × (List DWanted) × Int × Int × Unit × Unit × Unit × Unit) → Option ((List Int) × Int × Int)) (fin : (List Int) × Int × Int → Option R) (x0 : Int) (x1 : Int) (x2 : Unit) (x3 : Unit) (x4 : Unit) (x5 : Unit) (x6 : List DWanted) (x7 : Unit) (x8 : List Int) (x9 : Unit) (x10 : Unit) (x11 : List DWanted) (x12 : Int) (x13 : Int) (x14 : Unit) (x15 : Unit) (x16 : Unit) (x17 : Unit) : Par fin (impl_eachParts_1_N1K slf some x0 x1 x2 x3 x4 x5 x6 x7 x8 x9 x10 x11 x12 x13 x14 x15 x16 x17) (impl_eachParts_1_N1K slf fin x0 x1 x2 x3 x4 x5 x6 x7 x8 x9 x10 x11 x12 x13 x14 x15 x16 x17) := by
  unfold impl_eachParts_1_N1K
  repeat' (first | exact .fin | exact .none | refine .cond ?_ ?_ | refine .bind fun _ => ?_ | refine .sum (fun _ => ?_) fun _ => ?_)
def or10050 (slf : (Int × Int × Unit × Unit × Unit × Unit × (List DWanted) × Unit × (List Int) × Unit × Unit × (List DWanted) × Int × Int × Unit × Unit × Unit × Unit) → Option ((List Int) × Int × Int)) : Ora := { lo := addL 4 (Limpl_eachParts_1_N1_l0 slf) lo0, fin := [] }
theorem impl_eachParts_1_N1_l0e (slf : (Int × Int × Unit × Unit × Unit × Unit × (List DWanted) × Unit × (List Int) × Unit × Unit × (List DWanted) × Int × Int × Unit × Unit × Unit × Unit) → Option ((List Int) × Int × Int)) (a0 : Int) (a1 : Int) (a3 : List DWanted) (a4 : List DWanted) (k : Nat) (a2 : Int) (a5 : List Int) (a6 : Int) (a7 : Int) : loopC Try.prog (addE 50 (mkG [.one (.ro (.int .i64)), .one (.ro (.int .i64)), .rp [43], .rp [44], .rp [45], .rp [46], .one (.ro (.slice TWanted)), .cf 46 [47, 49, 50], .one (.sl (.int .i64)), .cf 50 [51, 52, 53, 54], .rp [48], .one (.ro (.slice TWanted)), .box [.ro (.int .i64)], .box [.ro (.int .i64)], .rp [43], .rp [44], .rp [45], .rp [46]] 0 [.one (.sl (.int .i64)), .box [.ro (.int .i64)], .box [.ro (.int .i64)]] [.cell 2 0, .cell 3 0, .cell 4 0, .cell 5 0, .cap 7 0, .cell 10 0, .cap 7 1, .cap 7 2, .cap 9 0, .cap 9 1, .cap 9 2, .cap 9 3] 43 slf) EL10050) (or10050 slf) ((loopsIn (codeOf Try.f50)).getD 0 .skip) (Limpl_eachParts_1_N1_l0 slf).h (Limpl_eachParts_1_N1_l0 slf).ho Try.f50.ntmps (k + 1) (simpl_eachParts_1_N1_l0.out ((a0, (a1, ((), ((), ((), (a2, (a3, ((), ((), ((), ((), (a4, ((), ((), ((), ((), ((), ((), ())))))))))))))))))), (a5, ((a6, ()), ((a7, ()), ()))))) =
    impl_eachParts_1_N1_l0K slf a0 a1 a3 a4 (fun a2 a5 a6 a7 => loopC Try.prog (addE 50 (mkG [.one (.ro (.int .i64)), .one (.ro (.int .i64)), .rp [43], .rp [44], .rp [45], .rp [46], .one (.ro (.slice TWanted)), .cf 46 [47, 49, 50], .one (.sl (.int .i64)), .cf 50 [51, 52, 53, 54], .rp [48], .one (.ro (.slice TWanted)), .box [.ro (.int .i64)], .box [.ro (.int .i64)], .rp [43], .rp [44], .rp [45], .rp [46]] 0 [.one (.sl (.int .i64)), .box [.ro (.int .i64)], .box [.ro (.int .i64)]] [.cell 2 0, .cell 3 0, .cell 4 0, .cell 5 0, .cap 7 0, .cell 10 0, .cap 7 1, .cap 7 2, .cap 9 0, .cap 9 1, .cap 9 2, .cap 9 3] 43 slf) EL10050) (or10050 slf) ((loopsIn (codeOf Try.f50)).getD 0 .skip) (Limpl_eachParts_1_N1_l0 slf).h (Limpl_eachParts_1_N1_l0 slf).ho Try.f50.ntmps k (simpl_eachParts_1_N1_l0.out ((a0, (a1, ((), ((), ((), (a2, (a3, ((), ((), ((), ((), (a4, ((), ((), ((), ((), ((), ((), ())))))))))))))))))), (a5, ((a6, ()), ((a7, ()), ())))))) (fun y => some (XS.out ximpl_eachParts_1_N1_l0 (a0, (a1, (a3, a4))) y)) a2 a5 a6 a7 := by kernel_rfl
theorem impl_eachParts_1_N1_l0o (slf : (Int × Int × Unit × Unit × Unit × Unit × (List DWanted) × Unit × (List Int) × Unit × Unit × (List DWanted) × Int × Int × Unit × Unit × Unit × Unit) → Option ((List Int) × Int × Int)) : LoopOk Try.prog (addE 50 (mkG [.one (.ro (.int .i64)), .one (.ro (.int .i64)), .rp [43], .rp [44], .rp [45], .rp [46], .one (.ro (.slice TWanted)), .cf 46 [47, 49, 50], .one (.sl (.int .i64)), .cf 50 [51, 52, 53, 54], .rp [48], .one (.ro (.slice TWanted)), .box [.ro (.int .i64)], .box [.ro (.int .i64)], .rp [43], .rp [44], .rp [45], .rp [46]] 0 [.one (.sl (.int .i64)), .box [.ro (.int .i64)], .box [.ro (.int .i64)]] [.cell 2 0, .cell 3 0, .cell 4 0, .cell 5 0, .cap 7 0, .cell 10 0, .cap 7 1, .cap 7 2, .cap 9 0, .cap 9 1, .cap 9 2, .cap 9 3] 43 slf) EL10050) (or10050 slf) Try.f50.ntmps ((loopsIn (codeOf Try.f50)).getD 0 .skip) (Limpl_eachParts_1_N1_l0 slf) :=
  loop_lim (hs := simpl_eachParts_1_N1_l0) (xs := ximpl_eachParts_1_N1_l0) (ι := fun (x : (Int × Int × Unit × Unit × Unit × Int × (List DWanted) × Unit × Unit × Unit × Unit × (List DWanted) × Unit × Unit × Unit × Unit × Unit × Unit × Unit) × ((List Int) × (Int × Unit) × (Int × Unit) × Unit)) => (x.1.1, (x.1.2.1, (x.1.2.2.2.2.2.2.1, x.1.2.2.2.2.2.2.2.2.2.2.2.1)))) (φ := fun (x : (Int × Int × Unit × Unit × Unit × Int × (List DWanted) × Unit × Unit × Unit × Unit × (List DWanted) × Unit × Unit × Unit × Unit × Unit × Unit × Unit) × ((List Int) × (Int × Unit) × (Int × Unit) × Unit)) => (x.1.2.2.2.2.2.1, (x.2.1, (x.2.2.1.1, x.2.2.2.1.1)))) (ψ := fun (i : Int × Int × (List DWanted) × (List DWanted)) (v : Int × (List Int) × Int × Int) => ((i.1, (i.2.1, ((), ((), ((), (v.1, (i.2.2.1, ((), ((), ((), ((), (i.2.2.2, ((), ((), ((), ((), ((), ((), ())))))))))))))))))), (v.2.1, ((v.2.2.1, ()), ((v.2.2.2, ()), ()))))) (F := fun (i : Int × Int × (List DWanted) × (List DWanted)) => impl_eachParts_1_N1_l0F slf i.1 i.2.1 i.2.2.1 i.2.2.2) (fun _ => rfl) fun i k hk v => Par.of_eq (impl_eachParts_1_N1_l0e slf i.1 i.2.1 i.2.2.1 i.2.2.2 k v.1 v.2.1 v.2.2.1 v.2.2.2) (impl_eachParts_1_N1_l0p slf i.1 i.2.1 i.2.2.1 i.2.2.2 (fun a2 a5 a6 a7 => hk (a2, (a5, (a6, a7)))) v.1 v.2.1 v.2.2.1 v.2.2.2)
def c10050 : Callee := mkG [.one (.ro (.int .i64)), .one (.ro (.int .i64)), .rp [43], .rp [44], .rp [45], .rp [46], .one (.ro (.slice TWanted)), .cf 46 [47, 49, 50], .one (.sl (.int .i64)), .cf 50 [51, 52, 53, 54], .rp [48], .one (.ro (.slice TWanted)), .box [.ro (.int .i64)], .box [.ro (.int .i64)], .rp [43], .rp [44], .rp [45], .rp [46]] 0 [.one (.sl (.int .i64)), .box [.ro (.int .i64)], .box [.ro (.int .i64)]] [.cell 2 0, .cell 3 0, .cell 4 0, .cell 5 0, .cap 7 0, .cell 10 0, .cap 7 1, .cap 7 2, .cap 9 0, .cap 9 1, .cap 9 2, .cap 9 3] 43 fun x => impl_eachParts_1_N1 x.1 x.2.1 x.2.2.1 x.2.2.2.1 x.2.2.2.2.1 x.2.2.2.2.2.1 x.2.2.2.2.2.2.1 x.2.2.2.2.2.2.2.1 x.2.2.2.2.2.2.2.2.1 x.2.2.2.2.2.2.2.2.2.1 x.2.2.2.2.2.2.2.2.2.2.1 x.2.2.2.2.2.2.2.2.2.2.2.1 x.2.2.2.2.2.2.2.2.2.2.2.2.1 x.2.2.2.2.2.2.2.2.2.2.2.2.2.1 x.2.2.2.2.2.2.2.2.2.2.2.2.2.2.1 x.2.2.2.2.2.2.2.2.2.2.2.2.2.2.2.1 x.2.2.2.2.2.2.2.2.2.2.2.2.2.2.2.2.1 x.2.2.2.2.2.2.2.2.2.2.2.2.2.2.2.2.2
theorem e10050 (slf : (Int × Int × Unit × Unit × Unit × Unit × (List DWanted) × Unit × (List Int) × Unit × Unit × (List DWanted) × Int × Int × Unit × Unit × Unit × Unit) → Option ((List Int) × Int × Int)) (x : PK.dens [.one (.ro (.int .i64)), .one (.ro (.int .i64)), .rp [43], .rp [44], .rp [45], .rp [46], .one (.ro (.slice TWanted)), .cf 46 [47, 49, 50], .one (.sl (.int .i64)), .cf 50 [51, 52, 53, 54], .rp [48], .one (.ro (.slice TWanted)), .box [.ro (.int .i64)], .box [.ro (.int .i64)], .rp [43], .rp [44], .rp [45], .rp [46]]) : evalFn Try.prog (addE 50 (mkG [.one (.ro (.int .i64)), .one (.ro (.int .i64)), .rp [43], .rp [44], .rp [45], .rp [46], .one (.ro (.slice TWanted)), .cf 46 [47, 49, 50], .one (.sl (.int .i64)), .cf 50 [51, 52, 53, 54], .rp [48], .one (.ro (.slice TWanted)), .box [.ro (.int .i64)], .box [.ro (.int .i64)], .rp [43], .rp [44], .rp [45], .rp [46]] 0 [.one (.sl (.int .i64)), .box [.ro (.int .i64)], .box [.ro (.int .i64)]] [.cell 2 0, .cell 3 0, .cell 4 0, .cell 5 0, .cap 7 0, .cell 10 0, .cap 7 1, .cap 7 2, .cap 9 0, .cap 9 1, .cap 9 2, .cap 9 3] 43 slf) EL10050) (or10050 slf) Try.f50 (PK.outs [.one (.ro (.int .i64)), .one (.ro (.int .i64)), .rp [43], .rp [44], .rp [45], .rp [46], .one (.ro (.slice TWanted)), .cf 46 [47, 49, 50], .one (.sl (.int .i64)), .cf 50 [51, 52, 53, 54], .rp [48], .one (.ro (.slice TWanted)), .box [.ro (.int .i64)], .box [.ro (.int .i64)], .rp [43], .rp [44], .rp [45], .rp [46]] x) 12 =
    impl_eachParts_1_N1K slf (fun y => some (tupOf ((PK.outs [.one (.sl (.int .i64)), .box [.ro (.int .i64)], .box [.ro (.int .i64)]] y).take 0), (PK.outs [.one (.sl (.int .i64)), .box [.ro (.int .i64)], .box [.ro (.int .i64)]] y).drop 0)) x.1 x.2.1 x.2.2.1 x.2.2.2.1 x.2.2.2.2.1 x.2.2.2.2.2.1 x.2.2.2.2.2.2.1 x.2.2.2.2.2.2.2.1 x.2.2.2.2.2.2.2.2.1 x.2.2.2.2.2.2.2.2.2.1 x.2.2.2.2.2.2.2.2.2.2.1 x.2.2.2.2.2.2.2.2.2.2.2.1 x.2.2.2.2.2.2.2.2.2.2.2.2.1 x.2.2.2.2.2.2.2.2.2.2.2.2.2.1 x.2.2.2.2.2.2.2.2.2.2.2.2.2.2.1 x.2.2.2.2.2.2.2.2.2.2.2.2.2.2.2.1 x.2.2.2.2.2.2.2.2.2.2.2.2.2.2.2.2.1 x.2.2.2.2.2.2.2.2.2.2.2.2.2.2.2.2.2 := by kernel_rfl
theorem o10050 (slf : (Int × Int × Unit × Unit × Unit × Unit × (List DWanted) × Unit × (List Int) × Unit × Unit × (List DWanted) × Int × Int × Unit × Unit × Unit × Unit) → Option ((List Int) × Int × Int)) : LoOk Try.prog (addE 50 (mkG [.one (.ro (.int .i64)), .one (.ro (.int .i64)), .rp [43], .rp [44], .rp [45], .rp [46], .one (.ro (.slice TWanted)), .cf 46 [47, 49, 50], .one (.sl (.int .i64)), .cf 50 [51, 52, 53, 54], .rp [48], .one (.ro (.slice TWanted)), .box [.ro (.int .i64)], .box [.ro (.int .i64)], .rp [43], .rp [44], .rp [45], .rp [46]] 0 [.one (.sl (.int .i64)), .box [.ro (.int .i64)], .box [.ro (.int .i64)]] [.cell 2 0, .cell 3 0, .cell 4 0, .cell 5 0, .cap 7 0, .cell 10 0, .cap 7 1, .cap 7 2, .cap 9 0, .cap 9 1, .cap 9 2, .cap 9 3] 43 slf) EL10050) (or10050 slf) Try.f50.ntmps (loopsIn (codeOf Try.f50)) :=
  LoOk.mk (m := 1) (by kernel_rfl) fun i hi => match i, hi with
    | 0, _ => ⟨Limpl_eachParts_1_N1_l0 slf, by kernel_rfl, impl_eachParts_1_N1_l0o slf⟩
    | i + 1, hi => absurd hi (by omega)
theorem k10050 : CalleeOk Try.prog 50 c10050 := callee_recG (ps := [.one (.ro (.int .i64)), .one (.ro (.int .i64)), .rp [43], .rp [44], .rp [45], .rp [46], .one (.ro (.slice TWanted)), .cf 46 [47, 49, 50], .one (.sl (.int .i64)), .cf 50 [51, 52, 53, 54], .rp [48], .one (.ro (.slice TWanted)), .box [.ro (.int .i64)], .box [.ro (.int .i64)], .rp [43], .rp [44], .rp [45], .rp [46]]) (rs := [.one (.sl (.int .i64)), .box [.ro (.int .i64)], .box [.ro (.int .i64)]]) (F := impl_eachParts_1_N1F) fun slf hs => callee_mkG Try.func50 (code := codeOf Try.f50) (by kernel_rfl) (vL10050.add Try.func50 rfl (by kernel_rfl) hs) mixed (o10050 slf) (.inr rfl) fun x y h => (e10050 slf x).trans (p10050 slf _ x.1 x.2.1 x.2.2.1 x.2.2.2.1 x.2.2.2.2.1 x.2.2.2.2.2.1 x.2.2.2.2.2.2.1 x.2.2.2.2.2.2.2.1 x.2.2.2.2.2.2.2.2.1 x.2.2.2.2.2.2.2.2.2.1 x.2.2.2.2.2.2.2.2.2.2.1 x.2.2.2.2.2.2.2.2.2.2.2.1 x.2.2.2.2.2.2.2.2.2.2.2.2.1 x.2.2.2.2.2.2.2.2.2.2.2.2.2.1 x.2.2.2.2.2.2.2.2.2.2.2.2.2.2.1 x.2.2.2.2.2.2.2.2.2.2.2.2.2.2.2.1 x.2.2.2.2.2.2.2.2.2.2.2.2.2.2.2.2.1 x.2.2.2.2.2.2.2.2.2.2.2.2.2.2.2.2.2 y h)

/-- impl.eachParts -/
def EL10044 : Nat → Option Callee := addE 50 c10050 env0
theorem vL10044 : EnvOk Try.prog EL10044 := EnvOk.nil.add Try.func50 rfl (by kernel_rfl) k10050
def impl_eachParts_N1K {R : Type} (fin : Int × Int → Option R) (x0 : List DWanted) (x1 : Int) (x2 : Unit) (x3 : Unit) (x4 : List DWanted) (x5 : Int) (x6 : Int) : Option R :=
  cond (decide ((0 : Int) ≤ (x0.length : Int)) && (decide ((x0.length : Int) ≤ (x0.length : Int)) && decide ((x0.length : Int) ≤ 1099511627776)))
  ((some ((List.replicate ((x0.length : Int).toNat) 0 : List Int))).bind fun v1 =>
    (impl_eachParts_1_N1 0 x1 () () () () x0 () v1 () () x4 x5 x6 () () () ()).bind fun y2 =>
    fin y2.2)
  (none)
def impl_eachParts_N1 (x0 : List DWanted) (x1 : Int) (x2 : Unit) (x3 : Unit) (x4 : List DWanted) (x5 : Int) (x6 : Int) : Option (Int × Int) := impl_eachParts_N1K some x0 x1 x2 x3 x4 x5 x6
theorem p10044 {R : Type} (fin : Int × Int → Option R) (x0 : List DWanted) (x1 : Int) (x2 : Unit) (x3 : Unit) (x4 : List DWanted) (x5 : Int) (x6 : Int) : Par fin (impl_eachParts_N1K some x0 x1 x2 x3 x4 x5 x6) (impl_eachParts_N1K fin x0 x1 x2 x3 x4 x5 x6) := by
  unfold impl_eachParts_N1K
  repeat' (first | exact .fin | exact .none | refine .cond ?_ ?_ | refine .bind fun _ => ?_ | refine .sum (fun _ => ?_) fun _ => ?_)
def c10044 : Callee := mkG [.one (.ro (.slice TWanted)), .one (.ro (.int .i64)), .cf 46 [15, 17, 18], .rp [16], .one (.ro (.slice TWanted)), .box [.ro (.int .i64)], .box [.ro (.int .i64)]] 0 [.box [.ro (.int .i64)], .box [.ro (.int .i64)]] [.cap 2 0, .cell 3 0, .cap 2 1, .cap 2 2] 15 fun x => impl_eachParts_N1 x.1 x.2.1 x.2.2.1 x.2.2.2.1 x.2.2.2.2.1 x.2.2.2.2.2.1 x.2.2.2.2.2.2
theorem e10044 (x : PK.dens [.one (.ro (.slice TWanted)), .one (.ro (.int .i64)), .cf 46 [15, 17, 18], .rp [16], .one (.ro (.slice TWanted)), .box [.ro (.int .i64)], .box [.ro (.int .i64)]]) : evalFn Try.prog EL10044 or0 Try.f44 (PK.outs [.one (.ro (.slice TWanted)), .one (.ro (.int .i64)), .cf 46 [15, 17, 18], .rp [16], .one (.ro (.slice TWanted)), .box [.ro (.int .i64)], .box [.ro (.int .i64)]] x) 4 =
    impl_eachParts_N1K (fun y => some (tupOf ((PK.outs [.box [.ro (.int .i64)], .box [.ro (.int .i64)]] y).take 0), (PK.outs [.box [.ro (.int .i64)], .box [.ro (.int .i64)]] y).drop 0)) x.1 x.2.1 x.2.2.1 x.2.2.2.1 x.2.2.2.2.1 x.2.2.2.2.2.1 x.2.2.2.2.2.2 := by kernel_rfl
theorem k10044 : CalleeOk Try.prog 44 c10044 := callee_mkG Try.func44 (code := codeOf Try.f44) (by kernel_rfl) vL10044 mixed (LoOk.nil (by kernel_rfl)) (.inr rfl) fun x y h => (e10044 x).trans (p10044 _ x.1 x.2.1 x.2.2.1 x.2.2.2.1 x.2.2.2.2.1 x.2.2.2.2.2.1 x.2.2.2.2.2.2 y h)

/-- impl.GradeRange -/
def EL29 : Nat → Option Callee := addE 44 c10044 (addE 18 c18 env0)
theorem vL29 : EnvOk Try.prog EL29 := (EnvOk.nil.add Try.func18 rfl (by kernel_rfl) k18).add Try.func44 rfl (by kernel_rfl) k10044
def impl_GradeRangeK {R : Type} (fin : Int × Int × Bool → Option R) (x0 : List DWanted) (x1 : Int) : Option R :=
  (impl_AreBins x0).bind fun y1 =>
  cond (!y1)
  (fin (0, (0, false)))
  (cond (decide (x1 < 0))
    (fin (0, (0, false)))
    (cond (decide (x1 > 12))
      (fin (0, (0, false)))
      ((impl_eachParts_N1 x0 x1 () () x0 (-1) (-1)).bind fun y2 =>
        cond (decide (y2.1 < 0))
        (fin (0, (0, false)))
        (fin (y2.1, (y2.2, true))))))
def impl_GradeRange (x0 : List DWanted) (x1 : Int) : Option (Int × Int × Bool) := impl_GradeRangeK some x0 x1
theorem p29 {R : Type} (fin : Int × Int × Bool → Option R) (x0 : List DWanted) (x1 : Int) : Par fin (impl_GradeRangeK some x0 x1) (impl_GradeRangeK fin x0 x1) := by
  unfold impl_GradeRangeK
  repeat' (first | exact .fin | exact .none | refine .cond ?_ ?_ | refine .bind fun _ => ?_ | refine .sum (fun _ => ?_) fun _ => ?_)
def c29 : Callee := mkC [.one (.ro (.slice TWanted)), .one (.ro (.int .i64))] 3 [.one (.ro (.int .i64)), .one (.ro (.int .i64)), .one (.ro .bool)] fun x => impl_GradeRange x.1 x.2
theorem e29 (x : PK.dens [.one (.ro (.slice TWanted)), .one (.ro (.int .i64))]) : evalFn Try.prog EL29 or0 Try.f29 (PK.outs [.one (.ro (.slice TWanted)), .one (.ro (.int .i64))] x) =
    impl_GradeRangeK (fun y => some (tupOf ((PK.outs [.one (.ro (.int .i64)), .one (.ro (.int .i64)), .one (.ro .bool)] y).take 3), (PK.outs [.one (.ro (.int .i64)), .one (.ro (.int .i64)), .one (.ro .bool)] y).drop 3)) x.1 x.2 := by kernel_rfl
theorem k29 : CalleeOk Try.prog 29 c29 := callee_mk Try.func29 (code := codeOf Try.f29) (by kernel_rfl) vL29 mixed (LoOk.nil (by kernel_rfl)) fun x y h => (e29 x).trans (p29 _ x.1 x.2 y h)

/-- laws.FnExactGradeRange -/
def EL9 : Nat → Option Callee := addE 19 c19 (addE 29 c29 (addE 28 c28 (addE 17 c17 (addE 15 c15 env0))))
theorem vL9 : EnvOk Try.prog EL9 := ((((EnvOk.nil.add Try.func15 rfl (by kernel_rfl) k15).add Try.func17 rfl (by kernel_rfl) k17).add Try.func28 rfl (by kernel_rfl) k28).add Try.func29 rfl (by kernel_rfl) k29).add Try.func19 rfl (by kernel_rfl) k19
def laws_FnExactGradeRangeK {R : Type} (fin : Bool → Option R) (x0 : List DWanted) (x1 : Int) : Option R :=
  (laws_szBinS x0 1048576).bind fun y1 =>
  cond (decide (y1 < 0))
  (fin true)
  ((laws_toBinS x0).bind fun y2 =>
    (spec_GradeRange y2 x1).bind fun y3 =>
    (laws_toBinS x0).bind fun y4 =>
    (impl_GradeRange y4 x1).bind fun y5 =>
    cond (y5.1 != y3.1)
    (fin false)
    (cond (y5.2.1 != y3.2.1)
      (fin false)
      (cond (!(y5.2.2 == y3.2.2))
        (fin false)
        ((laws_toBinS x0).bind fun y6 =>
          (laws_eqBinS y4 y6).bind fun y7 =>
          cond (!y7)
          (fin false)
          (fin true)))))
def laws_FnExactGradeRange (x0 : List DWanted) (x1 : Int) : Option (Bool) := laws_FnExactGradeRangeK some x0 x1
theorem p9 {R : Type} (fin : Bool → Option R) (x0 : List DWanted) (x1 : Int) : Par fin (laws_FnExactGradeRangeK some x0 x1) (laws_FnExactGradeRangeK fin x0 x1) := by
  unfold laws_FnExactGradeRangeK
  repeat' (first | exact .fin | exact .none | refine .cond ?_ ?_ | refine .bind fun _ => ?_ | refine .sum (fun _ => ?_) fun _ => ?_)
def c9 : Callee := mkC [.one (.ro (.slice TWanted)), .one (.ro (.int .i64))] 1 [.one (.ro .bool)] fun x => laws_FnExactGradeRange x.1 x.2
theorem e9 (x : PK.dens [.one (.ro (.slice TWanted)), .one (.ro (.int .i64))]) : evalFn Try.prog EL9 or0 Try.f9 (PK.outs [.one (.ro (.slice TWanted)), .one (.ro (.int .i64))] x) =
    laws_FnExactGradeRangeK (fun y => some (tupOf ((PK.outs [.one (.ro .bool)] y).take 1), (PK.outs [.one (.ro .bool)] y).drop 1)) x.1 x.2 := by kernel_rfl
theorem k9 : CalleeOk Try.prog 9 c9 := callee_mk Try.func9 (code := codeOf Try.f9) (by kernel_rfl) vL9 mixed (LoOk.nil (by kernel_rfl)) fun x y h => (e9 x).trans (p9 _ x.1 x.2 y h)
end
end Go.OAI
