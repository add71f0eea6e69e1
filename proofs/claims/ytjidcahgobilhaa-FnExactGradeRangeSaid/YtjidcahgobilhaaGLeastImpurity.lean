/- Contracts: GLeastImpurity. -/
import Derived.Test.YtjidcahgobilhaaGIsWanted
import Derived.Test.YtjidcahgobilhaaGAreBins
import Derived.Test.YtjidcahgobilhaaGBlendSums
import Derived.Test.YtjidcahgobilhaaGBe
namespace Go.OAI
open Go.Proofs
set_option linter.unusedVariables false
noncomputable section


/-- spec.blEdge -/
def EL43 : Nat → Option Callee := addE 38 c38 (addE 49 c49 env0)
theorem vL43 : EnvOk Try.prog EL43 := (EnvOk.nil.add Try.func49 rfl (by kernel_rfl) k49).add Try.func38 rfl (by kernel_rfl) k38
def sspec_blEdge_l0 : LS := ⟨[(0, .one (.dat (.slice TWanted))), (2, .one (.dat (.int .i64))), (9, .one (.dat (.int .i64))), (10, .one (.dat (.int .i64))), (11, .one (.dat .bool)), (17, .one (.fix (.sref 0))), (18, .one (.dat (.int .i64))), (19, .one (.dat (.int .i64)))], [.mat (.int .i64)], []⟩
def sspec_blEdge_l0x0 : LS := ⟨[(9, .one (.dat (.int .i64))), (10, .one (.dat (.int .i64))), (11, .one (.dat .bool))], [], []⟩
def xspec_blEdge_l0 : List (XS ((List DWanted) × Int × Int × (List (List Int)))) := [⟨.exit 0, ⟨[9, 10, 11], [], [], []⟩, sspec_blEdge_l0x0, Int × Int × Bool, fun i y => ((y.1, (y.2.1, (y.2.2, ()))), ())⟩]
def spec_blEdge_l0K {R : Type} (a0 : List DWanted) (a1 : Int) (a5 : Int) (a7 : List (List Int)) (rc : Int → Int → Bool → Int → Option R) (fin : Int × Int × Bool → Option R) (a2 : Int) (a3 : Int) (a4 : Bool) (a6 : Int) : Option R :=
  cond (decide (a6 < a5))
  (cond (decide ((0 : Int) ≤ a6) && decide (a6 < (a7.length : Int)))
    ((spec_blSums a0 (a7.getD (0 + a6.toNat) [])).bind fun y1 =>
      cond (decide ((0 : Int) ≤ a1) && decide (a1 < (y1.length : Int)))
      (cond (!a4)
        (cond (!a4)
          (rc (y1.getD (0 + a1.toNat) 0) (y1.getD (0 + a1.toNat) 0) true (IntKind.i64.wrap (a6 + 1)))
          (cond (decide ((y1.getD (0 + a1.toNat) 0) > a3))
            (rc (y1.getD (0 + a1.toNat) 0) (y1.getD (0 + a1.toNat) 0) true (IntKind.i64.wrap (a6 + 1)))
            (rc (y1.getD (0 + a1.toNat) 0) a3 true (IntKind.i64.wrap (a6 + 1)))))
        (cond (decide ((y1.getD (0 + a1.toNat) 0) < a2))
          (cond (!a4)
            (rc (y1.getD (0 + a1.toNat) 0) (y1.getD (0 + a1.toNat) 0) true (IntKind.i64.wrap (a6 + 1)))
            (cond (decide ((y1.getD (0 + a1.toNat) 0) > a3))
              (rc (y1.getD (0 + a1.toNat) 0) (y1.getD (0 + a1.toNat) 0) true (IntKind.i64.wrap (a6 + 1)))
              (rc (y1.getD (0 + a1.toNat) 0) a3 true (IntKind.i64.wrap (a6 + 1)))))
          (cond (!a4)
            (rc a2 (y1.getD (0 + a1.toNat) 0) true (IntKind.i64.wrap (a6 + 1)))
            (cond (decide ((y1.getD (0 + a1.toNat) 0) > a3))
              (rc a2 (y1.getD (0 + a1.toNat) 0) true (IntKind.i64.wrap (a6 + 1)))
              (rc a2 a3 true (IntKind.i64.wrap (a6 + 1)))))))
      (none))
    (none))
  (fin (a2, (a3, a4)))
def spec_blEdge_l0F (a0 : List DWanted) (a1 : Int) (a5 : Int) (a7 : List (List Int)) (r : (Int × Int × Bool × Int) → Option (Int × Int × Bool)) (x : Int × Int × Bool × Int) : Option (Int × Int × Bool) := spec_blEdge_l0K a0 a1 a5 a7 (fun a2 a3 a4 a6 => r (a2, (a3, (a4, a6)))) some x.1 x.2.1 x.2.2.1 x.2.2.2
theorem spec_blEdge_l0c (a0 : List DWanted) (a1 : Int) (a5 : Int) (a7 : List (List Int)) (x : Int × Int × Bool × Int) : Ct fun r => spec_blEdge_l0F a0 a1 a5 a7 r x := by
  unfold spec_blEdge_l0F spec_blEdge_l0K
  repeat' (first | exact Ct.const | exact Ct.call | refine Ct.cond ?_ ?_ | refine Ct.bind ?_ fun _ => ?_ | refine Ct.sum (fun _ => ?_) fun _ => ?_)
def spec_blEdge_l0 (a0 : List DWanted) (a1 : Int) (a5 : Int) (a7 : List (List Int)) (a2 : Int) (a3 : Int) (a4 : Bool) (a6 : Int) : Option (Int × Int × Bool) := lim (spec_blEdge_l0F a0 a1 a5 a7) (a2, (a3, (a4, a6)))
theorem spec_blEdge_l0_eq (a0 : List DWanted) (a1 : Int) (a5 : Int) (a7 : List (List Int)) (a2 : Int) (a3 : Int) (a4 : Bool) (a6 : Int) : spec_blEdge_l0 a0 a1 a5 a7 a2 a3 a4 a6 = spec_blEdge_l0K a0 a1 a5 a7 (spec_blEdge_l0 a0 a1 a5 a7) some a2 a3 a4 a6 := lim_eq (spec_blEdge_l0c a0 a1 a5 a7) (a2, (a3, (a4, a6)))
theorem spec_blEdge_l0p {R : Type} (a0 : List DWanted) (a1 : Int) (a5 : Int) (a7 : List (List Int)) {rc : Int → Int → Bool → Int → Option (Int × Int × Bool)} {rc' : Int → Int → Bool → Int → Option R} {fin : Int × Int × Bool → Option R} (hr : ∀ a2 a3 a4 a6, Par fin (rc a2 a3 a4 a6) (rc' a2 a3 a4 a6)) (a2 : Int) (a3 : Int) (a4 : Bool) (a6 : Int) : Par fin (spec_blEdge_l0K a0 a1 a5 a7 rc some a2 a3 a4 a6) (spec_blEdge_l0K a0 a1 a5 a7 rc' fin a2 a3 a4 a6) := by
  unfold spec_blEdge_l0K
  repeat' (first | exact .fin | exact .none | exact hr _ _ _ _ | refine .cond ?_ ?_ | refine .bind fun _ => ?_ | refine .sum (fun _ => ?_) fun _ => ?_)
def Lspec_blEdge_l0 : Loop := mkL ⟨[0, 2, 9, 10, 11, 17, 18, 19], [.slot 17], [], []⟩ sspec_blEdge_l0 xspec_blEdge_l0 (fun (x : ((List DWanted) × Int × Int × Int × Bool × Unit × Int × Int × Unit) × ((List (List Int)) × Unit)) => (x.1.1, (x.1.2.1, (x.1.2.2.2.2.2.2.1, x.2.1)))) fun (x : ((List DWanted) × Int × Int × Int × Bool × Unit × Int × Int × Unit) × ((List (List Int)) × Unit)) => spec_blEdge_l0 x.1.1 x.1.2.1 x.1.2.2.2.2.2.2.1 x.2.1 x.1.2.2.1 x.1.2.2.2.1 x.1.2.2.2.2.1 x.1.2.2.2.2.2.2.2.1
def spec_blEdgeK {R : Type} (fin : Int × Int × Bool → Option R) (x0 : List DWanted) (x1 : Int) (x2 : Int) : Option R :=
  (spec_blAll x0 x1).bind fun y1 =>
  (spec_blEdge_l0 x0 x2 (y1.length : Int) y1 0 0 false 0).bind fun y3 =>
  fin y3
def spec_blEdge (x0 : List DWanted) (x1 : Int) (x2 : Int) : Option (Int × Int × Bool) := spec_blEdgeK some x0 x1 x2
theorem p43 {R : Type} (fin : Int × Int × Bool → Option R) (x0 : List DWanted) (x1 : Int) (x2 : Int) : Par fin (spec_blEdgeK some x0 x1 x2) (spec_blEdgeK fin x0 x1 x2) := by
  unfold spec_blEdgeK
  repeat' (first | exact .fin | exact .none | refine .cond ?_ ?_ | refine .bind fun _ => ?_ | refine .sum (fun _ => ?_) fun _ => ?_)
def or43 : Ora := { lo := addL 3 (Lspec_blEdge_l0) lo0, fin := [] }
theorem spec_blEdge_l0e (a0 : List DWanted) (a1 : Int) (a5 : Int) (a7 : List (List Int)) (k : Nat) (a2 : Int) (a3 : Int) (a4 : Bool) (a6 : Int) : loopC Try.prog EL43 or43 ((loopsIn (codeOf Try.f43)).getD 0 .skip) (Lspec_blEdge_l0).h (Lspec_blEdge_l0).ho Try.f43.ntmps (k + 1) (sspec_blEdge_l0.out ((a0, (a1, (a2, (a3, (a4, ((), (a5, (a6, ())))))))), (a7, ()))) =
    spec_blEdge_l0K a0 a1 a5 a7 (fun a2 a3 a4 a6 => loopC Try.prog EL43 or43 ((loopsIn (codeOf Try.f43)).getD 0 .skip) (Lspec_blEdge_l0).h (Lspec_blEdge_l0).ho Try.f43.ntmps k (sspec_blEdge_l0.out ((a0, (a1, (a2, (a3, (a4, ((), (a5, (a6, ())))))))), (a7, ())))) (fun y => some (XS.out xspec_blEdge_l0 (a0, (a1, (a5, a7))) y)) a2 a3 a4 a6 := by kernel_rfl
theorem spec_blEdge_l0o : LoopOk Try.prog EL43 or43 Try.f43.ntmps ((loopsIn (codeOf Try.f43)).getD 0 .skip) (Lspec_blEdge_l0) :=
  loop_lim (hs := sspec_blEdge_l0) (xs := xspec_blEdge_l0) (ι := fun (x : ((List DWanted) × Int × Int × Int × Bool × Unit × Int × Int × Unit) × ((List (List Int)) × Unit)) => (x.1.1, (x.1.2.1, (x.1.2.2.2.2.2.2.1, x.2.1)))) (φ := fun (x : ((List DWanted) × Int × Int × Int × Bool × Unit × Int × Int × Unit) × ((List (List Int)) × Unit)) => (x.1.2.2.1, (x.1.2.2.2.1, (x.1.2.2.2.2.1, x.1.2.2.2.2.2.2.2.1)))) (ψ := fun (i : (List DWanted) × Int × Int × (List (List Int))) (v : Int × Int × Bool × Int) => ((i.1, (i.2.1, (v.1, (v.2.1, (v.2.2.1, ((), (i.2.2.1, (v.2.2.2, ())))))))), (i.2.2.2, ()))) (F := fun (i : (List DWanted) × Int × Int × (List (List Int))) => spec_blEdge_l0F i.1 i.2.1 i.2.2.1 i.2.2.2) (fun _ => rfl) fun i k hk v => Par.of_eq (spec_blEdge_l0e i.1 i.2.1 i.2.2.1 i.2.2.2 k v.1 v.2.1 v.2.2.1 v.2.2.2) (spec_blEdge_l0p i.1 i.2.1 i.2.2.1 i.2.2.2 (fun a2 a3 a4 a6 => hk (a2, (a3, (a4, a6)))) v.1 v.2.1 v.2.2.1 v.2.2.2)
def c43 : Callee := mkC [.one (.ro (.slice TWanted)), .one (.ro (.int .i64)), .one (.ro (.int .i64))] 3 [.one (.ro (.int .i64)), .one (.ro (.int .i64)), .one (.ro .bool)] fun x => spec_blEdge x.1 x.2.1 x.2.2
theorem e43 (x : PK.dens [.one (.ro (.slice TWanted)), .one (.ro (.int .i64)), .one (.ro (.int .i64))]) : evalFn Try.prog EL43 or43 Try.f43 (PK.outs [.one (.ro (.slice TWanted)), .one (.ro (.int .i64)), .one (.ro (.int .i64))] x) =
    spec_blEdgeK (fun y => some (tupOf ((PK.outs [.one (.ro (.int .i64)), .one (.ro (.int .i64)), .one (.ro .bool)] y).take 3), (PK.outs [.one (.ro (.int .i64)), .one (.ro (.int .i64)), .one (.ro .bool)] y).drop 3)) x.1 x.2.1 x.2.2 := by kernel_rfl
theorem o43 : LoOk Try.prog EL43 or43 Try.f43.ntmps (loopsIn (codeOf Try.f43)) :=
  LoOk.mk (m := 1) (by kernel_rfl) fun i hi => match i, hi with
    | 0, _ => ⟨Lspec_blEdge_l0, by kernel_rfl, spec_blEdge_l0o⟩
    | i + 1, hi => absurd hi (by omega)
theorem k43 : CalleeOk Try.prog 43 c43 := callee_mk Try.func43 (code := codeOf Try.f43) (by kernel_rfl) vL43 mixed o43 fun x y h => (e43 x).trans (p43 _ x.1 x.2.1 x.2.2 y h)

/-- spec.LeastImpurity -/
def EL26 : Nat → Option Callee := addE 43 c43 (addE 31 c31 (addE 34 c34 env0))
theorem vL26 : EnvOk Try.prog EL26 := ((EnvOk.nil.add Try.func34 rfl (by kernel_rfl) k34).add Try.func31 rfl (by kernel_rfl) k31).add Try.func43 rfl (by kernel_rfl) k43
def spec_LeastImpurityK {R : Type} (fin : Int × Bool → Option R) (x0 : List DWanted) (x1 : Int) : Option R :=
  (spec_blBins x0).bind fun y1 =>
  cond (!y1)
  (fin (0, false))
  ((spec_l1In x1 0 12).bind fun y2 =>
    cond (!y2)
    (fin (0, false))
    ((spec_blEdge x0 x1 2).bind fun y3 =>
      fin (y3.1, y3.2.2)))
def spec_LeastImpurity (x0 : List DWanted) (x1 : Int) : Option (Int × Bool) := spec_LeastImpurityK some x0 x1
theorem p26 {R : Type} (fin : Int × Bool → Option R) (x0 : List DWanted) (x1 : Int) : Par fin (spec_LeastImpurityK some x0 x1) (spec_LeastImpurityK fin x0 x1) := by
  unfold spec_LeastImpurityK
  repeat' (first | exact .fin | exact .none | refine .cond ?_ ?_ | refine .bind fun _ => ?_ | refine .sum (fun _ => ?_) fun _ => ?_)
def c26 : Callee := mkC [.one (.ro (.slice TWanted)), .one (.ro (.int .i64))] 2 [.one (.ro (.int .i64)), .one (.ro .bool)] fun x => spec_LeastImpurity x.1 x.2
theorem e26 (x : PK.dens [.one (.ro (.slice TWanted)), .one (.ro (.int .i64))]) : evalFn Try.prog EL26 or0 Try.f26 (PK.outs [.one (.ro (.slice TWanted)), .one (.ro (.int .i64))] x) =
    spec_LeastImpurityK (fun y => some (tupOf ((PK.outs [.one (.ro (.int .i64)), .one (.ro .bool)] y).take 2), (PK.outs [.one (.ro (.int .i64)), .one (.ro .bool)] y).drop 2)) x.1 x.2 := by kernel_rfl
theorem k26 : CalleeOk Try.prog 26 c26 := callee_mk Try.func26 (code := codeOf Try.f26) (by kernel_rfl) vL26 mixed (LoOk.nil (by kernel_rfl)) fun x y h => (e26 x).trans (p26 _ x.1 x.2 y h)

/-- impl.LeastImpurity$1 -/
def EL45 : Nat → Option Callee := addE 40 c40 env0
theorem vL45 : EnvOk Try.prog EL45 := EnvOk.nil.add Try.func40 rfl (by kernel_rfl) k40
def impl_LeastImpurity_1K {R : Type} (fin : Int → Option R) (x0 : List Int) (x1 : Unit) (x2 : Int) (x3 : List DWanted) : Option R :=
  (impl_blendSums x3 x0).bind fun y1 =>
  cond (decide (x2 < 0))
  (fin y1.2.2.1)
  (cond (decide (y1.2.2.1 < x2))
    (fin y1.2.2.1)
    (fin x2))
def impl_LeastImpurity_1 (x0 : List Int) (x1 : Unit) (x2 : Int) (x3 : List DWanted) : Option (Int) := impl_LeastImpurity_1K some x0 x1 x2 x3
theorem p45 {R : Type} (fin : Int → Option R) (x0 : List Int) (x1 : Unit) (x2 : Int) (x3 : List DWanted) : Par fin (impl_LeastImpurity_1K some x0 x1 x2 x3) (impl_LeastImpurity_1K fin x0 x1 x2 x3) := by
  unfold impl_LeastImpurity_1K
  repeat' (first | exact .fin | exact .none | refine .cond ?_ ?_ | refine .bind fun _ => ?_ | refine .sum (fun _ => ?_) fun _ => ?_)
def c45 : Callee := mkG [.one (.ro (.slice (.int .i64))), .rp [17], .box [.ro (.int .i64)], .one (.ro (.slice TWanted))] 0 [.box [.ro (.int .i64)]] [.cell 1 0] 17 fun x => impl_LeastImpurity_1 x.1 x.2.1 x.2.2.1 x.2.2.2
theorem e45 (x : PK.dens [.one (.ro (.slice (.int .i64))), .rp [17], .box [.ro (.int .i64)], .one (.ro (.slice TWanted))]) : evalFn Try.prog EL45 or0 Try.f45 (PK.outs [.one (.ro (.slice (.int .i64))), .rp [17], .box [.ro (.int .i64)], .one (.ro (.slice TWanted))] x) 1 =
    impl_LeastImpurity_1K (fun y => some (tupOf ((PK.outs [.box [.ro (.int .i64)]] y).take 0), (PK.outs [.box [.ro (.int .i64)]] y).drop 0)) x.1 x.2.1 x.2.2.1 x.2.2.2 := by kernel_rfl
theorem k45 : CalleeOk Try.prog 45 c45 := callee_mkG Try.func45 (code := codeOf Try.f45) (by kernel_rfl) vL45 mixed (LoOk.nil (by kernel_rfl)) (.inr rfl) fun x y h => (e45 x).trans (p45 _ x.1 x.2.1 x.2.2.1 x.2.2.2 y h)

/-- impl.eachParts$1 -/
def EL50 : Nat → Option Callee := addE 45 c45 env0
theorem vL50 : EnvOk Try.prog EL50 := EnvOk.nil.add Try.func45 rfl (by kernel_rfl) k45
def simpl_eachParts_1_l0 : LS := ⟨[(0, .one (.dat (.int .i64))), (1, .one (.dat (.int .i64))), (2, .one (.fix (.rptr [43] 0))), (4, .one (.fix (.rptr [45] 0))), (5, .one (.fix (.rptr [46] 0))), (8, .one (.dat (.int .i64))), (43, .one (.dat (.slice TWanted))), (44, .one (.fix (.cfn 45 [47, 49]))), (45, .one (.fix (.sref 0))), (46, .one (.fix (.cfn 50 [50, 51, 52, 53]))), (47, .one (.fix (.rptr [48] 0))), (48, .one (.dat (.slice TWanted))), (49, .one (.fix (.ptr 1 0))), (50, .one (.fix (.rptr [43] 0))), (51, .one (.fix (.rptr [44] 0))), (52, .one (.fix (.rptr [45] 0))), (53, .one (.fix (.rptr [46] 0)))], [.sl (.int .i64), .box [.dat (.int .i64)]], [45, 49]⟩
def simpl_eachParts_1_l0x0 : LS := ⟨[(0, .one (.dat (.int .i64))), (4, .one (.fix (.rptr [45] 0))), (43, .one (.dat (.slice TWanted))), (44, .one (.fix (.cfn 45 [47, 49]))), (45, .one (.fix (.sref 0))), (46, .one (.fix (.cfn 50 [50, 51, 52, 53]))), (47, .one (.fix (.rptr [48] 0))), (48, .one (.dat (.slice TWanted))), (49, .one (.fix (.ptr 1 0))), (50, .one (.fix (.rptr [43] 0))), (51, .one (.fix (.rptr [44] 0))), (52, .one (.fix (.rptr [45] 0))), (53, .one (.fix (.rptr [46] 0)))], [.sl (.int .i64), .box [.dat (.int .i64)]], [45, 49]⟩
def ximpl_eachParts_1_l0 : List (XS (Int × Int × (List DWanted) × (List DWanted))) := [⟨.exit 0, ⟨[0, 4, 43, 44, 45, 46, 47, 48, 49, 50, 51, 52, 53], [.slot 45, .slot 49], [45, 49], []⟩, simpl_eachParts_1_l0x0, (List Int) × Int, fun i y => ((i.1, ((), (i.2.2.1, ((), ((), ((), ((), (i.2.2.2, ((), ((), ((), ((), ((), ()))))))))))))), (y.1, ((y.2, ()), ())))⟩]
def impl_eachParts_1_l0K {R : Type} (slf : (Int × Int × Unit × Unit × Unit × Unit × (List DWanted) × Unit × (List Int) × Unit × Unit × (List DWanted) × Int × Unit × Unit × Unit × Unit) → Option ((List Int) × Int)) (a0 : Int) (a1 : Int) (a3 : List DWanted) (a4 : List DWanted) (rc : Int → List Int → Int → Option R) (fin : (List Int) × Int → Option R) (a2 : Int) (a5 : List Int) (a6 : Int) : Option R :=
  (lat a3 a0).bind fun e1 =>
  cond (decide (a2 ≤ (if e1.1 < a1 then e1.1 else a1)))
  (cond (decide ((0 : Int) ≤ a0) && decide (a0 < (a5.length : Int)))
    ((some (a5.set (0 + a0.toNat) a2)).bind fun v2 =>
      (slf (IntKind.i64.wrap (a0 + 1), (IntKind.i64.wrap (a1 - a2), ((), ((), ((), ((), (a3, ((), (v2, ((), ((), (a4, (a6, ((), ((), ((), ()))))))))))))))))).bind fun y3 =>
      rc (IntKind.i64.wrap (a2 + 1)) y3.1 y3.2)
    (none))
  (fin (a5, a6))
def impl_eachParts_1_l0F (slf : (Int × Int × Unit × Unit × Unit × Unit × (List DWanted) × Unit × (List Int) × Unit × Unit × (List DWanted) × Int × Unit × Unit × Unit × Unit) → Option ((List Int) × Int)) (a0 : Int) (a1 : Int) (a3 : List DWanted) (a4 : List DWanted) (r : (Int × (List Int) × Int) → Option ((List Int) × Int)) (x : Int × (List Int) × Int) : Option ((List Int) × Int) := impl_eachParts_1_l0K slf a0 a1 a3 a4 (fun a2 a5 a6 => r (a2, (a5, a6))) some x.1 x.2.1 x.2.2
theorem impl_eachParts_1_l0c (slf : (Int × Int × Unit × Unit × Unit × Unit × (List DWanted) × Unit × (List Int) × Unit × Unit × (List DWanted) × Int × Unit × Unit × Unit × Unit) → Option ((List Int) × Int)) (a0 : Int) (a1 : Int) (a3 : List DWanted) (a4 : List DWanted) (x : Int × (List Int) × Int) : Ct fun r => impl_eachParts_1_l0F slf a0 a1 a3 a4 r x := by
  unfold impl_eachParts_1_l0F impl_eachParts_1_l0K
  repeat' (first | exact Ct.const | exact Ct.call | refine Ct.cond ?_ ?_ | refine Ct.bind ?_ fun _ => ?_ | refine Ct.sum (fun _ => ?_) fun _ => ?_)
theorem impl_eachParts_1_l0d (a0 : Int) (a1 : Int) (a3 : List DWanted) (a4 : List DWanted) (D : (Int × (List Int) × Int) → ((Int × Int × Unit × Unit × Unit × Unit × (List DWanted) × Unit × (List Int) × Unit × Unit × (List DWanted) × Int × Unit × Unit × Unit × Unit) → Option ((List Int) × Int)) → Option ((List Int) × Int)) (hD : ∀ a, Ct (D a)) (x : Int × (List Int) × Int) : Ct fun slf => impl_eachParts_1_l0F slf a0 a1 a3 a4 (fun a => D a slf) x := by
  unfold impl_eachParts_1_l0F impl_eachParts_1_l0K
  repeat' (first | exact Ct.const | exact Ct.call | exact hD _ | refine Ct.cond ?_ ?_ | refine Ct.bind ?_ fun _ => ?_ | refine Ct.sum (fun _ => ?_) fun _ => ?_)
def impl_eachParts_1_l0 (slf : (Int × Int × Unit × Unit × Unit × Unit × (List DWanted) × Unit × (List Int) × Unit × Unit × (List DWanted) × Int × Unit × Unit × Unit × Unit) → Option ((List Int) × Int)) (a0 : Int) (a1 : Int) (a3 : List DWanted) (a4 : List DWanted) (a2 : Int) (a5 : List Int) (a6 : Int) : Option ((List Int) × Int) := lim (impl_eachParts_1_l0F slf a0 a1 a3 a4) (a2, (a5, a6))
theorem impl_eachParts_1_l0_eq (slf : (Int × Int × Unit × Unit × Unit × Unit × (List DWanted) × Unit × (List Int) × Unit × Unit × (List DWanted) × Int × Unit × Unit × Unit × Unit) → Option ((List Int) × Int)) (a0 : Int) (a1 : Int) (a3 : List DWanted) (a4 : List DWanted) (a2 : Int) (a5 : List Int) (a6 : Int) : impl_eachParts_1_l0 slf a0 a1 a3 a4 a2 a5 a6 = impl_eachParts_1_l0K slf a0 a1 a3 a4 (impl_eachParts_1_l0 slf a0 a1 a3 a4) some a2 a5 a6 := lim_eq (impl_eachParts_1_l0c slf a0 a1 a3 a4) (a2, (a5, a6))
theorem impl_eachParts_1_l0s (a0 : Int) (a1 : Int) (a3 : List DWanted) (a4 : List DWanted) (x : Int × (List Int) × Int) : Ct fun slf => lim (impl_eachParts_1_l0F slf a0 a1 a3 a4) x := Ct.lim (fun slf a => impl_eachParts_1_l0c slf a0 a1 a3 a4 a) (impl_eachParts_1_l0d a0 a1 a3 a4) x
theorem impl_eachParts_1_l0p {R : Type} (slf : (Int × Int × Unit × Unit × Unit × Unit × (List DWanted) × Unit × (List Int) × Unit × Unit × (List DWanted) × Int × Unit × Unit × Unit × Unit) → Option ((List Int) × Int)) (a0 : Int) (a1 : Int) (a3 : List DWanted) (a4 : List DWanted) {rc : Int → List Int → Int → Option ((List Int) × Int)} {rc' : Int → List Int → Int → Option R} {fin : (List Int) × Int → Option R} (hr : ∀ a2 a5 a6, Par fin (rc a2 a5 a6) (rc' a2 a5 a6)) (a2 : Int) (a5 : List Int) (a6 : Int) : Par fin (impl_eachParts_1_l0K slf a0 a1 a3 a4 rc some a2 a5 a6) (impl_eachParts_1_l0K slf a0 a1 a3 a4 rc' fin a2 a5 a6) := by
  unfold impl_eachParts_1_l0K
  repeat' (first | exact .fin | exact .none | exact hr _ _ _ | refine .cond ?_ ?_ | refine .bind fun _ => ?_ | refine .sum (fun _ => ?_) fun _ => ?_)
def Limpl_eachParts_1_l0 (slf : (Int × Int × Unit × Unit × Unit × Unit × (List DWanted) × Unit × (List Int) × Unit × Unit × (List DWanted) × Int × Unit × Unit × Unit × Unit) → Option ((List Int) × Int)) : Loop := mkL ⟨[0, 1, 2, 4, 5, 8, 43, 44, 45, 46, 47, 48, 49, 50, 51, 52, 53], [.slot 45, .slot 49], [45, 49], []⟩ simpl_eachParts_1_l0 ximpl_eachParts_1_l0 (fun (x : (Int × Int × Unit × Unit × Unit × Int × (List DWanted) × Unit × Unit × Unit × Unit × (List DWanted) × Unit × Unit × Unit × Unit × Unit × Unit) × ((List Int) × (Int × Unit) × Unit)) => (x.1.1, (x.1.2.1, (x.1.2.2.2.2.2.2.1, x.1.2.2.2.2.2.2.2.2.2.2.2.1)))) fun (x : (Int × Int × Unit × Unit × Unit × Int × (List DWanted) × Unit × Unit × Unit × Unit × (List DWanted) × Unit × Unit × Unit × Unit × Unit × Unit) × ((List Int) × (Int × Unit) × Unit)) => impl_eachParts_1_l0 slf x.1.1 x.1.2.1 x.1.2.2.2.2.2.2.1 x.1.2.2.2.2.2.2.2.2.2.2.2.1 x.1.2.2.2.2.2.1 x.2.1 x.2.2.1.1
def impl_eachParts_1K {R : Type} (slf : (Int × Int × Unit × Unit × Unit × Unit × (List DWanted) × Unit × (List Int) × Unit × Unit × (List DWanted) × Int × Unit × Unit × Unit × Unit) → Option ((List Int) × Int)) (fin : (List Int) × Int → Option R) (x0 : Int) (x1 : Int) (x2 : Unit) (x3 : Unit) (x4 : Unit) (x5 : Unit) (x6 : List DWanted) (x7 : Unit) (x8 : List Int) (x9 : Unit) (x10 : Unit) (x11 : List DWanted) (x12 : Int) (x13 : Unit) (x14 : Unit) (x15 : Unit) (x16 : Unit) : Option R :=
  cond (x0 == (x6.length : Int))
  (cond (x1 == 0)
    ((impl_LeastImpurity_1 x8 () x12 x11).bind fun y1 =>
      fin (x8, y1))
    (fin (x8, x12)))
  ((impl_eachParts_1_l0 slf x0 x1 x6 x11 0 x8 x12).bind fun y5 =>
    cond (decide ((0 : Int) ≤ x0) && decide (x0 < (y5.1.length : Int)))
    ((some (y5.1.set (0 + x0.toNat) 0)).bind fun v6 =>
      fin (v6, y5.2))
    (none))
def impl_eachParts_1F (slf : (Int × Int × Unit × Unit × Unit × Unit × (List DWanted) × Unit × (List Int) × Unit × Unit × (List DWanted) × Int × Unit × Unit × Unit × Unit) → Option ((List Int) × Int)) (x : Int × Int × Unit × Unit × Unit × Unit × (List DWanted) × Unit × (List Int) × Unit × Unit × (List DWanted) × Int × Unit × Unit × Unit × Unit) : Option ((List Int) × Int) := impl_eachParts_1K slf some x.1 x.2.1 x.2.2.1 x.2.2.2.1 x.2.2.2.2.1 x.2.2.2.2.2.1 x.2.2.2.2.2.2.1 x.2.2.2.2.2.2.2.1 x.2.2.2.2.2.2.2.2.1 x.2.2.2.2.2.2.2.2.2.1 x.2.2.2.2.2.2.2.2.2.2.1 x.2.2.2.2.2.2.2.2.2.2.2.1 x.2.2.2.2.2.2.2.2.2.2.2.2.1 x.2.2.2.2.2.2.2.2.2.2.2.2.2.1 x.2.2.2.2.2.2.2.2.2.2.2.2.2.2.1 x.2.2.2.2.2.2.2.2.2.2.2.2.2.2.2.1 x.2.2.2.2.2.2.2.2.2.2.2.2.2.2.2.2
theorem impl_eachParts_1c (x : Int × Int × Unit × Unit × Unit × Unit × (List DWanted) × Unit × (List Int) × Unit × Unit × (List DWanted) × Int × Unit × Unit × Unit × Unit) : Ct fun slf => impl_eachParts_1F slf x := by
  unfold impl_eachParts_1F impl_eachParts_1K
  repeat' (first | exact Ct.const | exact Ct.call | exact impl_eachParts_1_l0s _ _ _ _ _ | refine Ct.cond ?_ ?_ | refine Ct.bind ?_ fun _ => ?_ | refine Ct.sum (fun _ => ?_) fun _ => ?_)
def impl_eachParts_1 (x0 : Int) (x1 : Int) (x2 : Unit) (x3 : Unit) (x4 : Unit) (x5 : Unit) (x6 : List DWanted) (x7 : Unit) (x8 : List Int) (x9 : Unit) (x10 : Unit) (x11 : List DWanted) (x12 : Int) (x13 : Unit) (x14 : Unit) (x15 : Unit) (x16 : Unit) : Option ((List Int) × Int) := lim impl_eachParts_1F (x0, (x1, (x2, (x3, (x4, (x5, (x6, (x7, (x8, (x9, (x10, (x11, (x12, (x13, (x14, (x15, x16))))))))))))))))
theorem impl_eachParts_1_eq (x0 : Int) (x1 : Int) (x2 : Unit) (x3 : Unit) (x4 : Unit) (x5 : Unit) (x6 : List DWanted) (x7 : Unit) (x8 : List Int) (x9 : Unit) (x10 : Unit) (x11 : List DWanted) (x12 : Int) (x13 : Unit) (x14 : Unit) (x15 : Unit) (x16 : Unit) : impl_eachParts_1 x0 x1 x2 x3 x4 x5 x6 x7 x8 x9 x10 x11 x12 x13 x14 x15 x16 = impl_eachParts_1K (fun x => impl_eachParts_1 x.1 x.2.1 x.2.2.1 x.2.2.2.1 x.2.2.2.2.1 x.2.2.2.2.2.1 x.2.2.2.2.2.2.1 x.2.2.2.2.2.2.2.1 x.2.2.2.2.2.2.2.2.1 x.2.2.2.2.2.2.2.2.2.1 x.2.2.2.2.2.2.2.2.2.2.1 x.2.2.2.2.2.2.2.2.2.2.2.1 x.2.2.2.2.2.2.2.2.2.2.2.2.1 x.2.2.2.2.2.2.2.2.2.2.2.2.2.1 x.2.2.2.2.2.2.2.2.2.2.2.2.2.2.1 x.2.2.2.2.2.2.2.2.2.2.2.2.2.2.2.1 x.2.2.2.2.2.2.2.2.2.2.2.2.2.2.2.2) some x0 x1 x2 x3 x4 x5 x6 x7 x8 x9 x10 x11 x12 x13 x14 x15 x16 := lim_eq impl_eachParts_1c (x0, (x1, (x2, (x3, (x4, (x5, (x6, (x7, (x8, (x9, (x10, (x11, (x12, (x13, (x14, (x15, x16))))))))))))))))
theorem p50 {R : Type} (slf : (Int × Int × Unit × Unit × Unit × Unit × (List DWanted) × Unit × (List Int) × Unit × Unit × (List DWanted) × Int × Unit × Unit × Unit × Unit) → Option ((List Int) × Int)) (fin : (List Int) × Int → Option R) (x0 : Int) (x1 : Int) (x2 : Unit) (x3 : Unit) (x4 : Unit) (x5 : Unit) (x6 : List DWanted) (x7 : Unit) (x8 : List Int) (x9 : Unit) (x10 : Unit) (x11 : List DWanted) (x12 : Int) (x13 : Unit) (x14 : Unit) (x15 : Unit) (x16 : Unit) : Par fin (impl_eachParts_1K slf some x0 x1 x2 x3 x4 x5 x6 x7 x8 x9 x10 x11 x12 x13 x14 x15 x16) (impl_eachParts_1K slf fin x0 x1 x2 x3 x4 x5 x6 x7 x8 x9 x10 x11 x12 x13 x14 x15 x16) := by
  unfold impl_eachParts_1K
  repeat' (first | exact .fin | exact .none | refine .cond ?_ ?_ | refine .bind fun _ => ?_ | refine .sum (fun _ => ?_) fun _ => ?_)
def or50 (slf : (Int × Int × Unit × Unit × Unit × Unit × (List DWanted) × Unit × (List Int) × Unit × Unit × (List DWanted) × Int × Unit × Unit × Unit × Unit) → Option ((List Int) × Int)) : Ora := { lo := addL 4 (Limpl_eachParts_1_l0 slf) lo0, fin := [] }
theorem impl_eachParts_1_l0e (slf : (Int × Int × Unit × Unit × Unit × Unit × (List DWanted) × Unit × (List Int) × Unit × Unit × (List DWanted) × Int × Unit × Unit × Unit × Unit) → Option ((List Int) × Int)) (a0 : Int) (a1 : Int) (a3 : List DWanted) (a4 : List DWanted) (k : Nat) (a2 : Int) (a5 : List Int) (a6 : Int) : loopC Try.prog (addE 50 (mkG [.one (.ro (.int .i64)), .one (.ro (.int .i64)), .rp [43], .rp [44], .rp [45], .rp [46], .one (.ro (.slice TWanted)), .cf 45 [47, 49], .one (.sl (.int .i64)), .cf 50 [50, 51, 52, 53], .rp [48], .one (.ro (.slice TWanted)), .box [.ro (.int .i64)], .rp [43], .rp [44], .rp [45], .rp [46]] 0 [.one (.sl (.int .i64)), .box [.ro (.int .i64)]] [.cell 2 0, .cell 3 0, .cell 4 0, .cell 5 0, .cap 7 0, .cell 10 0, .cap 7 1, .cap 9 0, .cap 9 1, .cap 9 2, .cap 9 3] 43 slf) EL50) (or50 slf) ((loopsIn (codeOf Try.f50)).getD 0 .skip) (Limpl_eachParts_1_l0 slf).h (Limpl_eachParts_1_l0 slf).ho Try.f50.ntmps (k + 1) (simpl_eachParts_1_l0.out ((a0, (a1, ((), ((), ((), (a2, (a3, ((), ((), ((), ((), (a4, ((), ((), ((), ((), ((), ()))))))))))))))))), (a5, ((a6, ()), ())))) =
    impl_eachParts_1_l0K slf a0 a1 a3 a4 (fun a2 a5 a6 => loopC Try.prog (addE 50 (mkG [.one (.ro (.int .i64)), .one (.ro (.int .i64)), .rp [43], .rp [44], .rp [45], .rp [46], .one (.ro (.slice TWanted)), .cf 45 [47, 49], .one (.sl (.int .i64)), .cf 50 [50, 51, 52, 53], .rp [48], .one (.ro (.slice TWanted)), .box [.ro (.int .i64)], .rp [43], .rp [44], .rp [45], .rp [46]] 0 [.one (.sl (.int .i64)), .box [.ro (.int .i64)]] [.cell 2 0, .cell 3 0, .cell 4 0, .cell 5 0, .cap 7 0, .cell 10 0, .cap 7 1, .cap 9 0, .cap 9 1, .cap 9 2, .cap 9 3] 43 slf) EL50) (or50 slf) ((loopsIn (codeOf Try.f50)).getD 0 .skip) (Limpl_eachParts_1_l0 slf).h (Limpl_eachParts_1_l0 slf).ho Try.f50.ntmps k (simpl_eachParts_1_l0.out ((a0, (a1, ((), ((), ((), (a2, (a3, ((), ((), ((), ((), (a4, ((), ((), ((), ((), ((), ()))))))))))))))))), (a5, ((a6, ()), ()))))) (fun y => some (XS.out ximpl_eachParts_1_l0 (a0, (a1, (a3, a4))) y)) a2 a5 a6 := by kernel_rfl
theorem impl_eachParts_1_l0o (slf : (Int × Int × Unit × Unit × Unit × Unit × (List DWanted) × Unit × (List Int) × Unit × Unit × (List DWanted) × Int × Unit × Unit × Unit × Unit) → Option ((List Int) × Int)) : LoopOk Try.prog (addE 50 (mkG [.one (.ro (.int .i64)), .one (.ro (.int .i64)), .rp [43], .rp [44], .rp [45], .rp [46], .one (.ro (.slice TWanted)), .cf 45 [47, 49], .one (.sl (.int .i64)), .cf 50 [50, 51, 52, 53], .rp [48], .one (.ro (.slice TWanted)), .box [.ro (.int .i64)], .rp [43], .rp [44], .rp [45], .rp [46]] 0 [.one (.sl (.int .i64)), .box [.ro (.int .i64)]] [.cell 2 0, .cell 3 0, .cell 4 0, .cell 5 0, .cap 7 0, .cell 10 0, .cap 7 1, .cap 9 0, .cap 9 1, .cap 9 2, .cap 9 3] 43 slf) EL50) (or50 slf) Try.f50.ntmps ((loopsIn (codeOf Try.f50)).getD 0 .skip) (Limpl_eachParts_1_l0 slf) :=
  loop_lim (hs := simpl_eachParts_1_l0) (xs := ximpl_eachParts_1_l0) (ι := fun (x : (Int × Int × Unit × Unit × Unit × Int × (List DWanted) × Unit × Unit × Unit × Unit × (List DWanted) × Unit × Unit × Unit × Unit × Unit × Unit) × ((List Int) × (Int × Unit) × Unit)) => (x.1.1, (x.1.2.1, (x.1.2.2.2.2.2.2.1, x.1.2.2.2.2.2.2.2.2.2.2.2.1)))) (φ := fun (x : (Int × Int × Unit × Unit × Unit × Int × (List DWanted) × Unit × Unit × Unit × Unit × (List DWanted) × Unit × Unit × Unit × Unit × Unit × Unit) × ((List Int) × (Int × Unit) × Unit)) => (x.1.2.2.2.2.2.1, (x.2.1, x.2.2.1.1))) (ψ := fun (i : Int × Int × (List DWanted) × (List DWanted)) (v : Int × (List Int) × Int) => ((i.1, (i.2.1, ((), ((), ((), (v.1, (i.2.2.1, ((), ((), ((), ((), (i.2.2.2, ((), ((), ((), ((), ((), ()))))))))))))))))), (v.2.1, ((v.2.2, ()), ())))) (F := fun (i : Int × Int × (List DWanted) × (List DWanted)) => impl_eachParts_1_l0F slf i.1 i.2.1 i.2.2.1 i.2.2.2) (fun _ => rfl) fun i k hk v => Par.of_eq (impl_eachParts_1_l0e slf i.1 i.2.1 i.2.2.1 i.2.2.2 k v.1 v.2.1 v.2.2) (impl_eachParts_1_l0p slf i.1 i.2.1 i.2.2.1 i.2.2.2 (fun a2 a5 a6 => hk (a2, (a5, a6))) v.1 v.2.1 v.2.2)
def c50 : Callee := mkG [.one (.ro (.int .i64)), .one (.ro (.int .i64)), .rp [43], .rp [44], .rp [45], .rp [46], .one (.ro (.slice TWanted)), .cf 45 [47, 49], .one (.sl (.int .i64)), .cf 50 [50, 51, 52, 53], .rp [48], .one (.ro (.slice TWanted)), .box [.ro (.int .i64)], .rp [43], .rp [44], .rp [45], .rp [46]] 0 [.one (.sl (.int .i64)), .box [.ro (.int .i64)]] [.cell 2 0, .cell 3 0, .cell 4 0, .cell 5 0, .cap 7 0, .cell 10 0, .cap 7 1, .cap 9 0, .cap 9 1, .cap 9 2, .cap 9 3] 43 fun x => impl_eachParts_1 x.1 x.2.1 x.2.2.1 x.2.2.2.1 x.2.2.2.2.1 x.2.2.2.2.2.1 x.2.2.2.2.2.2.1 x.2.2.2.2.2.2.2.1 x.2.2.2.2.2.2.2.2.1 x.2.2.2.2.2.2.2.2.2.1 x.2.2.2.2.2.2.2.2.2.2.1 x.2.2.2.2.2.2.2.2.2.2.2.1 x.2.2.2.2.2.2.2.2.2.2.2.2.1 x.2.2.2.2.2.2.2.2.2.2.2.2.2.1 x.2.2.2.2.2.2.2.2.2.2.2.2.2.2.1 x.2.2.2.2.2.2.2.2.2.2.2.2.2.2.2.1 x.2.2.2.2.2.2.2.2.2.2.2.2.2.2.2.2
theorem e50 (slf : (Int × Int × Unit × Unit × Unit × Unit × (List DWanted) × Unit × (List Int) × Unit × Unit × (List DWanted) × Int × Unit × Unit × Unit × Unit) → Option ((List Int) × Int)) (x : PK.dens [.one (.ro (.int .i64)), .one (.ro (.int .i64)), .rp [43], .rp [44], .rp [45], .rp [46], .one (.ro (.slice TWanted)), .cf 45 [47, 49], .one (.sl (.int .i64)), .cf 50 [50, 51, 52, 53], .rp [48], .one (.ro (.slice TWanted)), .box [.ro (.int .i64)], .rp [43], .rp [44], .rp [45], .rp [46]]) : evalFn Try.prog (addE 50 (mkG [.one (.ro (.int .i64)), .one (.ro (.int .i64)), .rp [43], .rp [44], .rp [45], .rp [46], .one (.ro (.slice TWanted)), .cf 45 [47, 49], .one (.sl (.int .i64)), .cf 50 [50, 51, 52, 53], .rp [48], .one (.ro (.slice TWanted)), .box [.ro (.int .i64)], .rp [43], .rp [44], .rp [45], .rp [46]] 0 [.one (.sl (.int .i64)), .box [.ro (.int .i64)]] [.cell 2 0, .cell 3 0, .cell 4 0, .cell 5 0, .cap 7 0, .cell 10 0, .cap 7 1, .cap 9 0, .cap 9 1, .cap 9 2, .cap 9 3] 43 slf) EL50) (or50 slf) Try.f50 (PK.outs [.one (.ro (.int .i64)), .one (.ro (.int .i64)), .rp [43], .rp [44], .rp [45], .rp [46], .one (.ro (.slice TWanted)), .cf 45 [47, 49], .one (.sl (.int .i64)), .cf 50 [50, 51, 52, 53], .rp [48], .one (.ro (.slice TWanted)), .box [.ro (.int .i64)], .rp [43], .rp [44], .rp [45], .rp [46]] x) 11 =
    impl_eachParts_1K slf (fun y => some (tupOf ((PK.outs [.one (.sl (.int .i64)), .box [.ro (.int .i64)]] y).take 0), (PK.outs [.one (.sl (.int .i64)), .box [.ro (.int .i64)]] y).drop 0)) x.1 x.2.1 x.2.2.1 x.2.2.2.1 x.2.2.2.2.1 x.2.2.2.2.2.1 x.2.2.2.2.2.2.1 x.2.2.2.2.2.2.2.1 x.2.2.2.2.2.2.2.2.1 x.2.2.2.2.2.2.2.2.2.1 x.2.2.2.2.2.2.2.2.2.2.1 x.2.2.2.2.2.2.2.2.2.2.2.1 x.2.2.2.2.2.2.2.2.2.2.2.2.1 x.2.2.2.2.2.2.2.2.2.2.2.2.2.1 x.2.2.2.2.2.2.2.2.2.2.2.2.2.2.1 x.2.2.2.2.2.2.2.2.2.2.2.2.2.2.2.1 x.2.2.2.2.2.2.2.2.2.2.2.2.2.2.2.2 := by kernel_rfl
theorem o50 (slf : (Int × Int × Unit × Unit × Unit × Unit × (List DWanted) × Unit × (List Int) × Unit × Unit × (List DWanted) × Int × Unit × Unit × Unit × Unit) → Option ((List Int) × Int)) : LoOk Try.prog (addE 50 (mkG [.one (.ro (.int .i64)), .one (.ro (.int .i64)), .rp [43], .rp [44], .rp [45], .rp [46], .one (.ro (.slice TWanted)), .cf 45 [47, 49], .one (.sl (.int .i64)), .cf 50 [50, 51, 52, 53], .rp [48], .one (.ro (.slice TWanted)), .box [.ro (.int .i64)], .rp [43], .rp [44], .rp [45], .rp [46]] 0 [.one (.sl (.int .i64)), .box [.ro (.int .i64)]] [.cell 2 0, .cell 3 0, .cell 4 0, .cell 5 0, .cap 7 0, .cell 10 0, .cap 7 1, .cap 9 0, .cap 9 1, .cap 9 2, .cap 9 3] 43 slf) EL50) (or50 slf) Try.f50.ntmps (loopsIn (codeOf Try.f50)) :=
  LoOk.mk (m := 1) (by kernel_rfl) fun i hi => match i, hi with
    | 0, _ => ⟨Limpl_eachParts_1_l0 slf, by kernel_rfl, impl_eachParts_1_l0o slf⟩
    | i + 1, hi => absurd hi (by omega)
theorem k50 : CalleeOk Try.prog 50 c50 := callee_recG (ps := [.one (.ro (.int .i64)), .one (.ro (.int .i64)), .rp [43], .rp [44], .rp [45], .rp [46], .one (.ro (.slice TWanted)), .cf 45 [47, 49], .one (.sl (.int .i64)), .cf 50 [50, 51, 52, 53], .rp [48], .one (.ro (.slice TWanted)), .box [.ro (.int .i64)], .rp [43], .rp [44], .rp [45], .rp [46]]) (rs := [.one (.sl (.int .i64)), .box [.ro (.int .i64)]]) (F := impl_eachParts_1F) fun slf hs => callee_mkG Try.func50 (code := codeOf Try.f50) (by kernel_rfl) (vL50.add Try.func50 rfl (by kernel_rfl) hs) mixed (o50 slf) (.inr rfl) fun x y h => (e50 slf x).trans (p50 slf _ x.1 x.2.1 x.2.2.1 x.2.2.2.1 x.2.2.2.2.1 x.2.2.2.2.2.1 x.2.2.2.2.2.2.1 x.2.2.2.2.2.2.2.1 x.2.2.2.2.2.2.2.2.1 x.2.2.2.2.2.2.2.2.2.1 x.2.2.2.2.2.2.2.2.2.2.1 x.2.2.2.2.2.2.2.2.2.2.2.1 x.2.2.2.2.2.2.2.2.2.2.2.2.1 x.2.2.2.2.2.2.2.2.2.2.2.2.2.1 x.2.2.2.2.2.2.2.2.2.2.2.2.2.2.1 x.2.2.2.2.2.2.2.2.2.2.2.2.2.2.2.1 x.2.2.2.2.2.2.2.2.2.2.2.2.2.2.2.2 y h)

/-- impl.eachParts -/
def EL44 : Nat → Option Callee := addE 50 c50 env0
theorem vL44 : EnvOk Try.prog EL44 := EnvOk.nil.add Try.func50 rfl (by kernel_rfl) k50
def impl_eachPartsK {R : Type} (fin : Int → Option R) (x0 : List DWanted) (x1 : Int) (x2 : Unit) (x3 : Unit) (x4 : List DWanted) (x5 : Int) : Option R :=
  cond (decide ((0 : Int) ≤ (x0.length : Int)) && (decide ((x0.length : Int) ≤ (x0.length : Int)) && decide ((x0.length : Int) ≤ 1099511627776)))
  ((some ((List.replicate ((x0.length : Int).toNat) 0 : List Int))).bind fun v1 =>
    (impl_eachParts_1 0 x1 () () () () x0 () v1 () () x4 x5 () () () ()).bind fun y2 =>
    fin y2.2)
  (none)
def impl_eachParts (x0 : List DWanted) (x1 : Int) (x2 : Unit) (x3 : Unit) (x4 : List DWanted) (x5 : Int) : Option (Int) := impl_eachPartsK some x0 x1 x2 x3 x4 x5
theorem p44 {R : Type} (fin : Int → Option R) (x0 : List DWanted) (x1 : Int) (x2 : Unit) (x3 : Unit) (x4 : List DWanted) (x5 : Int) : Par fin (impl_eachPartsK some x0 x1 x2 x3 x4 x5) (impl_eachPartsK fin x0 x1 x2 x3 x4 x5) := by
  unfold impl_eachPartsK
  repeat' (first | exact .fin | exact .none | refine .cond ?_ ?_ | refine .bind fun _ => ?_ | refine .sum (fun _ => ?_) fun _ => ?_)
def c44 : Callee := mkG [.one (.ro (.slice TWanted)), .one (.ro (.int .i64)), .cf 45 [15, 17], .rp [16], .one (.ro (.slice TWanted)), .box [.ro (.int .i64)]] 0 [.box [.ro (.int .i64)]] [.cap 2 0, .cell 3 0, .cap 2 1] 15 fun x => impl_eachParts x.1 x.2.1 x.2.2.1 x.2.2.2.1 x.2.2.2.2.1 x.2.2.2.2.2
theorem e44 (x : PK.dens [.one (.ro (.slice TWanted)), .one (.ro (.int .i64)), .cf 45 [15, 17], .rp [16], .one (.ro (.slice TWanted)), .box [.ro (.int .i64)]]) : evalFn Try.prog EL44 or0 Try.f44 (PK.outs [.one (.ro (.slice TWanted)), .one (.ro (.int .i64)), .cf 45 [15, 17], .rp [16], .one (.ro (.slice TWanted)), .box [.ro (.int .i64)]] x) 3 =
    impl_eachPartsK (fun y => some (tupOf ((PK.outs [.box [.ro (.int .i64)]] y).take 0), (PK.outs [.box [.ro (.int .i64)]] y).drop 0)) x.1 x.2.1 x.2.2.1 x.2.2.2.1 x.2.2.2.2.1 x.2.2.2.2.2 := by kernel_rfl
theorem k44 : CalleeOk Try.prog 44 c44 := callee_mkG Try.func44 (code := codeOf Try.f44) (by kernel_rfl) vL44 mixed (LoOk.nil (by kernel_rfl)) (.inr rfl) fun x y h => (e44 x).trans (p44 _ x.1 x.2.1 x.2.2.1 x.2.2.2.1 x.2.2.2.2.1 x.2.2.2.2.2 y h)

/-- impl.LeastImpurity -/
def EL27 : Nat → Option Callee := addE 44 c44 (addE 18 c18 env0)
theorem vL27 : EnvOk Try.prog EL27 := (EnvOk.nil.add Try.func18 rfl (by kernel_rfl) k18).add Try.func44 rfl (by kernel_rfl) k44
def impl_LeastImpurityK {R : Type} (fin : Int × Bool → Option R) (x0 : List DWanted) (x1 : Int) : Option R :=
  (impl_AreBins x0).bind fun y1 =>
  cond (!y1)
  (fin (0, false))
  (cond (decide (x1 < 0))
    (fin (0, false))
    (cond (decide (x1 > 12))
      (fin (0, false))
      ((impl_eachParts x0 x1 () () x0 (-1)).bind fun y2 =>
        cond (decide (y2 < 0))
        (fin (0, false))
        (fin (y2, true)))))
def impl_LeastImpurity (x0 : List DWanted) (x1 : Int) : Option (Int × Bool) := impl_LeastImpurityK some x0 x1
theorem p27 {R : Type} (fin : Int × Bool → Option R) (x0 : List DWanted) (x1 : Int) : Par fin (impl_LeastImpurityK some x0 x1) (impl_LeastImpurityK fin x0 x1) := by
  unfold impl_LeastImpurityK
  repeat' (first | exact .fin | exact .none | refine .cond ?_ ?_ | refine .bind fun _ => ?_ | refine .sum (fun _ => ?_) fun _ => ?_)
def c27 : Callee := mkC [.one (.ro (.slice TWanted)), .one (.ro (.int .i64))] 2 [.one (.ro (.int .i64)), .one (.ro .bool)] fun x => impl_LeastImpurity x.1 x.2
theorem e27 (x : PK.dens [.one (.ro (.slice TWanted)), .one (.ro (.int .i64))]) : evalFn Try.prog EL27 or0 Try.f27 (PK.outs [.one (.ro (.slice TWanted)), .one (.ro (.int .i64))] x) =
    impl_LeastImpurityK (fun y => some (tupOf ((PK.outs [.one (.ro (.int .i64)), .one (.ro .bool)] y).take 2), (PK.outs [.one (.ro (.int .i64)), .one (.ro .bool)] y).drop 2)) x.1 x.2 := by kernel_rfl
theorem k27 : CalleeOk Try.prog 27 c27 := callee_mk Try.func27 (code := codeOf Try.f27) (by kernel_rfl) vL27 mixed (LoOk.nil (by kernel_rfl)) fun x y h => (e27 x).trans (p27 _ x.1 x.2 y h)

/-- laws.FnExactLeastImpurity -/
def EL8 : Nat → Option Callee := addE 19 c19 (addE 27 c27 (addE 26 c26 (addE 17 c17 (addE 15 c15 env0))))
theorem vL8 : EnvOk Try.prog EL8 := ((((EnvOk.nil.add Try.func15 rfl (by kernel_rfl) k15).add Try.func17 rfl (by kernel_rfl) k17).add Try.func26 rfl (by kernel_rfl) k26).add Try.func27 rfl (by kernel_rfl) k27).add Try.func19 rfl (by kernel_rfl) k19
def laws_FnExactLeastImpurityK {R : Type} (fin : Bool → Option R) (x0 : List DWanted) (x1 : Int) : Option R :=
  (laws_szBinS x0 1048576).bind fun y1 =>
  cond (decide (y1 < 0))
  (fin true)
  ((laws_toBinS x0).bind fun y2 =>
    (spec_LeastImpurity y2 x1).bind fun y3 =>
    (laws_toBinS x0).bind fun y4 =>
    (impl_LeastImpurity y4 x1).bind fun y5 =>
    cond (y5.1 != y3.1)
    (fin false)
    (cond (!(y5.2 == y3.2))
      (fin false)
      ((laws_toBinS x0).bind fun y6 =>
        (laws_eqBinS y4 y6).bind fun y7 =>
        cond (!y7)
        (fin false)
        (fin true))))
def laws_FnExactLeastImpurity (x0 : List DWanted) (x1 : Int) : Option (Bool) := laws_FnExactLeastImpurityK some x0 x1
theorem p8 {R : Type} (fin : Bool → Option R) (x0 : List DWanted) (x1 : Int) : Par fin (laws_FnExactLeastImpurityK some x0 x1) (laws_FnExactLeastImpurityK fin x0 x1) := by
  unfold laws_FnExactLeastImpurityK
  repeat' (first | exact .fin | exact .none | refine .cond ?_ ?_ | refine .bind fun _ => ?_ | refine .sum (fun _ => ?_) fun _ => ?_)
def c8 : Callee := mkC [.one (.ro (.slice TWanted)), .one (.ro (.int .i64))] 1 [.one (.ro .bool)] fun x => laws_FnExactLeastImpurity x.1 x.2
theorem e8 (x : PK.dens [.one (.ro (.slice TWanted)), .one (.ro (.int .i64))]) : evalFn Try.prog EL8 or0 Try.f8 (PK.outs [.one (.ro (.slice TWanted)), .one (.ro (.int .i64))] x) =
    laws_FnExactLeastImpurityK (fun y => some (tupOf ((PK.outs [.one (.ro .bool)] y).take 1), (PK.outs [.one (.ro .bool)] y).drop 1)) x.1 x.2 := by kernel_rfl
theorem k8 : CalleeOk Try.prog 8 c8 := callee_mk Try.func8 (code := codeOf Try.f8) (by kernel_rfl) vL8 mixed (LoOk.nil (by kernel_rfl)) fun x y h => (e8 x).trans (p8 _ x.1 x.2 y h)
end
end Go.OAI
