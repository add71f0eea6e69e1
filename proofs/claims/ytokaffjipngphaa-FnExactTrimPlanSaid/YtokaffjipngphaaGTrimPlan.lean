/- Contracts: GTrimPlan. -/
import Derived.Test.YtokaffjipngphaaGA
import Derived.Test.YtokaffjipngphaaGF
import Derived.Test.YtokaffjipngphaaGFl
import Derived.Test.YtokaffjipngphaaGPa
import Derived.Test.YtokaffjipngphaaGWorthBound
namespace Go.OAI
open Go.Proofs
set_option linter.unusedVariables false
noncomputable section


/-- spec.wiGood -/
def EL74 : Nat → Option Callee := addE 69 c69 (addE 106 c106 env0)
theorem vL74 : EnvOk Try.prog EL74 := (EnvOk.nil.add Try.func106 rfl (by kernel_rfl) k106).add Try.func69 rfl (by kernel_rfl) k69
def spec_wiGoodK {R : Type} (fin : Bool → Option R) (x0 : DJob) (x1 : DPlan) : Option R :=
  (spec_plBoth x0 x1).bind fun y1 =>
  cond (y1)
  ((spec_plFeasible x0 x1).bind fun y2 =>
    fin y2)
  (fin false)
def spec_wiGood (x0 : DJob) (x1 : DPlan) : Option (Bool) := spec_wiGoodK some x0 x1
theorem p74 {R : Type} (fin : Bool → Option R) (x0 : DJob) (x1 : DPlan) : Par fin (spec_wiGoodK some x0 x1) (spec_wiGoodK fin x0 x1) := by
  unfold spec_wiGoodK
  repeat' (first | exact .fin | exact .none | refine .cond ?_ ?_ | refine .bind fun _ => ?_ | refine .sum (fun _ => ?_) fun _ => ?_)
def c74 : Callee := mkC [.agg [.ro TJob], .agg [.ro TPlan]] 1 [.one (.ro .bool)] fun x => spec_wiGood x.1 x.2
theorem e74 (x : PK.dens [.agg [.ro TJob], .agg [.ro TPlan]]) : evalFn Try.prog EL74 or0 Try.f74 (PK.outs [.agg [.ro TJob], .agg [.ro TPlan]] x) =
    spec_wiGoodK (fun y => some (tupOf ((PK.outs [.one (.ro .bool)] y).take 1), (PK.outs [.one (.ro .bool)] y).drop 1)) x.1 x.2 := by kernel_rfl
theorem k74 : CalleeOk Try.prog 74 c74 := callee_mk Try.func74 (code := codeOf Try.f74) (by kernel_rfl) vL74 mixed (LoOk.nil (by kernel_rfl)) fun x y h => (e74 x).trans (p74 _ x.1 x.2 y h)

/-- spec.wiEmpty -/
def EL75 : Nat → Option Callee := env0
theorem vL75 : EnvOk Try.prog EL75 := EnvOk.nil
def sspec_wiEmpty_l0 : LS := ⟨[(2, .one (.fix (.ptr 0 0))), (3, .one (.fix (.ptr 1 0))), (14, .one (.dat (.int .i64))), (15, .one (.dat (.int .i64)))], [.box [.dat (.int .i64), .fix .nils], .box [.dat (.int .i64), .fix (.sref 2)], .sl (.int .i64)], []⟩
def sspec_wiEmpty_l0x0 : LS := ⟨[(2, .one (.fix (.ptr 0 0))), (3, .one (.fix (.ptr 1 0)))], [.box [.dat (.int .i64), .fix .nils], .box [.dat (.int .i64), .fix (.sref 2)], .sl (.int .i64)], []⟩
def xspec_wiEmpty_l0 : List (XS (Int × Int × Int)) := [⟨.exit 0, ⟨[2, 3], [.slot 2, .slot 3, .cell 3 1], [], []⟩, sspec_wiEmpty_l0x0, List Int, fun i y => (((), ((), ())), ((i.2.1, ((), ())), ((i.2.2, ((), ())), (y, ()))))⟩]
def spec_wiEmpty_l0K {R : Type} (a0 : Int) (rc : Int → List Int → Option R) (fin : List Int → Option R) (a1 : Int) (a4 : List Int) : Option R :=
  cond (decide (a1 < a0))
  (cond (decide ((0 : Int) ≤ a1) && decide (a1 < (a4.length : Int)))
    ((some (a4.set (0 + a1.toNat) (-1))).bind fun v1 =>
      rc (IntKind.i64.wrap (a1 + 1)) v1)
    (none))
  (fin a4)
def spec_wiEmpty_l0F (a0 : Int) (r : (Int × (List Int)) → Option (List Int)) (x : Int × (List Int)) : Option (List Int) := spec_wiEmpty_l0K a0 (fun a1 a4 => r (a1, a4)) some x.1 x.2
theorem spec_wiEmpty_l0c (a0 : Int) (x : Int × (List Int)) : Ct fun r => spec_wiEmpty_l0F a0 r x := by
  unfold spec_wiEmpty_l0F spec_wiEmpty_l0K
  repeat' (first | exact Ct.const | exact Ct.call | refine Ct.cond ?_ ?_ | refine Ct.bind ?_ fun _ => ?_ | refine Ct.sum (fun _ => ?_) fun _ => ?_)
def spec_wiEmpty_l0 (a0 : Int) (a1 : Int) (a4 : List Int) : Option (List Int) := lim (spec_wiEmpty_l0F a0) (a1, a4)
theorem spec_wiEmpty_l0_eq (a0 : Int) (a1 : Int) (a4 : List Int) : spec_wiEmpty_l0 a0 a1 a4 = spec_wiEmpty_l0K a0 (spec_wiEmpty_l0 a0) some a1 a4 := lim_eq (spec_wiEmpty_l0c a0) (a1, a4)
theorem spec_wiEmpty_l0p {R : Type} (a0 : Int) {rc : Int → List Int → Option (List Int)} {rc' : Int → List Int → Option R} {fin : List Int → Option R} (hr : ∀ a1 a4, Par fin (rc a1 a4) (rc' a1 a4)) (a1 : Int) (a4 : List Int) : Par fin (spec_wiEmpty_l0K a0 rc some a1 a4) (spec_wiEmpty_l0K a0 rc' fin a1 a4) := by
  unfold spec_wiEmpty_l0K
  repeat' (first | exact .fin | exact .none | exact hr _ _ | refine .cond ?_ ?_ | refine .bind fun _ => ?_ | refine .sum (fun _ => ?_) fun _ => ?_)
def Lspec_wiEmpty_l0 : Loop := mkL ⟨[2, 3, 14, 15], [.slot 2, .slot 3, .cell 3 1], [], []⟩ sspec_wiEmpty_l0 xspec_wiEmpty_l0 (fun (x : (Unit × Unit × Int × Int × Unit) × ((Int × Unit × Unit) × (Int × Unit × Unit) × (List Int) × Unit)) => (x.1.2.2.1, (x.2.1.1, x.2.2.1.1))) fun (x : (Unit × Unit × Int × Int × Unit) × ((Int × Unit × Unit) × (Int × Unit × Unit) × (List Int) × Unit)) => spec_wiEmpty_l0 x.1.2.2.1 x.1.2.2.2.1 x.2.2.2.1
def spec_wiEmptyK {R : Type} (fin : Int × (List Int) → Option R) (x0 : DJob) : Option R :=
  cond (decide ((0 : Int) ≤ (x0.1.length : Int)) && (decide ((x0.1.length : Int) ≤ (x0.1.length : Int)) && decide ((x0.1.length : Int) ≤ 1099511627776)))
  ((some ((List.replicate ((x0.1.length : Int).toNat) 0 : List Int))).bind fun v1 =>
    (spec_wiEmpty_l0 (v1.length : Int) 0 v1).bind fun y3 =>
    fin (x0.2.2.2.2.1, y3))
  (none)
def spec_wiEmpty (x0 : DJob) : Option (Int × (List Int)) := spec_wiEmptyK some x0
theorem p75 {R : Type} (fin : Int × (List Int) → Option R) (x0 : DJob) : Par fin (spec_wiEmptyK some x0) (spec_wiEmptyK fin x0) := by
  unfold spec_wiEmptyK
  repeat' (first | exact .fin | exact .none | refine .cond ?_ ?_ | refine .bind fun _ => ?_ | refine .sum (fun _ => ?_) fun _ => ?_)
def or75 : Ora := { lo := addL 3 (Lspec_wiEmpty_l0) lo0, fin := [] }
theorem spec_wiEmpty_l0e (a0 : Int) (a2 : Int) (a3 : Int) (k : Nat) (a1 : Int) (a4 : List Int) : loopC Try.prog EL75 or75 ((loopsIn (codeOf Try.f75)).getD 0 .skip) (Lspec_wiEmpty_l0).h (Lspec_wiEmpty_l0).ho Try.f75.ntmps (k + 1) (sspec_wiEmpty_l0.out (((), ((), (a0, (a1, ())))), ((a2, ((), ())), ((a3, ((), ())), (a4, ()))))) =
    spec_wiEmpty_l0K a0 (fun a1 a4 => loopC Try.prog EL75 or75 ((loopsIn (codeOf Try.f75)).getD 0 .skip) (Lspec_wiEmpty_l0).h (Lspec_wiEmpty_l0).ho Try.f75.ntmps k (sspec_wiEmpty_l0.out (((), ((), (a0, (a1, ())))), ((a2, ((), ())), ((a3, ((), ())), (a4, ())))))) (fun y => some (XS.out xspec_wiEmpty_l0 (a0, (a2, a3)) y)) a1 a4 := by kernel_rfl
theorem spec_wiEmpty_l0o : LoopOk Try.prog EL75 or75 Try.f75.ntmps ((loopsIn (codeOf Try.f75)).getD 0 .skip) (Lspec_wiEmpty_l0) :=
  loop_lim (hs := sspec_wiEmpty_l0) (xs := xspec_wiEmpty_l0) (ι := fun (x : (Unit × Unit × Int × Int × Unit) × ((Int × Unit × Unit) × (Int × Unit × Unit) × (List Int) × Unit)) => (x.1.2.2.1, (x.2.1.1, x.2.2.1.1))) (φ := fun (x : (Unit × Unit × Int × Int × Unit) × ((Int × Unit × Unit) × (Int × Unit × Unit) × (List Int) × Unit)) => (x.1.2.2.2.1, x.2.2.2.1)) (ψ := fun (i : Int × Int × Int) (v : Int × (List Int)) => (((), ((), (i.1, (v.1, ())))), ((i.2.1, ((), ())), ((i.2.2, ((), ())), (v.2, ()))))) (F := fun (i : Int × Int × Int) => spec_wiEmpty_l0F i.1) (fun _ => rfl) fun i k hk v => Par.of_eq (spec_wiEmpty_l0e i.1 i.2.1 i.2.2 k v.1 v.2) (spec_wiEmpty_l0p i.1 (fun a1 a4 => hk (a1, a4)) v.1 v.2)
def c75 : Callee := mkC [.agg [.ro TJob]] 1 [.agg [.ro (.int .i64), .sl (.int .i64)]] fun x => spec_wiEmpty x
theorem e75 (x : PK.dens [.agg [.ro TJob]]) : evalFn Try.prog EL75 or75 Try.f75 (PK.outs [.agg [.ro TJob]] x) =
    spec_wiEmptyK (fun y => some (tupOf ((PK.outs [.agg [.ro (.int .i64), .sl (.int .i64)]] y).take 1), (PK.outs [.agg [.ro (.int .i64), .sl (.int .i64)]] y).drop 1)) x := by kernel_rfl
theorem o75 : LoOk Try.prog EL75 or75 Try.f75.ntmps (loopsIn (codeOf Try.f75)) :=
  LoOk.mk (m := 1) (by kernel_rfl) fun i hi => match i, hi with
    | 0, _ => ⟨Lspec_wiEmpty_l0, by kernel_rfl, spec_wiEmpty_l0o⟩
    | i + 1, hi => absurd hi (by omega)
theorem k75 : CalleeOk Try.prog 75 c75 := callee_mk Try.func75 (code := codeOf Try.f75) (by kernel_rfl) vL75 mixed o75 fun x y h => (e75 x).trans (p75 _ x y h)

/-- spec.paOnly -/
def EL76 : Nat → Option Callee := addE 49 c49 env0
theorem vL76 : EnvOk Try.prog EL76 := EnvOk.nil.add Try.func49 rfl (by kernel_rfl) k49
def sspec_paOnly_l0 : LS := ⟨[(0, .one (.dat (.slice (.slice (.int .i64))))), (1, .one (.dat (.slice (.int .i64)))), (2, .one (.dat (.slice (.int .i64)))), (7, .one (.fix (.sref 0))), (23, .one (.dat (.slice (.int .i64)))), (24, .one (.dat (.int .i64))), (25, .one (.dat (.int .i64)))], [.sl (.int .i64)], []⟩
def sspec_paOnly_l0x0 : LS := ⟨[(0, .one (.dat (.slice (.slice (.int .i64))))), (1, .one (.dat (.slice (.int .i64)))), (2, .one (.dat (.slice (.int .i64)))), (7, .one (.fix (.sref 0)))], [.sl (.int .i64)], []⟩
def xspec_paOnly_l0 : List (XS ((List (List Int)) × (List Int) × (List Int) × (List Int) × Int)) := [⟨.exit 0, ⟨[0, 1, 2, 7], [.slot 7], [], []⟩, sspec_paOnly_l0x0, List Int, fun i y => ((i.1, (i.2.1, (i.2.2.1, ((), ())))), (y, ()))⟩]
def spec_paOnly_l0K {R : Type} (a3 : List Int) (a4 : Int) (rc : Int → List Int → Option R) (fin : List Int → Option R) (a5 : Int) (a6 : List Int) : Option R :=
  cond (decide (a5 < a4))
  ((lat a3 a5).bind fun e1 =>
    cond (decide ((0 : Int) ≤ e1) && decide (e1 < (a6.length : Int)))
    ((some (a6.set (0 + e1.toNat) (IntKind.i64.wrap (a5 + 1)))).bind fun v2 =>
      rc (IntKind.i64.wrap (a5 + 1)) v2)
    (none))
  (fin a6)
def spec_paOnly_l0F (a3 : List Int) (a4 : Int) (r : (Int × (List Int)) → Option (List Int)) (x : Int × (List Int)) : Option (List Int) := spec_paOnly_l0K a3 a4 (fun a5 a6 => r (a5, a6)) some x.1 x.2
theorem spec_paOnly_l0c (a3 : List Int) (a4 : Int) (x : Int × (List Int)) : Ct fun r => spec_paOnly_l0F a3 a4 r x := by
  unfold spec_paOnly_l0F spec_paOnly_l0K
  repeat' (first | exact Ct.const | exact Ct.call | refine Ct.cond ?_ ?_ | refine Ct.bind ?_ fun _ => ?_ | refine Ct.sum (fun _ => ?_) fun _ => ?_)
def spec_paOnly_l0 (a3 : List Int) (a4 : Int) (a5 : Int) (a6 : List Int) : Option (List Int) := lim (spec_paOnly_l0F a3 a4) (a5, a6)
theorem spec_paOnly_l0_eq (a3 : List Int) (a4 : Int) (a5 : Int) (a6 : List Int) : spec_paOnly_l0 a3 a4 a5 a6 = spec_paOnly_l0K a3 a4 (spec_paOnly_l0 a3 a4) some a5 a6 := lim_eq (spec_paOnly_l0c a3 a4) (a5, a6)
theorem spec_paOnly_l0p {R : Type} (a3 : List Int) (a4 : Int) {rc : Int → List Int → Option (List Int)} {rc' : Int → List Int → Option R} {fin : List Int → Option R} (hr : ∀ a5 a6, Par fin (rc a5 a6) (rc' a5 a6)) (a5 : Int) (a6 : List Int) : Par fin (spec_paOnly_l0K a3 a4 rc some a5 a6) (spec_paOnly_l0K a3 a4 rc' fin a5 a6) := by
  unfold spec_paOnly_l0K
  repeat' (first | exact .fin | exact .none | exact hr _ _ | refine .cond ?_ ?_ | refine .bind fun _ => ?_ | refine .sum (fun _ => ?_) fun _ => ?_)
def Lspec_paOnly_l0 : Loop := mkL ⟨[0, 1, 2, 7, 23, 24, 25], [.slot 7], [], []⟩ sspec_paOnly_l0 xspec_paOnly_l0 (fun (x : ((List (List Int)) × (List Int) × (List Int) × Unit × (List Int) × Int × Int × Unit) × ((List Int) × Unit)) => (x.1.1, (x.1.2.1, (x.1.2.2.1, (x.1.2.2.2.2.1, x.1.2.2.2.2.2.1))))) fun (x : ((List (List Int)) × (List Int) × (List Int) × Unit × (List Int) × Int × Int × Unit) × ((List Int) × Unit)) => spec_paOnly_l0 x.1.2.2.2.2.1 x.1.2.2.2.2.2.1 x.1.2.2.2.2.2.2.1 x.2.1
def sspec_paOnly_l2 : LS := ⟨[(0, .one (.dat (.slice (.slice (.int .i64))))), (1, .one (.dat (.slice (.int .i64)))), (2, .one (.dat (.slice (.int .i64)))), (7, .one (.fix (.sref 0))), (10, .one (.fix (.sref 1))), (11, .one (.fix (.sref 2))), (13, .one (.dat (.int .i64))), (14, .one (.fix (.sref 3))), (36, .one (.dat (.slice (.int .i64)))), (37, .one (.dat (.int .i64))), (38, .one (.dat (.int .i64))), (45, .one (.dat (.slice (.int .i64)))), (46, .one (.dat (.int .i64))), (47, .one (.dat (.int .i64)))], [.sl (.int .i64), .mat (.int .i64), .sl (.int .i64), .sl (.int .i64)], []⟩
def sspec_paOnly_l2x0 : LS := ⟨[(0, .one (.dat (.slice (.slice (.int .i64))))), (1, .one (.dat (.slice (.int .i64)))), (2, .one (.dat (.slice (.int .i64)))), (7, .one (.fix (.sref 0))), (10, .one (.fix (.sref 1))), (11, .one (.fix (.sref 2))), (13, .one (.dat (.int .i64))), (14, .one (.fix (.sref 3))), (36, .one (.dat (.slice (.int .i64)))), (37, .one (.dat (.int .i64))), (38, .one (.dat (.int .i64)))], [.sl (.int .i64), .mat (.int .i64), .sl (.int .i64), .sl (.int .i64)], []⟩
def xspec_paOnly_l2 : List (XS ((List (List Int)) × (List Int) × (List Int) × Int × (List Int) × Int × Int × (List Int) × Int × (List Int) × (List (List Int)) × (List Int))) := [⟨.exit 4, ⟨[0, 1, 2, 7, 10, 11, 13, 14, 36, 37, 38], [.slot 7, .slot 10, .slot 11, .slot 14], [], []⟩, sspec_paOnly_l2x0, List Int, fun i y => ((i.1, (i.2.1, (i.2.2.1, ((), ((), ((), (i.2.2.2.1, ((), (i.2.2.2.2.1, (i.2.2.2.2.2.1, (i.2.2.2.2.2.2.1, ()))))))))))), (i.2.2.2.2.2.2.2.2.2.1, (i.2.2.2.2.2.2.2.2.2.2.1, (i.2.2.2.2.2.2.2.2.2.2.2, (y, ())))))⟩]
def spec_paOnly_l2K {R : Type} (a7 : List Int) (a8 : Int) (a10 : List Int) (rc : Int → List Int → Option R) (fin : List Int → Option R) (a9 : Int) (a13 : List Int) : Option R :=
  cond (decide (a9 < a8))
  ((lat a7 a9).bind fun e1 =>
    cond (decide ((0 : Int) ≤ e1) && decide (e1 < (a10.length : Int)))
    (cond (decide ((a10.getD (0 + e1.toNat) 0) > 0))
      (cond (decide ((0 : Int) ≤ e1) && decide (e1 < (a10.length : Int)))
        (cond (decide (a13.length + [IntKind.i64.wrap ((a10.getD (0 + e1.toNat) 0) - 1)].length ≤ 1099511627776))
          ((some (a13 ++ [IntKind.i64.wrap ((a10.getD (0 + e1.toNat) 0) - 1)])).bind fun v2 =>
            rc (IntKind.i64.wrap (a9 + 1)) v2)
          (none))
        (none))
      (rc (IntKind.i64.wrap (a9 + 1)) a13))
    (none))
  (fin a13)
def spec_paOnly_l2F (a7 : List Int) (a8 : Int) (a10 : List Int) (r : (Int × (List Int)) → Option (List Int)) (x : Int × (List Int)) : Option (List Int) := spec_paOnly_l2K a7 a8 a10 (fun a9 a13 => r (a9, a13)) some x.1 x.2
theorem spec_paOnly_l2c (a7 : List Int) (a8 : Int) (a10 : List Int) (x : Int × (List Int)) : Ct fun r => spec_paOnly_l2F a7 a8 a10 r x := by
  unfold spec_paOnly_l2F spec_paOnly_l2K
  repeat' (first | exact Ct.const | exact Ct.call | refine Ct.cond ?_ ?_ | refine Ct.bind ?_ fun _ => ?_ | refine Ct.sum (fun _ => ?_) fun _ => ?_)
def spec_paOnly_l2 (a7 : List Int) (a8 : Int) (a10 : List Int) (a9 : Int) (a13 : List Int) : Option (List Int) := lim (spec_paOnly_l2F a7 a8 a10) (a9, a13)
theorem spec_paOnly_l2_eq (a7 : List Int) (a8 : Int) (a10 : List Int) (a9 : Int) (a13 : List Int) : spec_paOnly_l2 a7 a8 a10 a9 a13 = spec_paOnly_l2K a7 a8 a10 (spec_paOnly_l2 a7 a8 a10) some a9 a13 := lim_eq (spec_paOnly_l2c a7 a8 a10) (a9, a13)
theorem spec_paOnly_l2p {R : Type} (a7 : List Int) (a8 : Int) (a10 : List Int) {rc : Int → List Int → Option (List Int)} {rc' : Int → List Int → Option R} {fin : List Int → Option R} (hr : ∀ a9 a13, Par fin (rc a9 a13) (rc' a9 a13)) (a9 : Int) (a13 : List Int) : Par fin (spec_paOnly_l2K a7 a8 a10 rc some a9 a13) (spec_paOnly_l2K a7 a8 a10 rc' fin a9 a13) := by
  unfold spec_paOnly_l2K
  repeat' (first | exact .fin | exact .none | exact hr _ _ | refine .cond ?_ ?_ | refine .bind fun _ => ?_ | refine .sum (fun _ => ?_) fun _ => ?_)
def Lspec_paOnly_l2 : Loop := mkL ⟨[0, 1, 2, 7, 10, 11, 13, 14, 36, 37, 38, 45, 46, 47], [.slot 7, .slot 10, .slot 11, .slot 14], [], [.own (.slot 14) (.int .i64)]⟩ sspec_paOnly_l2 xspec_paOnly_l2 (fun (x : ((List (List Int)) × (List Int) × (List Int) × Unit × Unit × Unit × Int × Unit × (List Int) × Int × Int × (List Int) × Int × Int × Unit) × ((List Int) × (List (List Int)) × (List Int) × (List Int) × Unit)) => (x.1.1, (x.1.2.1, (x.1.2.2.1, (x.1.2.2.2.2.2.2.1, (x.1.2.2.2.2.2.2.2.2.1, (x.1.2.2.2.2.2.2.2.2.2.1, (x.1.2.2.2.2.2.2.2.2.2.2.1, (x.1.2.2.2.2.2.2.2.2.2.2.2.1, (x.1.2.2.2.2.2.2.2.2.2.2.2.2.1, (x.2.1, (x.2.2.1, x.2.2.2.1)))))))))))) fun (x : ((List (List Int)) × (List Int) × (List Int) × Unit × Unit × Unit × Int × Unit × (List Int) × Int × Int × (List Int) × Int × Int × Unit) × ((List Int) × (List (List Int)) × (List Int) × (List Int) × Unit)) => spec_paOnly_l2 x.1.2.2.2.2.2.2.2.2.2.2.2.1 x.1.2.2.2.2.2.2.2.2.2.2.2.2.1 x.2.1 x.1.2.2.2.2.2.2.2.2.2.2.2.2.2.1 x.2.2.2.2.1
def sspec_paOnly_l1 : LS := ⟨[(0, .one (.dat (.slice (.slice (.int .i64))))), (1, .one (.dat (.slice (.int .i64)))), (2, .one (.dat (.slice (.int .i64)))), (7, .one (.fix (.sref 0))), (10, .one (.fix (.sref 1))), (11, .one (.fix (.sref 2))), (36, .one (.dat (.slice (.int .i64)))), (37, .one (.dat (.int .i64))), (38, .one (.dat (.int .i64)))], [.sl (.int .i64), .mat (.int .i64), .sl (.int .i64)], []⟩
def sspec_paOnly_l1x0 : LS := ⟨[(2, .one (.dat (.slice (.int .i64)))), (10, .one (.fix (.sref 0))), (11, .one (.fix (.sref 1)))], [.mat (.int .i64), .sl (.int .i64)], []⟩
def xspec_paOnly_l1 : List (XS ((List (List Int)) × (List Int) × (List Int) × (List Int) × Int × (List Int))) := [⟨.exit 2, ⟨[2, 10, 11], [.slot 10, .slot 11], [], []⟩, sspec_paOnly_l1x0, (List (List Int)) × (List Int), fun i y => ((i.2.2.1, ((), ((), ()))), (y.1, (y.2, ())))⟩]
def spec_paOnly_l1K {R : Type} (a0 : List (List Int)) (a1 : List Int) (a3 : List Int) (a4 : Int) (a6 : List Int) (rc : Int → List (List Int) → List Int → Option R) (fin : (List (List Int)) × (List Int) → Option R) (a5 : Int) (a7 : List (List Int)) (a8 : List Int) : Option R :=
  cond (decide (a5 < a4))
  ((lat a3 a5).bind fun e1 =>
    (lat a0 e1).bind fun e2 =>
    (spec_paOnly_l2 e2 (e2.length : Int) a6 0 []).bind fun y7 =>
    cond (decide (a7.length + [y7].length ≤ 1099511627776))
    ((lat a1 e1).bind fun e8 =>
      cond (decide (a8.length + [e8].length ≤ 1099511627776))
      (rc (IntKind.i64.wrap (a5 + 1)) (a7 ++ [y7]) (a8 ++ [e8]))
      (none))
    (none))
  (fin (a7, a8))
def spec_paOnly_l1F (a0 : List (List Int)) (a1 : List Int) (a3 : List Int) (a4 : Int) (a6 : List Int) (r : (Int × (List (List Int)) × (List Int)) → Option ((List (List Int)) × (List Int))) (x : Int × (List (List Int)) × (List Int)) : Option ((List (List Int)) × (List Int)) := spec_paOnly_l1K a0 a1 a3 a4 a6 (fun a5 a7 a8 => r (a5, (a7, a8))) some x.1 x.2.1 x.2.2
theorem spec_paOnly_l1c (a0 : List (List Int)) (a1 : List Int) (a3 : List Int) (a4 : Int) (a6 : List Int) (x : Int × (List (List Int)) × (List Int)) : Ct fun r => spec_paOnly_l1F a0 a1 a3 a4 a6 r x := by
  unfold spec_paOnly_l1F spec_paOnly_l1K
  repeat' (first | exact Ct.const | exact Ct.call | refine Ct.cond ?_ ?_ | refine Ct.bind ?_ fun _ => ?_ | refine Ct.sum (fun _ => ?_) fun _ => ?_)
def spec_paOnly_l1 (a0 : List (List Int)) (a1 : List Int) (a3 : List Int) (a4 : Int) (a6 : List Int) (a5 : Int) (a7 : List (List Int)) (a8 : List Int) : Option ((List (List Int)) × (List Int)) := lim (spec_paOnly_l1F a0 a1 a3 a4 a6) (a5, (a7, a8))
theorem spec_paOnly_l1_eq (a0 : List (List Int)) (a1 : List Int) (a3 : List Int) (a4 : Int) (a6 : List Int) (a5 : Int) (a7 : List (List Int)) (a8 : List Int) : spec_paOnly_l1 a0 a1 a3 a4 a6 a5 a7 a8 = spec_paOnly_l1K a0 a1 a3 a4 a6 (spec_paOnly_l1 a0 a1 a3 a4 a6) some a5 a7 a8 := lim_eq (spec_paOnly_l1c a0 a1 a3 a4 a6) (a5, (a7, a8))
theorem spec_paOnly_l1p {R : Type} (a0 : List (List Int)) (a1 : List Int) (a3 : List Int) (a4 : Int) (a6 : List Int) {rc : Int → List (List Int) → List Int → Option ((List (List Int)) × (List Int))} {rc' : Int → List (List Int) → List Int → Option R} {fin : (List (List Int)) × (List Int) → Option R} (hr : ∀ a5 a7 a8, Par fin (rc a5 a7 a8) (rc' a5 a7 a8)) (a5 : Int) (a7 : List (List Int)) (a8 : List Int) : Par fin (spec_paOnly_l1K a0 a1 a3 a4 a6 rc some a5 a7 a8) (spec_paOnly_l1K a0 a1 a3 a4 a6 rc' fin a5 a7 a8) := by
  unfold spec_paOnly_l1K
  repeat' (first | exact .fin | exact .none | exact hr _ _ _ | refine .cond ?_ ?_ | refine .bind fun _ => ?_ | refine .sum (fun _ => ?_) fun _ => ?_)
def Lspec_paOnly_l1 : Loop := mkL ⟨[0, 1, 2, 7, 10, 11, 36, 37, 38], [.slot 7, .slot 10, .slot 11], [], [.ownm (.slot 10) (.int .i64), .own (.slot 11) (.int .i64)]⟩ sspec_paOnly_l1 xspec_paOnly_l1 (fun (x : ((List (List Int)) × (List Int) × (List Int) × Unit × Unit × Unit × (List Int) × Int × Int × Unit) × ((List Int) × (List (List Int)) × (List Int) × Unit)) => (x.1.1, (x.1.2.1, (x.1.2.2.1, (x.1.2.2.2.2.2.2.1, (x.1.2.2.2.2.2.2.2.1, x.2.1)))))) fun (x : ((List (List Int)) × (List Int) × (List Int) × Unit × Unit × Unit × (List Int) × Int × Int × Unit) × ((List Int) × (List (List Int)) × (List Int) × Unit)) => spec_paOnly_l1 x.1.1 x.1.2.1 x.1.2.2.2.2.2.2.1 x.1.2.2.2.2.2.2.2.1 x.2.1 x.1.2.2.2.2.2.2.2.2.1 x.2.2.1 x.2.2.2.1
def sspec_paOnly_l3 : LS := ⟨[(2, .one (.dat (.slice (.int .i64)))), (17, .one (.fix (.sref 0))), (79, .one (.fix (.sref 1))), (80, .one (.dat (.int .i64))), (81, .one (.dat (.int .i64)))], [.sl (.int .i64), .sl (.int .i64)], []⟩
def sspec_paOnly_l3x0 : LS := ⟨[(17, .one (.fix (.sref 0)))], [.sl (.int .i64)], []⟩
def xspec_paOnly_l3 : List (XS ((List Int) × Int × (List Int))) := [⟨.exit 6, ⟨[17], [.slot 17], [], []⟩, sspec_paOnly_l3x0, List Int, fun i y => (((), ()), (y, ()))⟩]
def spec_paOnly_l3K {R : Type} (a0 : List Int) (a1 : Int) (a4 : List Int) (rc : Int → List Int → Option R) (fin : List Int → Option R) (a2 : Int) (a3 : List Int) : Option R :=
  cond (decide (a2 < a1))
  (cond (decide ((0 : Int) ≤ a2) && decide (a2 < (a4.length : Int)))
    ((lat a0 (a4.getD (0 + a2.toNat) 0)).bind fun e1 =>
      cond (decide (a3.length + [e1].length ≤ 1099511627776))
      (rc (IntKind.i64.wrap (a2 + 1)) (a3 ++ [e1]))
      (none))
    (none))
  (fin a3)
def spec_paOnly_l3F (a0 : List Int) (a1 : Int) (a4 : List Int) (r : (Int × (List Int)) → Option (List Int)) (x : Int × (List Int)) : Option (List Int) := spec_paOnly_l3K a0 a1 a4 (fun a2 a3 => r (a2, a3)) some x.1 x.2
theorem spec_paOnly_l3c (a0 : List Int) (a1 : Int) (a4 : List Int) (x : Int × (List Int)) : Ct fun r => spec_paOnly_l3F a0 a1 a4 r x := by
  unfold spec_paOnly_l3F spec_paOnly_l3K
  repeat' (first | exact Ct.const | exact Ct.call | refine Ct.cond ?_ ?_ | refine Ct.bind ?_ fun _ => ?_ | refine Ct.sum (fun _ => ?_) fun _ => ?_)
def spec_paOnly_l3 (a0 : List Int) (a1 : Int) (a4 : List Int) (a2 : Int) (a3 : List Int) : Option (List Int) := lim (spec_paOnly_l3F a0 a1 a4) (a2, a3)
theorem spec_paOnly_l3_eq (a0 : List Int) (a1 : Int) (a4 : List Int) (a2 : Int) (a3 : List Int) : spec_paOnly_l3 a0 a1 a4 a2 a3 = spec_paOnly_l3K a0 a1 a4 (spec_paOnly_l3 a0 a1 a4) some a2 a3 := lim_eq (spec_paOnly_l3c a0 a1 a4) (a2, a3)
theorem spec_paOnly_l3p {R : Type} (a0 : List Int) (a1 : Int) (a4 : List Int) {rc : Int → List Int → Option (List Int)} {rc' : Int → List Int → Option R} {fin : List Int → Option R} (hr : ∀ a2 a3, Par fin (rc a2 a3) (rc' a2 a3)) (a2 : Int) (a3 : List Int) : Par fin (spec_paOnly_l3K a0 a1 a4 rc some a2 a3) (spec_paOnly_l3K a0 a1 a4 rc' fin a2 a3) := by
  unfold spec_paOnly_l3K
  repeat' (first | exact .fin | exact .none | exact hr _ _ | refine .cond ?_ ?_ | refine .bind fun _ => ?_ | refine .sum (fun _ => ?_) fun _ => ?_)
def Lspec_paOnly_l3 : Loop := mkL ⟨[2, 17, 79, 80, 81], [.slot 17, .slot 79], [], [.own (.slot 17) (.int .i64)]⟩ sspec_paOnly_l3 xspec_paOnly_l3 (fun (x : ((List Int) × Unit × Unit × Int × Int × Unit) × ((List Int) × (List Int) × Unit)) => (x.1.1, (x.1.2.2.2.1, x.2.2.1))) fun (x : ((List Int) × Unit × Unit × Int × Int × Unit) × ((List Int) × (List Int) × Unit)) => spec_paOnly_l3 x.1.1 x.1.2.2.2.1 x.2.2.1 x.1.2.2.2.2.1 x.2.1
def spec_paOnlyK {R : Type} (fin : List Int → Option R) (x0 : List (List Int)) (x1 : List Int) (x2 : List Int) : Option R :=
  cond (decide ((0 : Int) ≤ (x0.length : Int)) && (decide ((x0.length : Int) ≤ (x0.length : Int)) && decide ((x0.length : Int) ≤ 1099511627776)))
  ((some ((List.replicate ((x0.length : Int).toNat) 0 : List Int))).bind fun v1 =>
    (spec_paOnly_l0 x2 (x2.length : Int) 0 v1).bind fun y4 =>
    (spec_paOnly_l1 x0 x1 x2 (x2.length : Int) y4 0 [] []).bind fun y21 =>
    (spec_paFind y21.1 y21.2).bind fun y22 =>
    (spec_paOnly_l3 x2 (y22.length : Int) y22 0 []).bind fun y25 =>
    fin y25)
  (none)
def spec_paOnly (x0 : List (List Int)) (x1 : List Int) (x2 : List Int) : Option (List Int) := spec_paOnlyK some x0 x1 x2
theorem p76 {R : Type} (fin : List Int → Option R) (x0 : List (List Int)) (x1 : List Int) (x2 : List Int) : Par fin (spec_paOnlyK some x0 x1 x2) (spec_paOnlyK fin x0 x1 x2) := by
  unfold spec_paOnlyK
  repeat' (first | exact .fin | exact .none | refine .cond ?_ ?_ | refine .bind fun _ => ?_ | refine .sum (fun _ => ?_) fun _ => ?_)
def or76 : Ora := { lo := addL 24 (Lspec_paOnly_l3) (addL 10 (Lspec_paOnly_l1) (addL 14 (Lspec_paOnly_l2) (addL 3 (Lspec_paOnly_l0) lo0))), fin := [] }
theorem spec_paOnly_l0e (a0 : List (List Int)) (a1 : List Int) (a2 : List Int) (a3 : List Int) (a4 : Int) (k : Nat) (a5 : Int) (a6 : List Int) : loopC Try.prog EL76 or76 ((loopsIn (codeOf Try.f76)).getD 0 .skip) (Lspec_paOnly_l0).h (Lspec_paOnly_l0).ho Try.f76.ntmps (k + 1) (sspec_paOnly_l0.out ((a0, (a1, (a2, ((), (a3, (a4, (a5, ()))))))), (a6, ()))) =
    spec_paOnly_l0K a3 a4 (fun a5 a6 => loopC Try.prog EL76 or76 ((loopsIn (codeOf Try.f76)).getD 0 .skip) (Lspec_paOnly_l0).h (Lspec_paOnly_l0).ho Try.f76.ntmps k (sspec_paOnly_l0.out ((a0, (a1, (a2, ((), (a3, (a4, (a5, ()))))))), (a6, ())))) (fun y => some (XS.out xspec_paOnly_l0 (a0, (a1, (a2, (a3, a4)))) y)) a5 a6 := by kernel_rfl
theorem spec_paOnly_l0o : LoopOk Try.prog EL76 or76 Try.f76.ntmps ((loopsIn (codeOf Try.f76)).getD 0 .skip) (Lspec_paOnly_l0) :=
  loop_lim (hs := sspec_paOnly_l0) (xs := xspec_paOnly_l0) (ι := fun (x : ((List (List Int)) × (List Int) × (List Int) × Unit × (List Int) × Int × Int × Unit) × ((List Int) × Unit)) => (x.1.1, (x.1.2.1, (x.1.2.2.1, (x.1.2.2.2.2.1, x.1.2.2.2.2.2.1))))) (φ := fun (x : ((List (List Int)) × (List Int) × (List Int) × Unit × (List Int) × Int × Int × Unit) × ((List Int) × Unit)) => (x.1.2.2.2.2.2.2.1, x.2.1)) (ψ := fun (i : (List (List Int)) × (List Int) × (List Int) × (List Int) × Int) (v : Int × (List Int)) => ((i.1, (i.2.1, (i.2.2.1, ((), (i.2.2.2.1, (i.2.2.2.2, (v.1, ()))))))), (v.2, ()))) (F := fun (i : (List (List Int)) × (List Int) × (List Int) × (List Int) × Int) => spec_paOnly_l0F i.2.2.2.1 i.2.2.2.2) (fun _ => rfl) fun i k hk v => Par.of_eq (spec_paOnly_l0e i.1 i.2.1 i.2.2.1 i.2.2.2.1 i.2.2.2.2 k v.1 v.2) (spec_paOnly_l0p i.2.2.2.1 i.2.2.2.2 (fun a5 a6 => hk (a5, a6)) v.1 v.2)
theorem spec_paOnly_l2e (a0 : List (List Int)) (a1 : List Int) (a2 : List Int) (a3 : Int) (a4 : List Int) (a5 : Int) (a6 : Int) (a7 : List Int) (a8 : Int) (a10 : List Int) (a11 : List (List Int)) (a12 : List Int) (k : Nat) (a9 : Int) (a13 : List Int) : loopC Try.prog EL76 or76 ((loopsIn (codeOf Try.f76)).getD 2 .skip) (Lspec_paOnly_l2).h (Lspec_paOnly_l2).ho Try.f76.ntmps (k + 1) (sspec_paOnly_l2.out ((a0, (a1, (a2, ((), ((), ((), (a3, ((), (a4, (a5, (a6, (a7, (a8, (a9, ())))))))))))))), (a10, (a11, (a12, (a13, ())))))) =
    spec_paOnly_l2K a7 a8 a10 (fun a9 a13 => loopC Try.prog EL76 or76 ((loopsIn (codeOf Try.f76)).getD 2 .skip) (Lspec_paOnly_l2).h (Lspec_paOnly_l2).ho Try.f76.ntmps k (sspec_paOnly_l2.out ((a0, (a1, (a2, ((), ((), ((), (a3, ((), (a4, (a5, (a6, (a7, (a8, (a9, ())))))))))))))), (a10, (a11, (a12, (a13, ()))))))) (fun y => some (XS.out xspec_paOnly_l2 (a0, (a1, (a2, (a3, (a4, (a5, (a6, (a7, (a8, (a10, (a11, a12))))))))))) y)) a9 a13 := by kernel_rfl
theorem spec_paOnly_l2o : LoopOk Try.prog EL76 or76 Try.f76.ntmps ((loopsIn (codeOf Try.f76)).getD 2 .skip) (Lspec_paOnly_l2) :=
  loop_lim (hs := sspec_paOnly_l2) (xs := xspec_paOnly_l2) (ι := fun (x : ((List (List Int)) × (List Int) × (List Int) × Unit × Unit × Unit × Int × Unit × (List Int) × Int × Int × (List Int) × Int × Int × Unit) × ((List Int) × (List (List Int)) × (List Int) × (List Int) × Unit)) => (x.1.1, (x.1.2.1, (x.1.2.2.1, (x.1.2.2.2.2.2.2.1, (x.1.2.2.2.2.2.2.2.2.1, (x.1.2.2.2.2.2.2.2.2.2.1, (x.1.2.2.2.2.2.2.2.2.2.2.1, (x.1.2.2.2.2.2.2.2.2.2.2.2.1, (x.1.2.2.2.2.2.2.2.2.2.2.2.2.1, (x.2.1, (x.2.2.1, x.2.2.2.1)))))))))))) (φ := fun (x : ((List (List Int)) × (List Int) × (List Int) × Unit × Unit × Unit × Int × Unit × (List Int) × Int × Int × (List Int) × Int × Int × Unit) × ((List Int) × (List (List Int)) × (List Int) × (List Int) × Unit)) => (x.1.2.2.2.2.2.2.2.2.2.2.2.2.2.1, x.2.2.2.2.1)) (ψ := fun (i : (List (List Int)) × (List Int) × (List Int) × Int × (List Int) × Int × Int × (List Int) × Int × (List Int) × (List (List Int)) × (List Int)) (v : Int × (List Int)) => ((i.1, (i.2.1, (i.2.2.1, ((), ((), ((), (i.2.2.2.1, ((), (i.2.2.2.2.1, (i.2.2.2.2.2.1, (i.2.2.2.2.2.2.1, (i.2.2.2.2.2.2.2.1, (i.2.2.2.2.2.2.2.2.1, (v.1, ())))))))))))))), (i.2.2.2.2.2.2.2.2.2.1, (i.2.2.2.2.2.2.2.2.2.2.1, (i.2.2.2.2.2.2.2.2.2.2.2, (v.2, ())))))) (F := fun (i : (List (List Int)) × (List Int) × (List Int) × Int × (List Int) × Int × Int × (List Int) × Int × (List Int) × (List (List Int)) × (List Int)) => spec_paOnly_l2F i.2.2.2.2.2.2.2.1 i.2.2.2.2.2.2.2.2.1 i.2.2.2.2.2.2.2.2.2.1) (fun _ => rfl) fun i k hk v => Par.of_eq (spec_paOnly_l2e i.1 i.2.1 i.2.2.1 i.2.2.2.1 i.2.2.2.2.1 i.2.2.2.2.2.1 i.2.2.2.2.2.2.1 i.2.2.2.2.2.2.2.1 i.2.2.2.2.2.2.2.2.1 i.2.2.2.2.2.2.2.2.2.1 i.2.2.2.2.2.2.2.2.2.2.1 i.2.2.2.2.2.2.2.2.2.2.2 k v.1 v.2) (spec_paOnly_l2p i.2.2.2.2.2.2.2.1 i.2.2.2.2.2.2.2.2.1 i.2.2.2.2.2.2.2.2.2.1 (fun a9 a13 => hk (a9, a13)) v.1 v.2)
theorem spec_paOnly_l1e (a0 : List (List Int)) (a1 : List Int) (a2 : List Int) (a3 : List Int) (a4 : Int) (a6 : List Int) (k : Nat) (a5 : Int) (a7 : List (List Int)) (a8 : List Int) : loopC Try.prog EL76 or76 ((loopsIn (codeOf Try.f76)).getD 1 .skip) (Lspec_paOnly_l1).h (Lspec_paOnly_l1).ho Try.f76.ntmps (k + 1) (sspec_paOnly_l1.out ((a0, (a1, (a2, ((), ((), ((), (a3, (a4, (a5, ()))))))))), (a6, (a7, (a8, ()))))) =
    spec_paOnly_l1K a0 a1 a3 a4 a6 (fun a5 a7 a8 => loopC Try.prog EL76 or76 ((loopsIn (codeOf Try.f76)).getD 1 .skip) (Lspec_paOnly_l1).h (Lspec_paOnly_l1).ho Try.f76.ntmps k (sspec_paOnly_l1.out ((a0, (a1, (a2, ((), ((), ((), (a3, (a4, (a5, ()))))))))), (a6, (a7, (a8, ())))))) (fun y => some (XS.out xspec_paOnly_l1 (a0, (a1, (a2, (a3, (a4, a6))))) y)) a5 a7 a8 := by kernel_rfl
theorem spec_paOnly_l1o : LoopOk Try.prog EL76 or76 Try.f76.ntmps ((loopsIn (codeOf Try.f76)).getD 1 .skip) (Lspec_paOnly_l1) :=
  loop_lim (hs := sspec_paOnly_l1) (xs := xspec_paOnly_l1) (ι := fun (x : ((List (List Int)) × (List Int) × (List Int) × Unit × Unit × Unit × (List Int) × Int × Int × Unit) × ((List Int) × (List (List Int)) × (List Int) × Unit)) => (x.1.1, (x.1.2.1, (x.1.2.2.1, (x.1.2.2.2.2.2.2.1, (x.1.2.2.2.2.2.2.2.1, x.2.1)))))) (φ := fun (x : ((List (List Int)) × (List Int) × (List Int) × Unit × Unit × Unit × (List Int) × Int × Int × Unit) × ((List Int) × (List (List Int)) × (List Int) × Unit)) => (x.1.2.2.2.2.2.2.2.2.1, (x.2.2.1, x.2.2.2.1))) (ψ := fun (i : (List (List Int)) × (List Int) × (List Int) × (List Int) × Int × (List Int)) (v : Int × (List (List Int)) × (List Int)) => ((i.1, (i.2.1, (i.2.2.1, ((), ((), ((), (i.2.2.2.1, (i.2.2.2.2.1, (v.1, ()))))))))), (i.2.2.2.2.2, (v.2.1, (v.2.2, ()))))) (F := fun (i : (List (List Int)) × (List Int) × (List Int) × (List Int) × Int × (List Int)) => spec_paOnly_l1F i.1 i.2.1 i.2.2.2.1 i.2.2.2.2.1 i.2.2.2.2.2) (fun _ => rfl) fun i k hk v => Par.of_eq (spec_paOnly_l1e i.1 i.2.1 i.2.2.1 i.2.2.2.1 i.2.2.2.2.1 i.2.2.2.2.2 k v.1 v.2.1 v.2.2) (spec_paOnly_l1p i.1 i.2.1 i.2.2.2.1 i.2.2.2.2.1 i.2.2.2.2.2 (fun a5 a7 a8 => hk (a5, (a7, a8))) v.1 v.2.1 v.2.2)
theorem spec_paOnly_l3e (a0 : List Int) (a1 : Int) (a4 : List Int) (k : Nat) (a2 : Int) (a3 : List Int) : loopC Try.prog EL76 or76 ((loopsIn (codeOf Try.f76)).getD 3 .skip) (Lspec_paOnly_l3).h (Lspec_paOnly_l3).ho Try.f76.ntmps (k + 1) (sspec_paOnly_l3.out ((a0, ((), ((), (a1, (a2, ()))))), (a3, (a4, ())))) =
    spec_paOnly_l3K a0 a1 a4 (fun a2 a3 => loopC Try.prog EL76 or76 ((loopsIn (codeOf Try.f76)).getD 3 .skip) (Lspec_paOnly_l3).h (Lspec_paOnly_l3).ho Try.f76.ntmps k (sspec_paOnly_l3.out ((a0, ((), ((), (a1, (a2, ()))))), (a3, (a4, ()))))) (fun y => some (XS.out xspec_paOnly_l3 (a0, (a1, a4)) y)) a2 a3 := by kernel_rfl
theorem spec_paOnly_l3o : LoopOk Try.prog EL76 or76 Try.f76.ntmps ((loopsIn (codeOf Try.f76)).getD 3 .skip) (Lspec_paOnly_l3) :=
  loop_lim (hs := sspec_paOnly_l3) (xs := xspec_paOnly_l3) (ι := fun (x : ((List Int) × Unit × Unit × Int × Int × Unit) × ((List Int) × (List Int) × Unit)) => (x.1.1, (x.1.2.2.2.1, x.2.2.1))) (φ := fun (x : ((List Int) × Unit × Unit × Int × Int × Unit) × ((List Int) × (List Int) × Unit)) => (x.1.2.2.2.2.1, x.2.1)) (ψ := fun (i : (List Int) × Int × (List Int)) (v : Int × (List Int)) => ((i.1, ((), ((), (i.2.1, (v.1, ()))))), (v.2, (i.2.2, ())))) (F := fun (i : (List Int) × Int × (List Int)) => spec_paOnly_l3F i.1 i.2.1 i.2.2) (fun _ => rfl) fun i k hk v => Par.of_eq (spec_paOnly_l3e i.1 i.2.1 i.2.2 k v.1 v.2) (spec_paOnly_l3p i.1 i.2.1 i.2.2 (fun a2 a3 => hk (a2, a3)) v.1 v.2)
def c76 : Callee := mkC [.one (.ro (.slice (.slice (.int .i64)))), .one (.ro (.slice (.int .i64))), .one (.ro (.slice (.int .i64)))] 1 [.one (.sl (.int .i64))] fun x => spec_paOnly x.1 x.2.1 x.2.2
theorem e76 (x : PK.dens [.one (.ro (.slice (.slice (.int .i64)))), .one (.ro (.slice (.int .i64))), .one (.ro (.slice (.int .i64)))]) : evalFn Try.prog EL76 or76 Try.f76 (PK.outs [.one (.ro (.slice (.slice (.int .i64)))), .one (.ro (.slice (.int .i64))), .one (.ro (.slice (.int .i64)))] x) =
    spec_paOnlyK (fun y => some (tupOf ((PK.outs [.one (.sl (.int .i64))] y).take 1), (PK.outs [.one (.sl (.int .i64))] y).drop 1)) x.1 x.2.1 x.2.2 := by kernel_rfl
theorem o76 : LoOk Try.prog EL76 or76 Try.f76.ntmps (loopsIn (codeOf Try.f76)) :=
  LoOk.mk (m := 4) (by kernel_rfl) fun i hi => match i, hi with
    | 0, _ => ⟨Lspec_paOnly_l0, by kernel_rfl, spec_paOnly_l0o⟩
    | 1, _ => ⟨Lspec_paOnly_l1, by kernel_rfl, spec_paOnly_l1o⟩
    | 2, _ => ⟨Lspec_paOnly_l2, by kernel_rfl, spec_paOnly_l2o⟩
    | 3, _ => ⟨Lspec_paOnly_l3, by kernel_rfl, spec_paOnly_l3o⟩
    | i + 4, hi => absurd hi (by omega)
theorem k76 : CalleeOk Try.prog 76 c76 := callee_mk Try.func76 (code := codeOf Try.f76) (by kernel_rfl) vL76 mixed o76 fun x y h => (e76 x).trans (p76 _ x.1 x.2.1 x.2.2 y h)

/-- spec.TrimPlan -/
def EL44 : Nat → Option Callee := addE 76 c76 (addE 75 c75 (addE 74 c74 env0))
theorem vL44 : EnvOk Try.prog EL44 := ((EnvOk.nil.add Try.func74 rfl (by kernel_rfl) k74).add Try.func75 rfl (by kernel_rfl) k75).add Try.func76 rfl (by kernel_rfl) k76
def sspec_TrimPlan_l0 : LS := ⟨[(2, .one (.fix (.ptr 0 0))), (3, .one (.fix (.ptr 1 0))), (4, .one (.fix (.ptr 2 0))), (6, .one (.fix (.sref 3))), (18, .one (.dat (.slice (.int .i64)))), (19, .one (.dat (.int .i64))), (20, .one (.dat (.int .i64)))], [.box [.dat (.slice (.slice (.int .i64))), .dat (.slice (.int .i64)), .dat (.slice (.int .i64)), .dat (.int .i64), .dat (.int .i64), .dat (.int .i64), .dat (.int .i64), .dat (.int .i64)], .box [.dat (.int .i64), .dat (.slice (.int .i64))], .box [.dat (.int .i64), .fix .nils], .sl (.int .i64)], []⟩
def sspec_TrimPlan_l0x0 : LS := ⟨[(2, .one (.fix (.ptr 0 0))), (3, .one (.fix (.ptr 1 0))), (4, .one (.fix (.ptr 2 0))), (6, .one (.fix (.sref 3)))], [.box [.dat (.slice (.slice (.int .i64))), .dat (.slice (.int .i64)), .dat (.slice (.int .i64)), .dat (.int .i64), .dat (.int .i64), .dat (.int .i64), .dat (.int .i64), .dat (.int .i64)], .box [.dat (.int .i64), .dat (.slice (.int .i64))], .box [.dat (.int .i64), .fix .nils], .sl (.int .i64)], []⟩
def xspec_TrimPlan_l0 : List (XS ((List Int) × Int × (List (List Int)) × (List Int) × (List Int) × Int × Int × Int × Int × Int × Int × (List Int) × Int)) := [⟨.exit 0, ⟨[2, 3, 4, 6], [.slot 2, .slot 3, .slot 4, .slot 6], [], []⟩, sspec_TrimPlan_l0x0, List Int, fun i y => (((), ((), ((), ((), ())))), ((i.2.2.1, (i.2.2.2.1, (i.2.2.2.2.1, (i.2.2.2.2.2.1, (i.2.2.2.2.2.2.1, (i.2.2.2.2.2.2.2.1, (i.2.2.2.2.2.2.2.2.1, (i.2.2.2.2.2.2.2.2.2.1, ())))))))), ((i.2.2.2.2.2.2.2.2.2.2.1, (i.2.2.2.2.2.2.2.2.2.2.2.1, ())), ((i.2.2.2.2.2.2.2.2.2.2.2.2, ((), ())), (y, ())))))⟩]
def spec_TrimPlan_l0K {R : Type} (a0 : List Int) (a1 : Int) (rc : Int → List Int → Option R) (fin : List Int → Option R) (a2 : Int) (a14 : List Int) : Option R :=
  cond (decide (a2 < a1))
  ((lat a0 a2).bind fun e1 =>
    cond (decide (e1 ≥ 0))
    (cond (decide (a14.length + [a2].length ≤ 1099511627776))
      (rc (IntKind.i64.wrap (a2 + 1)) (a14 ++ [a2]))
      (none))
    (rc (IntKind.i64.wrap (a2 + 1)) a14))
  (fin a14)
def spec_TrimPlan_l0F (a0 : List Int) (a1 : Int) (r : (Int × (List Int)) → Option (List Int)) (x : Int × (List Int)) : Option (List Int) := spec_TrimPlan_l0K a0 a1 (fun a2 a14 => r (a2, a14)) some x.1 x.2
theorem spec_TrimPlan_l0c (a0 : List Int) (a1 : Int) (x : Int × (List Int)) : Ct fun r => spec_TrimPlan_l0F a0 a1 r x := by
  unfold spec_TrimPlan_l0F spec_TrimPlan_l0K
  repeat' (first | exact Ct.const | exact Ct.call | refine Ct.cond ?_ ?_ | refine Ct.bind ?_ fun _ => ?_ | refine Ct.sum (fun _ => ?_) fun _ => ?_)
def spec_TrimPlan_l0 (a0 : List Int) (a1 : Int) (a2 : Int) (a14 : List Int) : Option (List Int) := lim (spec_TrimPlan_l0F a0 a1) (a2, a14)
theorem spec_TrimPlan_l0_eq (a0 : List Int) (a1 : Int) (a2 : Int) (a14 : List Int) : spec_TrimPlan_l0 a0 a1 a2 a14 = spec_TrimPlan_l0K a0 a1 (spec_TrimPlan_l0 a0 a1) some a2 a14 := lim_eq (spec_TrimPlan_l0c a0 a1) (a2, a14)
theorem spec_TrimPlan_l0p {R : Type} (a0 : List Int) (a1 : Int) {rc : Int → List Int → Option (List Int)} {rc' : Int → List Int → Option R} {fin : List Int → Option R} (hr : ∀ a2 a14, Par fin (rc a2 a14) (rc' a2 a14)) (a2 : Int) (a14 : List Int) : Par fin (spec_TrimPlan_l0K a0 a1 rc some a2 a14) (spec_TrimPlan_l0K a0 a1 rc' fin a2 a14) := by
  unfold spec_TrimPlan_l0K
  repeat' (first | exact .fin | exact .none | exact hr _ _ | refine .cond ?_ ?_ | refine .bind fun _ => ?_ | refine .sum (fun _ => ?_) fun _ => ?_)
def Lspec_TrimPlan_l0 : Loop := mkL ⟨[2, 3, 4, 6, 18, 19, 20], [.slot 2, .slot 3, .slot 4, .slot 6], [], [.own (.slot 6) (.int .i64)]⟩ sspec_TrimPlan_l0 xspec_TrimPlan_l0 (fun (x : (Unit × Unit × Unit × Unit × (List Int) × Int × Int × Unit) × (((List (List Int)) × (List Int) × (List Int) × Int × Int × Int × Int × Int × Unit) × (Int × (List Int) × Unit) × (Int × Unit × Unit) × (List Int) × Unit)) => (x.1.2.2.2.2.1, (x.1.2.2.2.2.2.1, (x.2.1.1, (x.2.1.2.1, (x.2.1.2.2.1, (x.2.1.2.2.2.1, (x.2.1.2.2.2.2.1, (x.2.1.2.2.2.2.2.1, (x.2.1.2.2.2.2.2.2.1, (x.2.1.2.2.2.2.2.2.2.1, (x.2.2.1.1, (x.2.2.1.2.1, x.2.2.2.1.1))))))))))))) fun (x : (Unit × Unit × Unit × Unit × (List Int) × Int × Int × Unit) × (((List (List Int)) × (List Int) × (List Int) × Int × Int × Int × Int × Int × Unit) × (Int × (List Int) × Unit) × (Int × Unit × Unit) × (List Int) × Unit)) => spec_TrimPlan_l0 x.1.2.2.2.2.1 x.1.2.2.2.2.2.1 x.1.2.2.2.2.2.2.1 x.2.2.2.2.1
def sspec_TrimPlan_l1 : LS := ⟨[(3, .one (.fix (.ptr 0 0))), (4, .one (.fix (.ptr 1 0))), (9, .one (.fix (.ptr 2 0))), (39, .one (.fix (.sref 4))), (40, .one (.dat (.int .i64))), (41, .one (.dat (.int .i64)))], [.box [.dat (.int .i64), .dat (.slice (.int .i64))], .box [.dat (.int .i64), .fix .nils], .box [.dat (.int .i64), .fix (.sref 3)], .sl (.int .i64), .sl (.int .i64)], []⟩
def sspec_TrimPlan_l1x0 : LS := ⟨[(4, .one (.fix (.ptr 0 0))), (9, .one (.fix (.ptr 1 0)))], [.box [.dat (.int .i64), .fix .nils], .box [.dat (.int .i64), .fix (.sref 2)], .sl (.int .i64)], []⟩
def xspec_TrimPlan_l1 : List (XS (Int × Int × (List Int) × Int × Int × (List Int))) := [⟨.exit 2, ⟨[4, 9], [.slot 4, .slot 9, .cell 9 1], [], []⟩, sspec_TrimPlan_l1x0, List Int, fun i y => (((), ((), ())), ((i.2.2.2.1, ((), ())), ((i.2.2.2.2.1, ((), ())), (y, ()))))⟩]
def spec_TrimPlan_l1K {R : Type} (a0 : Int) (a3 : List Int) (a7 : List Int) (rc : Int → List Int → Option R) (fin : List Int → Option R) (a1 : Int) (a6 : List Int) : Option R :=
  cond (decide (a1 < a0))
  (cond (decide ((0 : Int) ≤ a1) && decide (a1 < (a7.length : Int)))
    ((lat a3 (a7.getD (0 + a1.toNat) 0)).bind fun e1 =>
      cond (decide ((0 : Int) ≤ a7.getD (0 + a1.toNat) 0) && decide (a7.getD (0 + a1.toNat) 0 < (a6.length : Int)))
      ((some (a6.set (0 + (a7.getD (0 + a1.toNat) 0).toNat) e1)).bind fun v2 =>
        rc (IntKind.i64.wrap (a1 + 1)) v2)
      (none))
    (none))
  (fin a6)
def spec_TrimPlan_l1F (a0 : Int) (a3 : List Int) (a7 : List Int) (r : (Int × (List Int)) → Option (List Int)) (x : Int × (List Int)) : Option (List Int) := spec_TrimPlan_l1K a0 a3 a7 (fun a1 a6 => r (a1, a6)) some x.1 x.2
theorem spec_TrimPlan_l1c (a0 : Int) (a3 : List Int) (a7 : List Int) (x : Int × (List Int)) : Ct fun r => spec_TrimPlan_l1F a0 a3 a7 r x := by
  unfold spec_TrimPlan_l1F spec_TrimPlan_l1K
  repeat' (first | exact Ct.const | exact Ct.call | refine Ct.cond ?_ ?_ | refine Ct.bind ?_ fun _ => ?_ | refine Ct.sum (fun _ => ?_) fun _ => ?_)
def spec_TrimPlan_l1 (a0 : Int) (a3 : List Int) (a7 : List Int) (a1 : Int) (a6 : List Int) : Option (List Int) := lim (spec_TrimPlan_l1F a0 a3 a7) (a1, a6)
theorem spec_TrimPlan_l1_eq (a0 : Int) (a3 : List Int) (a7 : List Int) (a1 : Int) (a6 : List Int) : spec_TrimPlan_l1 a0 a3 a7 a1 a6 = spec_TrimPlan_l1K a0 a3 a7 (spec_TrimPlan_l1 a0 a3 a7) some a1 a6 := lim_eq (spec_TrimPlan_l1c a0 a3 a7) (a1, a6)
theorem spec_TrimPlan_l1p {R : Type} (a0 : Int) (a3 : List Int) (a7 : List Int) {rc : Int → List Int → Option (List Int)} {rc' : Int → List Int → Option R} {fin : List Int → Option R} (hr : ∀ a1 a6, Par fin (rc a1 a6) (rc' a1 a6)) (a1 : Int) (a6 : List Int) : Par fin (spec_TrimPlan_l1K a0 a3 a7 rc some a1 a6) (spec_TrimPlan_l1K a0 a3 a7 rc' fin a1 a6) := by
  unfold spec_TrimPlan_l1K
  repeat' (first | exact .fin | exact .none | exact hr _ _ | refine .cond ?_ ?_ | refine .bind fun _ => ?_ | refine .sum (fun _ => ?_) fun _ => ?_)
def Lspec_TrimPlan_l1 : Loop := mkL ⟨[3, 4, 9, 39, 40, 41], [.slot 3, .slot 4, .slot 9, .cell 9 1, .slot 39], [], []⟩ sspec_TrimPlan_l1 xspec_TrimPlan_l1 (fun (x : (Unit × Unit × Unit × Unit × Int × Int × Unit) × ((Int × (List Int) × Unit) × (Int × Unit × Unit) × (Int × Unit × Unit) × (List Int) × (List Int) × Unit)) => (x.1.2.2.2.2.1, (x.2.1.1, (x.2.1.2.1, (x.2.2.1.1, (x.2.2.2.1.1, x.2.2.2.2.2.1)))))) fun (x : (Unit × Unit × Unit × Unit × Int × Int × Unit) × ((Int × (List Int) × Unit) × (Int × Unit × Unit) × (Int × Unit × Unit) × (List Int) × (List Int) × Unit)) => spec_TrimPlan_l1 x.1.2.2.2.2.1 x.2.1.2.1 x.2.2.2.2.2.1 x.1.2.2.2.2.2.1 x.2.2.2.2.1
def spec_TrimPlanK {R : Type} (fin : (Int × (List Int)) × Bool → Option R) (x0 : DJob) (x1 : DPlan) : Option R :=
  (spec_wiGood x0 x1).bind fun y1 =>
  cond (!y1)
  (fin ((0, []), false))
  ((spec_TrimPlan_l0 x1.2.1 (x1.2.1.length : Int) 0 []).bind fun y4 =>
    (spec_wiEmpty x0).bind fun y5 =>
    (spec_paOnly x0.1 x0.2.2.1 y4).bind fun y6 =>
    (spec_TrimPlan_l1 (y6.length : Int) x1.2.1 y6 0 y5.2).bind fun y9 =>
    fin ((y5.1, y9), true))
def spec_TrimPlan (x0 : DJob) (x1 : DPlan) : Option ((Int × (List Int)) × Bool) := spec_TrimPlanK some x0 x1
theorem p44 {R : Type} (fin : (Int × (List Int)) × Bool → Option R) (x0 : DJob) (x1 : DPlan) : Par fin (spec_TrimPlanK some x0 x1) (spec_TrimPlanK fin x0 x1) := by
  unfold spec_TrimPlanK
  repeat' (first | exact .fin | exact .none | refine .cond ?_ ?_ | refine .bind fun _ => ?_ | refine .sum (fun _ => ?_) fun _ => ?_)
def or44 : Ora := { lo := addL 12 (Lspec_TrimPlan_l1) (addL 5 (Lspec_TrimPlan_l0) lo0), fin := [.own (.cell 4 1) (.int .i64)] }
theorem spec_TrimPlan_l0e (a0 : List Int) (a1 : Int) (a3 : List (List Int)) (a4 : List Int) (a5 : List Int) (a6 : Int) (a7 : Int) (a8 : Int) (a9 : Int) (a10 : Int) (a11 : Int) (a12 : List Int) (a13 : Int) (k : Nat) (a2 : Int) (a14 : List Int) : loopC Try.prog EL44 or44 ((loopsIn (codeOf Try.f44)).getD 0 .skip) (Lspec_TrimPlan_l0).h (Lspec_TrimPlan_l0).ho Try.f44.ntmps (k + 1) (sspec_TrimPlan_l0.out (((), ((), ((), ((), (a0, (a1, (a2, ()))))))), ((a3, (a4, (a5, (a6, (a7, (a8, (a9, (a10, ())))))))), ((a11, (a12, ())), ((a13, ((), ())), (a14, ())))))) =
    spec_TrimPlan_l0K a0 a1 (fun a2 a14 => loopC Try.prog EL44 or44 ((loopsIn (codeOf Try.f44)).getD 0 .skip) (Lspec_TrimPlan_l0).h (Lspec_TrimPlan_l0).ho Try.f44.ntmps k (sspec_TrimPlan_l0.out (((), ((), ((), ((), (a0, (a1, (a2, ()))))))), ((a3, (a4, (a5, (a6, (a7, (a8, (a9, (a10, ())))))))), ((a11, (a12, ())), ((a13, ((), ())), (a14, ()))))))) (fun y => some (XS.out xspec_TrimPlan_l0 (a0, (a1, (a3, (a4, (a5, (a6, (a7, (a8, (a9, (a10, (a11, (a12, a13)))))))))))) y)) a2 a14 := by kernel_rfl
theorem spec_TrimPlan_l0o : LoopOk Try.prog EL44 or44 Try.f44.ntmps ((loopsIn (codeOf Try.f44)).getD 0 .skip) (Lspec_TrimPlan_l0) :=
  loop_lim (hs := sspec_TrimPlan_l0) (xs := xspec_TrimPlan_l0) (ι := fun (x : (Unit × Unit × Unit × Unit × (List Int) × Int × Int × Unit) × (((List (List Int)) × (List Int) × (List Int) × Int × Int × Int × Int × Int × Unit) × (Int × (List Int) × Unit) × (Int × Unit × Unit) × (List Int) × Unit)) => (x.1.2.2.2.2.1, (x.1.2.2.2.2.2.1, (x.2.1.1, (x.2.1.2.1, (x.2.1.2.2.1, (x.2.1.2.2.2.1, (x.2.1.2.2.2.2.1, (x.2.1.2.2.2.2.2.1, (x.2.1.2.2.2.2.2.2.1, (x.2.1.2.2.2.2.2.2.2.1, (x.2.2.1.1, (x.2.2.1.2.1, x.2.2.2.1.1))))))))))))) (φ := fun (x : (Unit × Unit × Unit × Unit × (List Int) × Int × Int × Unit) × (((List (List Int)) × (List Int) × (List Int) × Int × Int × Int × Int × Int × Unit) × (Int × (List Int) × Unit) × (Int × Unit × Unit) × (List Int) × Unit)) => (x.1.2.2.2.2.2.2.1, x.2.2.2.2.1)) (ψ := fun (i : (List Int) × Int × (List (List Int)) × (List Int) × (List Int) × Int × Int × Int × Int × Int × Int × (List Int) × Int) (v : Int × (List Int)) => (((), ((), ((), ((), (i.1, (i.2.1, (v.1, ()))))))), ((i.2.2.1, (i.2.2.2.1, (i.2.2.2.2.1, (i.2.2.2.2.2.1, (i.2.2.2.2.2.2.1, (i.2.2.2.2.2.2.2.1, (i.2.2.2.2.2.2.2.2.1, (i.2.2.2.2.2.2.2.2.2.1, ())))))))), ((i.2.2.2.2.2.2.2.2.2.2.1, (i.2.2.2.2.2.2.2.2.2.2.2.1, ())), ((i.2.2.2.2.2.2.2.2.2.2.2.2, ((), ())), (v.2, ())))))) (F := fun (i : (List Int) × Int × (List (List Int)) × (List Int) × (List Int) × Int × Int × Int × Int × Int × Int × (List Int) × Int) => spec_TrimPlan_l0F i.1 i.2.1) (fun _ => rfl) fun i k hk v => Par.of_eq (spec_TrimPlan_l0e i.1 i.2.1 i.2.2.1 i.2.2.2.1 i.2.2.2.2.1 i.2.2.2.2.2.1 i.2.2.2.2.2.2.1 i.2.2.2.2.2.2.2.1 i.2.2.2.2.2.2.2.2.1 i.2.2.2.2.2.2.2.2.2.1 i.2.2.2.2.2.2.2.2.2.2.1 i.2.2.2.2.2.2.2.2.2.2.2.1 i.2.2.2.2.2.2.2.2.2.2.2.2 k v.1 v.2) (spec_TrimPlan_l0p i.1 i.2.1 (fun a2 a14 => hk (a2, a14)) v.1 v.2)
theorem spec_TrimPlan_l1e (a0 : Int) (a2 : Int) (a3 : List Int) (a4 : Int) (a5 : Int) (a7 : List Int) (k : Nat) (a1 : Int) (a6 : List Int) : loopC Try.prog EL44 or44 ((loopsIn (codeOf Try.f44)).getD 1 .skip) (Lspec_TrimPlan_l1).h (Lspec_TrimPlan_l1).ho Try.f44.ntmps (k + 1) (sspec_TrimPlan_l1.out (((), ((), ((), ((), (a0, (a1, ())))))), ((a2, (a3, ())), ((a4, ((), ())), ((a5, ((), ())), (a6, (a7, ()))))))) =
    spec_TrimPlan_l1K a0 a3 a7 (fun a1 a6 => loopC Try.prog EL44 or44 ((loopsIn (codeOf Try.f44)).getD 1 .skip) (Lspec_TrimPlan_l1).h (Lspec_TrimPlan_l1).ho Try.f44.ntmps k (sspec_TrimPlan_l1.out (((), ((), ((), ((), (a0, (a1, ())))))), ((a2, (a3, ())), ((a4, ((), ())), ((a5, ((), ())), (a6, (a7, ())))))))) (fun y => some (XS.out xspec_TrimPlan_l1 (a0, (a2, (a3, (a4, (a5, a7))))) y)) a1 a6 := by kernel_rfl
theorem spec_TrimPlan_l1o : LoopOk Try.prog EL44 or44 Try.f44.ntmps ((loopsIn (codeOf Try.f44)).getD 1 .skip) (Lspec_TrimPlan_l1) :=
  loop_lim (hs := sspec_TrimPlan_l1) (xs := xspec_TrimPlan_l1) (ι := fun (x : (Unit × Unit × Unit × Unit × Int × Int × Unit) × ((Int × (List Int) × Unit) × (Int × Unit × Unit) × (Int × Unit × Unit) × (List Int) × (List Int) × Unit)) => (x.1.2.2.2.2.1, (x.2.1.1, (x.2.1.2.1, (x.2.2.1.1, (x.2.2.2.1.1, x.2.2.2.2.2.1)))))) (φ := fun (x : (Unit × Unit × Unit × Unit × Int × Int × Unit) × ((Int × (List Int) × Unit) × (Int × Unit × Unit) × (Int × Unit × Unit) × (List Int) × (List Int) × Unit)) => (x.1.2.2.2.2.2.1, x.2.2.2.2.1)) (ψ := fun (i : Int × Int × (List Int) × Int × Int × (List Int)) (v : Int × (List Int)) => (((), ((), ((), ((), (i.1, (v.1, ())))))), ((i.2.1, (i.2.2.1, ())), ((i.2.2.2.1, ((), ())), ((i.2.2.2.2.1, ((), ())), (v.2, (i.2.2.2.2.2, ()))))))) (F := fun (i : Int × Int × (List Int) × Int × Int × (List Int)) => spec_TrimPlan_l1F i.1 i.2.2.1 i.2.2.2.2.2) (fun _ => rfl) fun i k hk v => Par.of_eq (spec_TrimPlan_l1e i.1 i.2.1 i.2.2.1 i.2.2.2.1 i.2.2.2.2.1 i.2.2.2.2.2 k v.1 v.2) (spec_TrimPlan_l1p i.1 i.2.2.1 i.2.2.2.2.2 (fun a1 a6 => hk (a1, a6)) v.1 v.2)
def c44 : Callee := mkC [.agg [.ro TJob], .agg [.ro TPlan]] 2 [.agg [.ro (.int .i64), .sl (.int .i64)], .one (.ro .bool)] fun x => spec_TrimPlan x.1 x.2
theorem e44 (x : PK.dens [.agg [.ro TJob], .agg [.ro TPlan]]) : evalFn Try.prog EL44 or44 Try.f44 (PK.outs [.agg [.ro TJob], .agg [.ro TPlan]] x) =
    spec_TrimPlanK (fun y => some (tupOf ((PK.outs [.agg [.ro (.int .i64), .sl (.int .i64)], .one (.ro .bool)] y).take 2), (PK.outs [.agg [.ro (.int .i64), .sl (.int .i64)], .one (.ro .bool)] y).drop 2)) x.1 x.2 := by kernel_rfl
theorem o44 : LoOk Try.prog EL44 or44 Try.f44.ntmps (loopsIn (codeOf Try.f44)) :=
  LoOk.mk (m := 2) (by kernel_rfl) fun i hi => match i, hi with
    | 0, _ => ⟨Lspec_TrimPlan_l0, by kernel_rfl, spec_TrimPlan_l0o⟩
    | 1, _ => ⟨Lspec_TrimPlan_l1, by kernel_rfl, spec_TrimPlan_l1o⟩
    | i + 2, hi => absurd hi (by omega)
theorem k44 : CalleeOk Try.prog 44 c44 := callee_mk Try.func44 (code := codeOf Try.f44) (by kernel_rfl) vL44 mixed o44 fun x y h => (e44 x).trans (p44 _ x.1 x.2 y h)

/-- impl.isKept -/
def EL77 : Nat → Option Callee := addE 72 c72 (addE 71 c71 (addE 52 c52 env0))
theorem vL77 : EnvOk Try.prog EL77 := ((EnvOk.nil.add Try.func52 rfl (by kernel_rfl) k52).add Try.func71 rfl (by kernel_rfl) k71).add Try.func72 rfl (by kernel_rfl) k72
def impl_isKeptK {R : Type} (fin : Bool → Option R) (x0 : DJob) (x1 : DPlan) : Option R :=
  (impl_IsJob x0).bind fun y1 =>
  cond (y1)
  ((impl_isPlan x0 x1).bind fun y2 =>
    cond (y2)
    ((impl_isFeasible x0 x1).bind fun y3 =>
      fin y3)
    (fin false))
  (fin false)
def impl_isKept (x0 : DJob) (x1 : DPlan) : Option (Bool) := impl_isKeptK some x0 x1
theorem p77 {R : Type} (fin : Bool → Option R) (x0 : DJob) (x1 : DPlan) : Par fin (impl_isKeptK some x0 x1) (impl_isKeptK fin x0 x1) := by
  unfold impl_isKeptK
  repeat' (first | exact .fin | exact .none | refine .cond ?_ ?_ | refine .bind fun _ => ?_ | refine .sum (fun _ => ?_) fun _ => ?_)
def c77 : Callee := mkC [.agg [.ro TJob], .agg [.ro TPlan]] 1 [.one (.ro .bool)] fun x => impl_isKept x.1 x.2
theorem e77 (x : PK.dens [.agg [.ro TJob], .agg [.ro TPlan]]) : evalFn Try.prog EL77 or0 Try.f77 (PK.outs [.agg [.ro TJob], .agg [.ro TPlan]] x) =
    impl_isKeptK (fun y => some (tupOf ((PK.outs [.one (.ro .bool)] y).take 1), (PK.outs [.one (.ro .bool)] y).drop 1)) x.1 x.2 := by kernel_rfl
theorem k77 : CalleeOk Try.prog 77 c77 := callee_mk Try.func77 (code := codeOf Try.f77) (by kernel_rfl) vL77 mixed (LoOk.nil (by kernel_rfl)) fun x y h => (e77 x).trans (p77 _ x.1 x.2 y h)

/-- impl.bestPit -/
def EL40079 : Nat → Option Callee := addE 80 c80 (addE 108 c108 (addE 96 c96 (addE 95 c95 (addE 94 c94 (addE 107 c107 env0)))))
theorem vL40079 : EnvOk Try.prog EL40079 := (((((EnvOk.nil.add Try.func107 rfl (by kernel_rfl) k107).add Try.func94 rfl (by kernel_rfl) k94).add Try.func95 rfl (by kernel_rfl) k95).add Try.func96 rfl (by kernel_rfl) k96).add Try.func108 rfl (by kernel_rfl) k108).add Try.func80 rfl (by kernel_rfl) k80
def simpl_bestPit_N4_l0 : LS := ⟨[(0, .one (.dat (.slice (.slice (.int .i64))))), (2, .one (.fix .nils)), (3, .one (.dat (.slice .bool))), (4, .one (.dat .bool)), (11, .one (.fix (.sref 0))), (23, .one (.dat (.int .i64))), (24, .one (.dat (.int .i64)))], [.sl (.int .i64)], []⟩
def simpl_bestPit_N4_l0x0 : LS := ⟨[(0, .one (.dat (.slice (.slice (.int .i64))))), (2, .one (.fix .nils)), (4, .one (.dat .bool)), (11, .one (.fix (.sref 0)))], [.sl (.int .i64)], []⟩
def ximpl_bestPit_N4_l0 : List (XS ((List (List Int)) × (List Bool) × Bool × Int)) := [⟨.exit 0, ⟨[0, 2, 4, 11], [.slot 11], [], []⟩, simpl_bestPit_N4_l0x0, List Int, fun i y => ((i.1, ((), (i.2.2.1, ((), ())))), (y, ()))⟩]
def impl_bestPit_N4_l0K {R : Type} (a1 : List Bool) (a3 : Int) (rc : Int → List Int → Option R) (fin : List Int → Option R) (a4 : Int) (a5 : List Int) : Option R :=
  cond (decide (a4 < a3))
  (cond (decide (0 < a1.length))
    ((lat a1 a4).bind fun e1 =>
      cond (e1)
      (cond (decide ((0 : Int) ≤ a4) && decide (a4 < (a5.length : Int)))
        ((some (a5.set (0 + a4.toNat) (-1000000000))).bind fun v2 =>
          rc (IntKind.i64.wrap (a4 + 1)) v2)
        (none))
      (rc (IntKind.i64.wrap (a4 + 1)) a5))
    (none))
  (fin a5)
def impl_bestPit_N4_l0F (a1 : List Bool) (a3 : Int) (r : (Int × (List Int)) → Option (List Int)) (x : Int × (List Int)) : Option (List Int) := impl_bestPit_N4_l0K a1 a3 (fun a4 a5 => r (a4, a5)) some x.1 x.2
theorem impl_bestPit_N4_l0c (a1 : List Bool) (a3 : Int) (x : Int × (List Int)) : Ct fun r => impl_bestPit_N4_l0F a1 a3 r x := by
  unfold impl_bestPit_N4_l0F impl_bestPit_N4_l0K
  repeat' (first | exact Ct.const | exact Ct.call | refine Ct.cond ?_ ?_ | refine Ct.bind ?_ fun _ => ?_ | refine Ct.sum (fun _ => ?_) fun _ => ?_)
def impl_bestPit_N4_l0 (a1 : List Bool) (a3 : Int) (a4 : Int) (a5 : List Int) : Option (List Int) := lim (impl_bestPit_N4_l0F a1 a3) (a4, a5)
theorem impl_bestPit_N4_l0_eq (a1 : List Bool) (a3 : Int) (a4 : Int) (a5 : List Int) : impl_bestPit_N4_l0 a1 a3 a4 a5 = impl_bestPit_N4_l0K a1 a3 (impl_bestPit_N4_l0 a1 a3) some a4 a5 := lim_eq (impl_bestPit_N4_l0c a1 a3) (a4, a5)
theorem impl_bestPit_N4_l0p {R : Type} (a1 : List Bool) (a3 : Int) {rc : Int → List Int → Option (List Int)} {rc' : Int → List Int → Option R} {fin : List Int → Option R} (hr : ∀ a4 a5, Par fin (rc a4 a5) (rc' a4 a5)) (a4 : Int) (a5 : List Int) : Par fin (impl_bestPit_N4_l0K a1 a3 rc some a4 a5) (impl_bestPit_N4_l0K a1 a3 rc' fin a4 a5) := by
  unfold impl_bestPit_N4_l0K
  repeat' (first | exact .fin | exact .none | exact hr _ _ | refine .cond ?_ ?_ | refine .bind fun _ => ?_ | refine .sum (fun _ => ?_) fun _ => ?_)
def Limpl_bestPit_N4_l0 : Loop := mkL ⟨[0, 2, 3, 4, 11, 23, 24], [.slot 11], [], []⟩ simpl_bestPit_N4_l0 ximpl_bestPit_N4_l0 (fun (x : ((List (List Int)) × Unit × (List Bool) × Bool × Unit × Int × Int × Unit) × ((List Int) × Unit)) => (x.1.1, (x.1.2.2.1, (x.1.2.2.2.1, x.1.2.2.2.2.2.1)))) fun (x : ((List (List Int)) × Unit × (List Bool) × Bool × Unit × Int × Int × Unit) × ((List Int) × Unit)) => impl_bestPit_N4_l0 x.1.2.2.1 x.1.2.2.2.2.2.1 x.1.2.2.2.2.2.2.1 x.2.1
def simpl_bestPit_N4_l1 : LS := ⟨[(2, .one (.fix .nils)), (17, .one (.win 0)), (72, .one (.dat (.int .i64))), (73, .one (.dat (.int .i64)))], [.sl .bool], []⟩
def simpl_bestPit_N4_l1x0 : LS := ⟨[(17, .one (.win 0))], [.sl .bool], []⟩
def ximpl_bestPit_N4_l1 : List (XS (Nat × Nat × Int)) := [⟨.exit 2, ⟨[17], [.slot 17], [], []⟩, simpl_bestPit_N4_l1x0, List Bool, fun i y => (((i.1, i.2.1), ()), (y, ()))⟩]
def impl_bestPit_N4_l1K {R : Type} (a0 : Nat) (a1 : Nat) (a2 : Int) (rc : Int → List Bool → Option R) (fin : List Bool → Option R) (a3 : Int) (a4 : List Bool) : Option R :=
  cond (decide (a3 < a2))
  (cond (decide ((0 : Int) ≤ a3) && decide (a3 < (((a4.drop a0).take a1).length : Int)))
    (cond (a4.getD (a0 + a3.toNat) false)
      (cond (decide ((0 : Int) ≤ a3) && decide (a3 < (((a4.drop a0).take a1).length : Int)))
        ((some (a4.set (a0 + a3.toNat) true)).bind fun v1 =>
          rc (IntKind.i64.wrap (a3 + 1)) v1)
        (none))
      (cond (decide ((0 : Int) ≤ a3) && decide (a3 < (((a4.drop a0).take a1).length : Int)))
        ((some (a4.set (a0 + a3.toNat) false)).bind fun v2 =>
          rc (IntKind.i64.wrap (a3 + 1)) v2)
        (none)))
    (none))
  (fin a4)
def impl_bestPit_N4_l1F (a0 : Nat) (a1 : Nat) (a2 : Int) (r : (Int × (List Bool)) → Option (List Bool)) (x : Int × (List Bool)) : Option (List Bool) := impl_bestPit_N4_l1K a0 a1 a2 (fun a3 a4 => r (a3, a4)) some x.1 x.2
theorem impl_bestPit_N4_l1c (a0 : Nat) (a1 : Nat) (a2 : Int) (x : Int × (List Bool)) : Ct fun r => impl_bestPit_N4_l1F a0 a1 a2 r x := by
  unfold impl_bestPit_N4_l1F impl_bestPit_N4_l1K
  repeat' (first | exact Ct.const | exact Ct.call | refine Ct.cond ?_ ?_ | refine Ct.bind ?_ fun _ => ?_ | refine Ct.sum (fun _ => ?_) fun _ => ?_)
def impl_bestPit_N4_l1 (a0 : Nat) (a1 : Nat) (a2 : Int) (a3 : Int) (a4 : List Bool) : Option (List Bool) := lim (impl_bestPit_N4_l1F a0 a1 a2) (a3, a4)
theorem impl_bestPit_N4_l1_eq (a0 : Nat) (a1 : Nat) (a2 : Int) (a3 : Int) (a4 : List Bool) : impl_bestPit_N4_l1 a0 a1 a2 a3 a4 = impl_bestPit_N4_l1K a0 a1 a2 (impl_bestPit_N4_l1 a0 a1 a2) some a3 a4 := lim_eq (impl_bestPit_N4_l1c a0 a1 a2) (a3, a4)
theorem impl_bestPit_N4_l1p {R : Type} (a0 : Nat) (a1 : Nat) (a2 : Int) {rc : Int → List Bool → Option (List Bool)} {rc' : Int → List Bool → Option R} {fin : List Bool → Option R} (hr : ∀ a3 a4, Par fin (rc a3 a4) (rc' a3 a4)) (a3 : Int) (a4 : List Bool) : Par fin (impl_bestPit_N4_l1K a0 a1 a2 rc some a3 a4) (impl_bestPit_N4_l1K a0 a1 a2 rc' fin a3 a4) := by
  unfold impl_bestPit_N4_l1K
  repeat' (first | exact .fin | exact .none | exact hr _ _ | refine .cond ?_ ?_ | refine .bind fun _ => ?_ | refine .sum (fun _ => ?_) fun _ => ?_)
def Limpl_bestPit_N4_l1 : Loop := mkL ⟨[2, 17, 72, 73], [.slot 17], [], []⟩ simpl_bestPit_N4_l1 ximpl_bestPit_N4_l1 (fun (x : (Unit × (Nat × Nat) × Int × Int × Unit) × ((List Bool) × Unit)) => (x.1.2.1.1, (x.1.2.1.2, x.1.2.2.1))) fun (x : (Unit × (Nat × Nat) × Int × Int × Unit) × ((List Bool) × Unit)) => impl_bestPit_N4_l1 x.1.2.1.1 x.1.2.1.2 x.1.2.2.1 x.1.2.2.2.1 x.2.1
def impl_bestPit_N4K {R : Type} (fin : List Bool → Option R) (x0 : List (List Int)) (x1 : List Int) (x2 : Unit) (x3 : List Bool) (x4 : Bool) : Option R :=
  cond (decide (([] : List Int).length + x1.length ≤ 1099511627776))
  ((impl_bestPit_N4_l0 x3 ((([] : List Int) ++ x1).length : Int) 0 (([] : List Int) ++ x1)).bind fun y3 =>
    (impl_pitNetwork x0 y3).bind fun y4 =>
    (impl_newResidual y4.1 y4.2).bind fun y5 =>
    (impl_residual_run y5).bind fun y6 =>
    (impl_residual_fromSource y6.2).bind fun y7 =>
    cond (x4)
    ((impl_residual_toSink y7.2).bind fun y8 =>
      (impl_outOf y8.1).bind fun y9 =>
      cond (decide ((1 : Int) ≤ IntKind.i64.wrap (y4.1 - 1)) && decide (IntKind.i64.wrap (y4.1 - 1) ≤ (y9.length : Int)))
      ((impl_bestPit_N4_l1 (0 + 1) ((IntKind.i64.wrap (y4.1 - 1)).toNat - 1) (((y9.drop (0 + 1)).take ((IntKind.i64.wrap (y4.1 - 1)).toNat - 1)).length : Int) 0 y9).bind fun y12 =>
        fin ((y12.drop (0 + 1)).take ((IntKind.i64.wrap (y4.1 - 1)).toNat - 1)))
      (none))
    (cond (decide ((1 : Int) ≤ IntKind.i64.wrap (y4.1 - 1)) && decide (IntKind.i64.wrap (y4.1 - 1) ≤ (y7.1.length : Int)))
      ((impl_bestPit_N4_l1 (0 + 1) ((IntKind.i64.wrap (y4.1 - 1)).toNat - 1) (((y7.1.drop (0 + 1)).take ((IntKind.i64.wrap (y4.1 - 1)).toNat - 1)).length : Int) 0 y7.1).bind fun y13 =>
        fin ((y13.drop (0 + 1)).take ((IntKind.i64.wrap (y4.1 - 1)).toNat - 1)))
      (none)))
  (none)
def impl_bestPit_N4 (x0 : List (List Int)) (x1 : List Int) (x2 : Unit) (x3 : List Bool) (x4 : Bool) : Option (List Bool) := impl_bestPit_N4K some x0 x1 x2 x3 x4
theorem p40079 {R : Type} (fin : List Bool → Option R) (x0 : List (List Int)) (x1 : List Int) (x2 : Unit) (x3 : List Bool) (x4 : Bool) : Par fin (impl_bestPit_N4K some x0 x1 x2 x3 x4) (impl_bestPit_N4K fin x0 x1 x2 x3 x4) := by
  unfold impl_bestPit_N4K
  repeat' (first | exact .fin | exact .none | refine .cond ?_ ?_ | refine .bind fun _ => ?_ | refine .sum (fun _ => ?_) fun _ => ?_)
def or40079 : Ora := { lo := addL 18 (Limpl_bestPit_N4_l1) (addL 3 (Limpl_bestPit_N4_l0) lo0), fin := [], fz := fun i => cond (decide (i = 12)) [.frz (.cell 15 0), .frz (.cell 15 1)] <| [] }
theorem impl_bestPit_N4_l0e (a0 : List (List Int)) (a1 : List Bool) (a2 : Bool) (a3 : Int) (k : Nat) (a4 : Int) (a5 : List Int) : loopC Try.prog EL40079 or40079 ((loopsIn (codeOf Try.f79)).getD 0 .skip) (Limpl_bestPit_N4_l0).h (Limpl_bestPit_N4_l0).ho Try.f79.ntmps (k + 1) (simpl_bestPit_N4_l0.out ((a0, ((), (a1, (a2, ((), (a3, (a4, ()))))))), (a5, ()))) =
    impl_bestPit_N4_l0K a1 a3 (fun a4 a5 => loopC Try.prog EL40079 or40079 ((loopsIn (codeOf Try.f79)).getD 0 .skip) (Limpl_bestPit_N4_l0).h (Limpl_bestPit_N4_l0).ho Try.f79.ntmps k (simpl_bestPit_N4_l0.out ((a0, ((), (a1, (a2, ((), (a3, (a4, ()))))))), (a5, ())))) (fun y => some (XS.out ximpl_bestPit_N4_l0 (a0, (a1, (a2, a3))) y)) a4 a5 := by kernel_rfl
theorem impl_bestPit_N4_l0o : LoopOk Try.prog EL40079 or40079 Try.f79.ntmps ((loopsIn (codeOf Try.f79)).getD 0 .skip) (Limpl_bestPit_N4_l0) :=
  loop_lim (hs := simpl_bestPit_N4_l0) (xs := ximpl_bestPit_N4_l0) (ι := fun (x : ((List (List Int)) × Unit × (List Bool) × Bool × Unit × Int × Int × Unit) × ((List Int) × Unit)) => (x.1.1, (x.1.2.2.1, (x.1.2.2.2.1, x.1.2.2.2.2.2.1)))) (φ := fun (x : ((List (List Int)) × Unit × (List Bool) × Bool × Unit × Int × Int × Unit) × ((List Int) × Unit)) => (x.1.2.2.2.2.2.2.1, x.2.1)) (ψ := fun (i : (List (List Int)) × (List Bool) × Bool × Int) (v : Int × (List Int)) => ((i.1, ((), (i.2.1, (i.2.2.1, ((), (i.2.2.2, (v.1, ()))))))), (v.2, ()))) (F := fun (i : (List (List Int)) × (List Bool) × Bool × Int) => impl_bestPit_N4_l0F i.2.1 i.2.2.2) (fun _ => rfl) fun i k hk v => Par.of_eq (impl_bestPit_N4_l0e i.1 i.2.1 i.2.2.1 i.2.2.2 k v.1 v.2) (impl_bestPit_N4_l0p i.2.1 i.2.2.2 (fun a4 a5 => hk (a4, a5)) v.1 v.2)
theorem impl_bestPit_N4_l1e (a0 : Nat) (a1 : Nat) (a2 : Int) (k : Nat) (a3 : Int) (a4 : List Bool) : loopC Try.prog EL40079 or40079 ((loopsIn (codeOf Try.f79)).getD 1 .skip) (Limpl_bestPit_N4_l1).h (Limpl_bestPit_N4_l1).ho Try.f79.ntmps (k + 1) (simpl_bestPit_N4_l1.out (((), ((a0, a1), (a2, (a3, ())))), (a4, ()))) =
    impl_bestPit_N4_l1K a0 a1 a2 (fun a3 a4 => loopC Try.prog EL40079 or40079 ((loopsIn (codeOf Try.f79)).getD 1 .skip) (Limpl_bestPit_N4_l1).h (Limpl_bestPit_N4_l1).ho Try.f79.ntmps k (simpl_bestPit_N4_l1.out (((), ((a0, a1), (a2, (a3, ())))), (a4, ())))) (fun y => some (XS.out ximpl_bestPit_N4_l1 (a0, (a1, a2)) y)) a3 a4 := by kernel_rfl
theorem impl_bestPit_N4_l1o : LoopOk Try.prog EL40079 or40079 Try.f79.ntmps ((loopsIn (codeOf Try.f79)).getD 1 .skip) (Limpl_bestPit_N4_l1) :=
  loop_lim (hs := simpl_bestPit_N4_l1) (xs := ximpl_bestPit_N4_l1) (ι := fun (x : (Unit × (Nat × Nat) × Int × Int × Unit) × ((List Bool) × Unit)) => (x.1.2.1.1, (x.1.2.1.2, x.1.2.2.1))) (φ := fun (x : (Unit × (Nat × Nat) × Int × Int × Unit) × ((List Bool) × Unit)) => (x.1.2.2.2.1, x.2.1)) (ψ := fun (i : Nat × Nat × Int) (v : Int × (List Bool)) => (((), ((i.1, i.2.1), (i.2.2, (v.1, ())))), (v.2, ()))) (F := fun (i : Nat × Nat × Int) => impl_bestPit_N4_l1F i.1 i.2.1 i.2.2) (fun _ => rfl) fun i k hk v => Par.of_eq (impl_bestPit_N4_l1e i.1 i.2.1 i.2.2 k v.1 v.2) (impl_bestPit_N4_l1p i.1 i.2.1 i.2.2 (fun a3 a4 => hk (a3, a4)) v.1 v.2)
def c40079 : Callee := mkC [.one (.ro (.slice (.slice (.int .i64)))), .one (.ro (.slice (.int .i64))), .nil, .one (.ro (.slice .bool)), .one (.ro .bool)] 1 [.one (.sl .bool)] fun x => impl_bestPit_N4 x.1 x.2.1 x.2.2.1 x.2.2.2.1 x.2.2.2.2
theorem e40079 (x : PK.dens [.one (.ro (.slice (.slice (.int .i64)))), .one (.ro (.slice (.int .i64))), .nil, .one (.ro (.slice .bool)), .one (.ro .bool)]) : evalFn Try.prog EL40079 or40079 Try.f79 (PK.outs [.one (.ro (.slice (.slice (.int .i64)))), .one (.ro (.slice (.int .i64))), .nil, .one (.ro (.slice .bool)), .one (.ro .bool)] x) =
    impl_bestPit_N4K (fun y => some (tupOf ((PK.outs [.one (.sl .bool)] y).take 1), (PK.outs [.one (.sl .bool)] y).drop 1)) x.1 x.2.1 x.2.2.1 x.2.2.2.1 x.2.2.2.2 := by kernel_rfl
theorem o40079 : LoOk Try.prog EL40079 or40079 Try.f79.ntmps (loopsIn (codeOf Try.f79)) :=
  LoOk.mk (m := 2) (by kernel_rfl) fun i hi => match i, hi with
    | 0, _ => ⟨Limpl_bestPit_N4_l0, by kernel_rfl, impl_bestPit_N4_l0o⟩
    | 1, _ => ⟨Limpl_bestPit_N4_l1, by kernel_rfl, impl_bestPit_N4_l1o⟩
    | i + 2, hi => absurd hi (by omega)
theorem k40079 : CalleeOk Try.prog 79 c40079 := callee_mk Try.func79 (code := codeOf Try.f79) (by kernel_rfl) vL40079 mixed o40079 fun x y h => (e40079 x).trans (p40079 _ x.1 x.2.1 x.2.2.1 x.2.2.2.1 x.2.2.2.2 y h)

/-- impl.TrimPlan -/
def EL45 : Nat → Option Callee := addE 79 c40079 (addE 80 c80 (addE 78 c78 (addE 77 c77 env0)))
theorem vL45 : EnvOk Try.prog EL45 := (((EnvOk.nil.add Try.func77 rfl (by kernel_rfl) k77).add Try.func78 rfl (by kernel_rfl) k78).add Try.func80 rfl (by kernel_rfl) k80).add Try.func79 rfl (by kernel_rfl) k40079
def simpl_TrimPlan_l0 : LS := ⟨[(2, .one (.fix (.ptr 0 0))), (3, .one (.fix (.ptr 1 0))), (4, .one (.fix (.ptr 2 0))), (6, .one (.fix (.sref 3))), (22, .one (.dat (.slice (.int .i64)))), (23, .one (.dat (.int .i64))), (24, .one (.dat (.int .i64)))], [.box [.dat (.slice (.slice (.int .i64))), .dat (.slice (.int .i64)), .dat (.slice (.int .i64)), .dat (.int .i64), .dat (.int .i64), .dat (.int .i64), .dat (.int .i64), .dat (.int .i64)], .box [.dat (.int .i64), .dat (.slice (.int .i64))], .box [.dat (.int .i64), .fix .nils], .sl .bool], []⟩
def simpl_TrimPlan_l0x0 : LS := ⟨[(2, .one (.fix (.ptr 0 0))), (3, .one (.fix (.ptr 1 0))), (4, .one (.fix (.ptr 2 0))), (6, .one (.fix (.sref 3)))], [.box [.dat (.slice (.slice (.int .i64))), .dat (.slice (.int .i64)), .dat (.slice (.int .i64)), .dat (.int .i64), .dat (.int .i64), .dat (.int .i64), .dat (.int .i64), .dat (.int .i64)], .box [.dat (.int .i64), .dat (.slice (.int .i64))], .box [.dat (.int .i64), .fix .nils], .sl .bool], []⟩
def ximpl_TrimPlan_l0 : List (XS ((List Int) × Int × (List (List Int)) × (List Int) × (List Int) × Int × Int × Int × Int × Int × Int × (List Int) × Int)) := [⟨.exit 0, ⟨[2, 3, 4, 6], [.slot 2, .slot 3, .slot 4, .slot 6], [], []⟩, simpl_TrimPlan_l0x0, List Bool, fun i y => (((), ((), ((), ((), ())))), ((i.2.2.1, (i.2.2.2.1, (i.2.2.2.2.1, (i.2.2.2.2.2.1, (i.2.2.2.2.2.2.1, (i.2.2.2.2.2.2.2.1, (i.2.2.2.2.2.2.2.2.1, (i.2.2.2.2.2.2.2.2.2.1, ())))))))), ((i.2.2.2.2.2.2.2.2.2.2.1, (i.2.2.2.2.2.2.2.2.2.2.2.1, ())), ((i.2.2.2.2.2.2.2.2.2.2.2.2, ((), ())), (y, ())))))⟩]
def impl_TrimPlan_l0K {R : Type} (a0 : List Int) (a1 : Int) (rc : Int → List Bool → Option R) (fin : List Bool → Option R) (a2 : Int) (a14 : List Bool) : Option R :=
  cond (decide (a2 < a1))
  ((lat a0 a2).bind fun e1 =>
    cond (decide ((0 : Int) ≤ a2) && decide (a2 < (a14.length : Int)))
    ((some (a14.set (0 + a2.toNat) (decide (e1 ≥ 0)))).bind fun v2 =>
      rc (IntKind.i64.wrap (a2 + 1)) v2)
    (none))
  (fin a14)
def impl_TrimPlan_l0F (a0 : List Int) (a1 : Int) (r : (Int × (List Bool)) → Option (List Bool)) (x : Int × (List Bool)) : Option (List Bool) := impl_TrimPlan_l0K a0 a1 (fun a2 a14 => r (a2, a14)) some x.1 x.2
theorem impl_TrimPlan_l0c (a0 : List Int) (a1 : Int) (x : Int × (List Bool)) : Ct fun r => impl_TrimPlan_l0F a0 a1 r x := by
  unfold impl_TrimPlan_l0F impl_TrimPlan_l0K
  repeat' (first | exact Ct.const | exact Ct.call | refine Ct.cond ?_ ?_ | refine Ct.bind ?_ fun _ => ?_ | refine Ct.sum (fun _ => ?_) fun _ => ?_)
def impl_TrimPlan_l0 (a0 : List Int) (a1 : Int) (a2 : Int) (a14 : List Bool) : Option (List Bool) := lim (impl_TrimPlan_l0F a0 a1) (a2, a14)
theorem impl_TrimPlan_l0_eq (a0 : List Int) (a1 : Int) (a2 : Int) (a14 : List Bool) : impl_TrimPlan_l0 a0 a1 a2 a14 = impl_TrimPlan_l0K a0 a1 (impl_TrimPlan_l0 a0 a1) some a2 a14 := lim_eq (impl_TrimPlan_l0c a0 a1) (a2, a14)
theorem impl_TrimPlan_l0p {R : Type} (a0 : List Int) (a1 : Int) {rc : Int → List Bool → Option (List Bool)} {rc' : Int → List Bool → Option R} {fin : List Bool → Option R} (hr : ∀ a2 a14, Par fin (rc a2 a14) (rc' a2 a14)) (a2 : Int) (a14 : List Bool) : Par fin (impl_TrimPlan_l0K a0 a1 rc some a2 a14) (impl_TrimPlan_l0K a0 a1 rc' fin a2 a14) := by
  unfold impl_TrimPlan_l0K
  repeat' (first | exact .fin | exact .none | exact hr _ _ | refine .cond ?_ ?_ | refine .bind fun _ => ?_ | refine .sum (fun _ => ?_) fun _ => ?_)
def Limpl_TrimPlan_l0 : Loop := mkL ⟨[2, 3, 4, 6, 22, 23, 24], [.slot 2, .slot 3, .slot 4, .slot 6], [], []⟩ simpl_TrimPlan_l0 ximpl_TrimPlan_l0 (fun (x : (Unit × Unit × Unit × Unit × (List Int) × Int × Int × Unit) × (((List (List Int)) × (List Int) × (List Int) × Int × Int × Int × Int × Int × Unit) × (Int × (List Int) × Unit) × (Int × Unit × Unit) × (List Bool) × Unit)) => (x.1.2.2.2.2.1, (x.1.2.2.2.2.2.1, (x.2.1.1, (x.2.1.2.1, (x.2.1.2.2.1, (x.2.1.2.2.2.1, (x.2.1.2.2.2.2.1, (x.2.1.2.2.2.2.2.1, (x.2.1.2.2.2.2.2.2.1, (x.2.1.2.2.2.2.2.2.2.1, (x.2.2.1.1, (x.2.2.1.2.1, x.2.2.2.1.1))))))))))))) fun (x : (Unit × Unit × Unit × Unit × (List Int) × Int × Int × Unit) × (((List (List Int)) × (List Int) × (List Int) × Int × Int × Int × Int × Int × Unit) × (Int × (List Int) × Unit) × (Int × Unit × Unit) × (List Bool) × Unit)) => impl_TrimPlan_l0 x.1.2.2.2.2.1 x.1.2.2.2.2.2.1 x.1.2.2.2.2.2.2.1 x.2.2.2.2.1
def simpl_TrimPlan_l1 : LS := ⟨[(4, .one (.fix (.ptr 0 0))), (9, .one (.fix (.ptr 1 0))), (43, .one (.fix (.sref 3))), (44, .one (.dat (.int .i64))), (45, .one (.dat (.int .i64)))], [.box [.dat (.int .i64), .fix .nils], .box [.dat (.int .i64), .fix (.sref 2)], .sl (.int .i64), .sl .bool], []⟩
def simpl_TrimPlan_l1x0 : LS := ⟨[(4, .one (.fix (.ptr 0 0))), (9, .one (.fix (.ptr 1 0)))], [.box [.dat (.int .i64), .fix .nils], .box [.dat (.int .i64), .fix (.sref 2)], .sl (.int .i64)], []⟩
def ximpl_TrimPlan_l1 : List (XS (Int × Int × Int × (List Bool))) := [⟨.exit 2, ⟨[4, 9], [.slot 4, .slot 9, .cell 9 1], [], []⟩, simpl_TrimPlan_l1x0, List Int, fun i y => (((), ((), ())), ((i.2.1, ((), ())), ((i.2.2.1, ((), ())), (y, ()))))⟩]
def impl_TrimPlan_l1K {R : Type} (a0 : Int) (a5 : List Bool) (rc : Int → List Int → Option R) (fin : List Int → Option R) (a1 : Int) (a4 : List Int) : Option R :=
  cond (decide (a1 < a0))
  (cond (decide ((0 : Int) ≤ a1) && decide (a1 < (a5.length : Int)))
    (cond (!(a5.getD (0 + a1.toNat) false))
      (cond (decide ((0 : Int) ≤ a1) && decide (a1 < (a4.length : Int)))
        ((some (a4.set (0 + a1.toNat) (-1))).bind fun v1 =>
          rc (IntKind.i64.wrap (a1 + 1)) v1)
        (none))
      (rc (IntKind.i64.wrap (a1 + 1)) a4))
    (none))
  (fin a4)
def impl_TrimPlan_l1F (a0 : Int) (a5 : List Bool) (r : (Int × (List Int)) → Option (List Int)) (x : Int × (List Int)) : Option (List Int) := impl_TrimPlan_l1K a0 a5 (fun a1 a4 => r (a1, a4)) some x.1 x.2
theorem impl_TrimPlan_l1c (a0 : Int) (a5 : List Bool) (x : Int × (List Int)) : Ct fun r => impl_TrimPlan_l1F a0 a5 r x := by
  unfold impl_TrimPlan_l1F impl_TrimPlan_l1K
  repeat' (first | exact Ct.const | exact Ct.call | refine Ct.cond ?_ ?_ | refine Ct.bind ?_ fun _ => ?_ | refine Ct.sum (fun _ => ?_) fun _ => ?_)
def impl_TrimPlan_l1 (a0 : Int) (a5 : List Bool) (a1 : Int) (a4 : List Int) : Option (List Int) := lim (impl_TrimPlan_l1F a0 a5) (a1, a4)
theorem impl_TrimPlan_l1_eq (a0 : Int) (a5 : List Bool) (a1 : Int) (a4 : List Int) : impl_TrimPlan_l1 a0 a5 a1 a4 = impl_TrimPlan_l1K a0 a5 (impl_TrimPlan_l1 a0 a5) some a1 a4 := lim_eq (impl_TrimPlan_l1c a0 a5) (a1, a4)
theorem impl_TrimPlan_l1p {R : Type} (a0 : Int) (a5 : List Bool) {rc : Int → List Int → Option (List Int)} {rc' : Int → List Int → Option R} {fin : List Int → Option R} (hr : ∀ a1 a4, Par fin (rc a1 a4) (rc' a1 a4)) (a1 : Int) (a4 : List Int) : Par fin (impl_TrimPlan_l1K a0 a5 rc some a1 a4) (impl_TrimPlan_l1K a0 a5 rc' fin a1 a4) := by
  unfold impl_TrimPlan_l1K
  repeat' (first | exact .fin | exact .none | exact hr _ _ | refine .cond ?_ ?_ | refine .bind fun _ => ?_ | refine .sum (fun _ => ?_) fun _ => ?_)
def Limpl_TrimPlan_l1 : Loop := mkL ⟨[4, 9, 43, 44, 45], [.slot 4, .slot 9, .cell 9 1, .slot 43], [], []⟩ simpl_TrimPlan_l1 ximpl_TrimPlan_l1 (fun (x : (Unit × Unit × Unit × Int × Int × Unit) × ((Int × Unit × Unit) × (Int × Unit × Unit) × (List Int) × (List Bool) × Unit)) => (x.1.2.2.2.1, (x.2.1.1, (x.2.2.1.1, x.2.2.2.2.1)))) fun (x : (Unit × Unit × Unit × Int × Int × Unit) × ((Int × Unit × Unit) × (Int × Unit × Unit) × (List Int) × (List Bool) × Unit)) => impl_TrimPlan_l1 x.1.2.2.2.1 x.2.2.2.2.1 x.1.2.2.2.2.1 x.2.2.2.1
def impl_TrimPlanK {R : Type} (fin : (Int × (List Int)) × Bool → Option R) (x0 : DJob) (x1 : DPlan) : Option R :=
  (impl_isKept x0 x1).bind fun y1 =>
  cond (!y1)
  (fin ((0, []), false))
  (cond (decide ((0 : Int) ≤ (x1.2.1.length : Int)) && (decide ((x1.2.1.length : Int) ≤ (x1.2.1.length : Int)) && decide ((x1.2.1.length : Int) ≤ 1099511627776)))
    ((some ((List.replicate ((x1.2.1.length : Int).toNat) false : List Bool))).bind fun v2 =>
      (impl_TrimPlan_l0 x1.2.1 (x1.2.1.length : Int) 0 v2).bind fun y5 =>
      (impl_copyPlan x1).bind fun y6 =>
      (impl_outOf y5).bind fun y7 =>
      (impl_bestPit_N4 x0.1 x0.2.2.1 () y7 false).bind fun y8 =>
      (impl_TrimPlan_l1 (y8.length : Int) y8 0 y6.2).bind fun y10 =>
      fin ((y6.1, y10), true))
    (none))
def impl_TrimPlan (x0 : DJob) (x1 : DPlan) : Option ((Int × (List Int)) × Bool) := impl_TrimPlanK some x0 x1
theorem p45 {R : Type} (fin : (Int × (List Int)) × Bool → Option R) (x0 : DJob) (x1 : DPlan) : Par fin (impl_TrimPlanK some x0 x1) (impl_TrimPlanK fin x0 x1) := by
  unfold impl_TrimPlanK
  repeat' (first | exact .fin | exact .none | refine .cond ?_ ?_ | refine .bind fun _ => ?_ | refine .sum (fun _ => ?_) fun _ => ?_)
def or45 : Ora := { lo := addL 11 (Limpl_TrimPlan_l1) (addL 5 (Limpl_TrimPlan_l0) lo0), fin := [.own (.cell 4 1) (.int .i64)] }
theorem impl_TrimPlan_l0e (a0 : List Int) (a1 : Int) (a3 : List (List Int)) (a4 : List Int) (a5 : List Int) (a6 : Int) (a7 : Int) (a8 : Int) (a9 : Int) (a10 : Int) (a11 : Int) (a12 : List Int) (a13 : Int) (k : Nat) (a2 : Int) (a14 : List Bool) : loopC Try.prog EL45 or45 ((loopsIn (codeOf Try.f45)).getD 0 .skip) (Limpl_TrimPlan_l0).h (Limpl_TrimPlan_l0).ho Try.f45.ntmps (k + 1) (simpl_TrimPlan_l0.out (((), ((), ((), ((), (a0, (a1, (a2, ()))))))), ((a3, (a4, (a5, (a6, (a7, (a8, (a9, (a10, ())))))))), ((a11, (a12, ())), ((a13, ((), ())), (a14, ())))))) =
    impl_TrimPlan_l0K a0 a1 (fun a2 a14 => loopC Try.prog EL45 or45 ((loopsIn (codeOf Try.f45)).getD 0 .skip) (Limpl_TrimPlan_l0).h (Limpl_TrimPlan_l0).ho Try.f45.ntmps k (simpl_TrimPlan_l0.out (((), ((), ((), ((), (a0, (a1, (a2, ()))))))), ((a3, (a4, (a5, (a6, (a7, (a8, (a9, (a10, ())))))))), ((a11, (a12, ())), ((a13, ((), ())), (a14, ()))))))) (fun y => some (XS.out ximpl_TrimPlan_l0 (a0, (a1, (a3, (a4, (a5, (a6, (a7, (a8, (a9, (a10, (a11, (a12, a13)))))))))))) y)) a2 a14 := by kernel_rfl
theorem impl_TrimPlan_l0o : LoopOk Try.prog EL45 or45 Try.f45.ntmps ((loopsIn (codeOf Try.f45)).getD 0 .skip) (Limpl_TrimPlan_l0) :=
  loop_lim (hs := simpl_TrimPlan_l0) (xs := ximpl_TrimPlan_l0) (ι := fun (x : (Unit × Unit × Unit × Unit × (List Int) × Int × Int × Unit) × (((List (List Int)) × (List Int) × (List Int) × Int × Int × Int × Int × Int × Unit) × (Int × (List Int) × Unit) × (Int × Unit × Unit) × (List Bool) × Unit)) => (x.1.2.2.2.2.1, (x.1.2.2.2.2.2.1, (x.2.1.1, (x.2.1.2.1, (x.2.1.2.2.1, (x.2.1.2.2.2.1, (x.2.1.2.2.2.2.1, (x.2.1.2.2.2.2.2.1, (x.2.1.2.2.2.2.2.2.1, (x.2.1.2.2.2.2.2.2.2.1, (x.2.2.1.1, (x.2.2.1.2.1, x.2.2.2.1.1))))))))))))) (φ := fun (x : (Unit × Unit × Unit × Unit × (List Int) × Int × Int × Unit) × (((List (List Int)) × (List Int) × (List Int) × Int × Int × Int × Int × Int × Unit) × (Int × (List Int) × Unit) × (Int × Unit × Unit) × (List Bool) × Unit)) => (x.1.2.2.2.2.2.2.1, x.2.2.2.2.1)) (ψ := fun (i : (List Int) × Int × (List (List Int)) × (List Int) × (List Int) × Int × Int × Int × Int × Int × Int × (List Int) × Int) (v : Int × (List Bool)) => (((), ((), ((), ((), (i.1, (i.2.1, (v.1, ()))))))), ((i.2.2.1, (i.2.2.2.1, (i.2.2.2.2.1, (i.2.2.2.2.2.1, (i.2.2.2.2.2.2.1, (i.2.2.2.2.2.2.2.1, (i.2.2.2.2.2.2.2.2.1, (i.2.2.2.2.2.2.2.2.2.1, ())))))))), ((i.2.2.2.2.2.2.2.2.2.2.1, (i.2.2.2.2.2.2.2.2.2.2.2.1, ())), ((i.2.2.2.2.2.2.2.2.2.2.2.2, ((), ())), (v.2, ())))))) (F := fun (i : (List Int) × Int × (List (List Int)) × (List Int) × (List Int) × Int × Int × Int × Int × Int × Int × (List Int) × Int) => impl_TrimPlan_l0F i.1 i.2.1) (fun _ => rfl) fun i k hk v => Par.of_eq (impl_TrimPlan_l0e i.1 i.2.1 i.2.2.1 i.2.2.2.1 i.2.2.2.2.1 i.2.2.2.2.2.1 i.2.2.2.2.2.2.1 i.2.2.2.2.2.2.2.1 i.2.2.2.2.2.2.2.2.1 i.2.2.2.2.2.2.2.2.2.1 i.2.2.2.2.2.2.2.2.2.2.1 i.2.2.2.2.2.2.2.2.2.2.2.1 i.2.2.2.2.2.2.2.2.2.2.2.2 k v.1 v.2) (impl_TrimPlan_l0p i.1 i.2.1 (fun a2 a14 => hk (a2, a14)) v.1 v.2)
theorem impl_TrimPlan_l1e (a0 : Int) (a2 : Int) (a3 : Int) (a5 : List Bool) (k : Nat) (a1 : Int) (a4 : List Int) : loopC Try.prog EL45 or45 ((loopsIn (codeOf Try.f45)).getD 1 .skip) (Limpl_TrimPlan_l1).h (Limpl_TrimPlan_l1).ho Try.f45.ntmps (k + 1) (simpl_TrimPlan_l1.out (((), ((), ((), (a0, (a1, ()))))), ((a2, ((), ())), ((a3, ((), ())), (a4, (a5, ())))))) =
    impl_TrimPlan_l1K a0 a5 (fun a1 a4 => loopC Try.prog EL45 or45 ((loopsIn (codeOf Try.f45)).getD 1 .skip) (Limpl_TrimPlan_l1).h (Limpl_TrimPlan_l1).ho Try.f45.ntmps k (simpl_TrimPlan_l1.out (((), ((), ((), (a0, (a1, ()))))), ((a2, ((), ())), ((a3, ((), ())), (a4, (a5, ()))))))) (fun y => some (XS.out ximpl_TrimPlan_l1 (a0, (a2, (a3, a5))) y)) a1 a4 := by kernel_rfl
theorem impl_TrimPlan_l1o : LoopOk Try.prog EL45 or45 Try.f45.ntmps ((loopsIn (codeOf Try.f45)).getD 1 .skip) (Limpl_TrimPlan_l1) :=
  loop_lim (hs := simpl_TrimPlan_l1) (xs := ximpl_TrimPlan_l1) (ι := fun (x : (Unit × Unit × Unit × Int × Int × Unit) × ((Int × Unit × Unit) × (Int × Unit × Unit) × (List Int) × (List Bool) × Unit)) => (x.1.2.2.2.1, (x.2.1.1, (x.2.2.1.1, x.2.2.2.2.1)))) (φ := fun (x : (Unit × Unit × Unit × Int × Int × Unit) × ((Int × Unit × Unit) × (Int × Unit × Unit) × (List Int) × (List Bool) × Unit)) => (x.1.2.2.2.2.1, x.2.2.2.1)) (ψ := fun (i : Int × Int × Int × (List Bool)) (v : Int × (List Int)) => (((), ((), ((), (i.1, (v.1, ()))))), ((i.2.1, ((), ())), ((i.2.2.1, ((), ())), (v.2, (i.2.2.2, ())))))) (F := fun (i : Int × Int × Int × (List Bool)) => impl_TrimPlan_l1F i.1 i.2.2.2) (fun _ => rfl) fun i k hk v => Par.of_eq (impl_TrimPlan_l1e i.1 i.2.1 i.2.2.1 i.2.2.2 k v.1 v.2) (impl_TrimPlan_l1p i.1 i.2.2.2 (fun a1 a4 => hk (a1, a4)) v.1 v.2)
def c45 : Callee := mkC [.agg [.ro TJob], .agg [.ro TPlan]] 2 [.agg [.ro (.int .i64), .sl (.int .i64)], .one (.ro .bool)] fun x => impl_TrimPlan x.1 x.2
theorem e45 (x : PK.dens [.agg [.ro TJob], .agg [.ro TPlan]]) : evalFn Try.prog EL45 or45 Try.f45 (PK.outs [.agg [.ro TJob], .agg [.ro TPlan]] x) =
    impl_TrimPlanK (fun y => some (tupOf ((PK.outs [.agg [.ro (.int .i64), .sl (.int .i64)], .one (.ro .bool)] y).take 2), (PK.outs [.agg [.ro (.int .i64), .sl (.int .i64)], .one (.ro .bool)] y).drop 2)) x.1 x.2 := by kernel_rfl
theorem o45 : LoOk Try.prog EL45 or45 Try.f45.ntmps (loopsIn (codeOf Try.f45)) :=
  LoOk.mk (m := 2) (by kernel_rfl) fun i hi => match i, hi with
    | 0, _ => ⟨Limpl_TrimPlan_l0, by kernel_rfl, impl_TrimPlan_l0o⟩
    | 1, _ => ⟨Limpl_TrimPlan_l1, by kernel_rfl, impl_TrimPlan_l1o⟩
    | i + 2, hi => absurd hi (by omega)
theorem k45 : CalleeOk Try.prog 45 c45 := callee_mk Try.func45 (code := codeOf Try.f45) (by kernel_rfl) vL45 mixed o45 fun x y h => (e45 x).trans (p45 _ x.1 x.2 y h)

/-- laws.FnExactTrimPlan -/
def EL11 : Nat → Option Callee := addE 25 c25 (addE 24 c24 (addE 22 c22 (addE 16 c16 (addE 20 c20 (addE 45 c45 (addE 44 c44 (addE 40 c40 (addE 14 c14 (addE 38 c38 (addE 12 c12 env0))))))))))
theorem vL11 : EnvOk Try.prog EL11 := ((((((((((EnvOk.nil.add Try.func12 rfl (by kernel_rfl) k12).add Try.func38 rfl (by kernel_rfl) k38).add Try.func14 rfl (by kernel_rfl) k14).add Try.func40 rfl (by kernel_rfl) k40).add Try.func44 rfl (by kernel_rfl) k44).add Try.func45 rfl (by kernel_rfl) k45).add Try.func20 rfl (by kernel_rfl) k20).add Try.func16 rfl (by kernel_rfl) k16).add Try.func22 rfl (by kernel_rfl) k22).add Try.func24 rfl (by kernel_rfl) k24).add Try.func25 rfl (by kernel_rfl) k25
def laws_FnExactTrimPlanK {R : Type} (fin : Bool → Option R) (x0 : DJob) (x1 : DPlan) : Option R :=
  (laws_szJob x0 1048576).bind fun y1 =>
  cond (decide (y1 < 0))
  (fin true)
  ((laws_szPlan x1 y1).bind fun y2 =>
    cond (decide (y2 < 0))
    (fin true)
    ((laws_toJob x0).bind fun y3 =>
      (laws_toPlan x1).bind fun y4 =>
      (spec_TrimPlan (y3.1, (y3.2.1, (y3.2.2.1, ((y3.2.2.2.1, (y3.2.2.2.2.1, ())), (y3.2.2.2.2.2.1, (y3.2.2.2.2.2.2.1, (y3.2.2.2.2.2.2.2, ()))))))) (y4.1, (y4.2, ()))).bind fun y5 =>
      (laws_toJob x0).bind fun y6 =>
      (laws_toPlan x1).bind fun y7 =>
      (impl_TrimPlan (y6.1, (y6.2.1, (y6.2.2.1, ((y6.2.2.2.1, (y6.2.2.2.2.1, ())), (y6.2.2.2.2.2.1, (y6.2.2.2.2.2.2.1, (y6.2.2.2.2.2.2.2, ()))))))) (y7.1, (y7.2, ()))).bind fun y8 =>
      (laws_eqPlan (y8.1.1, (y8.1.2, ())) (y5.1.1, (y5.1.2, ()))).bind fun y9 =>
      cond (!y9)
      (fin false)
      (cond (!(y8.2 == y5.2))
        (fin false)
        ((laws_toJob x0).bind fun y10 =>
          (laws_eqJob (y6.1, (y6.2.1, (y6.2.2.1, ((y6.2.2.2.1, (y6.2.2.2.2.1, ())), (y6.2.2.2.2.2.1, (y6.2.2.2.2.2.2.1, (y6.2.2.2.2.2.2.2, ()))))))) (y10.1, (y10.2.1, (y10.2.2.1, ((y10.2.2.2.1, (y10.2.2.2.2.1, ())), (y10.2.2.2.2.2.1, (y10.2.2.2.2.2.2.1, (y10.2.2.2.2.2.2.2, ())))))))).bind fun y11 =>
          cond (!y11)
          (fin false)
          ((laws_toPlan x1).bind fun y12 =>
            (laws_eqPlan (y7.1, (y7.2, ())) (y12.1, (y12.2, ()))).bind fun y13 =>
            cond (!y13)
            (fin false)
            ((laws_markJob y6 1).bind fun y14 =>
              (laws_markPlan y7 y14.1).bind fun y15 =>
              cond (decide (y15.1 < 0))
              (fin false)
              ((laws_eqPlan (y8.1.1, (y8.1.2, ())) (y5.1.1, (y5.1.2, ()))).bind fun y16 =>
                cond (!y16)
                (fin false)
                (cond (!(y8.2 == y5.2))
                  (fin false)
                  ((laws_markPlan y8.1 1).bind fun y17 =>
                    (laws_heldPlan (y8.1.1, (y17.2.2, ())) 1).bind fun y18 =>
                    cond (decide (y18 < 0))
                    (fin false)
                    (cond (y18 != y17.1)
                      (fin false)
                      ((laws_toJob x0).bind fun y19 =>
                        (laws_toPlan x1).bind fun y20 =>
                        (impl_TrimPlan (y19.1, (y19.2.1, (y19.2.2.1, ((y19.2.2.2.1, (y19.2.2.2.2.1, ())), (y19.2.2.2.2.2.1, (y19.2.2.2.2.2.2.1, (y19.2.2.2.2.2.2.2, ()))))))) (y20.1, (y20.2, ()))).bind fun y21 =>
                        (laws_eqPlan (y21.1.1, (y21.1.2, ())) (y5.1.1, (y5.1.2, ()))).bind fun y22 =>
                        cond (!y22)
                        (fin false)
                        (cond (!(y21.2 == y5.2))
                          (fin false)
                          ((laws_heldPlan (y8.1.1, (y17.2.2, ())) 1).bind fun y23 =>
                            cond (decide (y23 < 0))
                            (fin false)
                            (cond (y23 != y17.1)
                              (fin false)
                              (fin true)))))))))))))))
def laws_FnExactTrimPlan (x0 : DJob) (x1 : DPlan) : Option (Bool) := laws_FnExactTrimPlanK some x0 x1
theorem p11 {R : Type} (fin : Bool → Option R) (x0 : DJob) (x1 : DPlan) : Par fin (laws_FnExactTrimPlanK some x0 x1) (laws_FnExactTrimPlanK fin x0 x1) := by
  unfold laws_FnExactTrimPlanK
  repeat' (first | exact .fin | exact .none | refine .cond ?_ ?_ | refine .bind fun _ => ?_ | refine .sum (fun _ => ?_) fun _ => ?_)
def c11 : Callee := mkC [.agg [.ro TJob], .agg [.ro TPlan]] 1 [.one (.ro .bool)] fun x => laws_FnExactTrimPlan x.1 x.2
theorem e11 (x : PK.dens [.agg [.ro TJob], .agg [.ro TPlan]]) : evalFn Try.prog EL11 or0 Try.f11 (PK.outs [.agg [.ro TJob], .agg [.ro TPlan]] x) =
    laws_FnExactTrimPlanK (fun y => some (tupOf ((PK.outs [.one (.ro .bool)] y).take 1), (PK.outs [.one (.ro .bool)] y).drop 1)) x.1 x.2 := by kernel_rfl
theorem k11 : CalleeOk Try.prog 11 c11 := callee_mk Try.func11 (code := codeOf Try.f11) (by kernel_rfl) vL11 mixed (LoOk.nil (by kernel_rfl)) fun x y h => (e11 x).trans (p11 _ x.1 x.2 y h)
end
end Go.OAI
