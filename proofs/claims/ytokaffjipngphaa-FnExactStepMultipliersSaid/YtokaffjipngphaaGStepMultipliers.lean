/- Contracts: GStepMultipliers. -/
import Derived.Test.YtokaffjipngphaaGA
import Derived.Test.YtokaffjipngphaaGM
import Derived.Test.YtokaffjipngphaaGRb
namespace Go.OAI
open Go.Proofs
set_option linter.unusedVariables false
noncomputable section


/-- spec.l1Sign -/
def EL67 : Nat → Option Callee := env0
theorem vL67 : EnvOk Try.prog EL67 := EnvOk.nil
def spec_l1SignK {R : Type} (fin : Int → Option R) (x0 : Int) : Option R :=
  cond (decide (x0 > 0))
  (fin 1)
  (cond (decide (x0 < 0))
    (fin (-1))
    (fin 0))
def spec_l1Sign (x0 : Int) : Option (Int) := spec_l1SignK some x0
theorem p67 {R : Type} (fin : Int → Option R) (x0 : Int) : Par fin (spec_l1SignK some x0) (spec_l1SignK fin x0) := by
  unfold spec_l1SignK
  repeat' (first | exact .fin | exact .none | refine .cond ?_ ?_ | refine .bind fun _ => ?_ | refine .sum (fun _ => ?_) fun _ => ?_)
def c67 : Callee := mkC [.one (.ro (.int .i64))] 1 [.one (.ro (.int .i64))] fun x => spec_l1Sign x
theorem e67 (x : PK.dens [.one (.ro (.int .i64))]) : evalFn Try.prog EL67 or0 Try.f67 (PK.outs [.one (.ro (.int .i64))] x) =
    spec_l1SignK (fun y => some (tupOf ((PK.outs [.one (.ro (.int .i64))] y).take 1), (PK.outs [.one (.ro (.int .i64))] y).drop 1)) x := by kernel_rfl
theorem k67 : CalleeOk Try.prog 67 c67 := callee_mk Try.func67 (code := codeOf Try.f67) (by kernel_rfl) vL67 mixed (LoOk.nil (by kernel_rfl)) fun x y h => (e67 x).trans (p67 _ x y h)

/-- spec.l1Most -/
def EL66 : Nat → Option Callee := env0
theorem vL66 : EnvOk Try.prog EL66 := EnvOk.nil
def spec_l1MostK {R : Type} (fin : Int → Option R) (x0 : Int) (x1 : Int) : Option R :=
  cond (decide (x0 > x1))
  (fin x0)
  (fin x1)
def spec_l1Most (x0 : Int) (x1 : Int) : Option (Int) := spec_l1MostK some x0 x1
theorem p66 {R : Type} (fin : Int → Option R) (x0 : Int) (x1 : Int) : Par fin (spec_l1MostK some x0 x1) (spec_l1MostK fin x0 x1) := by
  unfold spec_l1MostK
  repeat' (first | exact .fin | exact .none | refine .cond ?_ ?_ | refine .bind fun _ => ?_ | refine .sum (fun _ => ?_) fun _ => ?_)
def c66 : Callee := mkC [.one (.ro (.int .i64)), .one (.ro (.int .i64))] 1 [.one (.ro (.int .i64))] fun x => spec_l1Most x.1 x.2
theorem e66 (x : PK.dens [.one (.ro (.int .i64)), .one (.ro (.int .i64))]) : evalFn Try.prog EL66 or0 Try.f66 (PK.outs [.one (.ro (.int .i64)), .one (.ro (.int .i64))] x) =
    spec_l1MostK (fun y => some (tupOf ((PK.outs [.one (.ro (.int .i64))] y).take 1), (PK.outs [.one (.ro (.int .i64))] y).drop 1)) x.1 x.2 := by kernel_rfl
theorem k66 : CalleeOk Try.prog 66 c66 := callee_mk Try.func66 (code := codeOf Try.f66) (by kernel_rfl) vL66 mixed (LoOk.nil (by kernel_rfl)) fun x y h => (e66 x).trans (p66 _ x.1 x.2 y h)

/-- spec.StepMultipliers -/
def EL36 : Nat → Option Callee := addE 66 c66 (addE 67 c67 (addE 63 c63 (addE 65 c65 (addE 56 c56 env0))))
theorem vL36 : EnvOk Try.prog EL36 := ((((EnvOk.nil.add Try.func56 rfl (by kernel_rfl) k56).add Try.func65 rfl (by kernel_rfl) k65).add Try.func63 rfl (by kernel_rfl) k63).add Try.func67 rfl (by kernel_rfl) k67).add Try.func66 rfl (by kernel_rfl) k66
def sspec_StepMultipliers_l0 : LS := ⟨[(1, .one (.dat (.slice (.int .i64)))), (2, .one (.dat (.int .i64))), (3, .one (.fix (.ptr 0 0))), (8, .one (.fix (.sref 1))), (22, .one (.fix (.sref 2))), (23, .one (.dat (.int .i64))), (24, .one (.dat (.int .i64)))], [.box [.dat (.slice (.slice (.int .i64))), .dat (.slice (.int .i64)), .dat (.slice (.int .i64)), .dat (.int .i64), .dat (.int .i64), .dat (.int .i64), .dat (.int .i64), .dat (.int .i64)], .sl (.int .i64), .sl (.int .i64)], []⟩
def sspec_StepMultipliers_l0x0 : LS := ⟨[(3, .one (.fix (.ptr 0 0))), (8, .one (.fix (.sref 1)))], [.box [.dat (.slice (.slice (.int .i64))), .dat (.slice (.int .i64)), .dat (.slice (.int .i64)), .dat (.int .i64), .dat (.int .i64), .dat (.int .i64), .dat (.int .i64), .dat (.int .i64)], .sl (.int .i64)], []⟩
def xspec_StepMultipliers_l0 : List (XS ((List Int) × Int × Int × (List (List Int)) × (List Int) × (List Int) × Int × Int × Int × Int × Int × (List Int))) := [⟨.exit 0, ⟨[3, 8], [.slot 3, .slot 8], [], []⟩, sspec_StepMultipliers_l0x0, List Int, fun i y => (((), ((), ())), ((i.2.2.2.1, (i.2.2.2.2.1, (i.2.2.2.2.2.1, (i.2.2.2.2.2.2.1, (i.2.2.2.2.2.2.2.1, (i.2.2.2.2.2.2.2.2.1, (i.2.2.2.2.2.2.2.2.2.1, (i.2.2.2.2.2.2.2.2.2.2.1, ())))))))), (y, ())))⟩]
def spec_StepMultipliers_l0K {R : Type} (a0 : List Int) (a1 : Int) (a2 : Int) (a13 : List Int) (rc : Int → List Int → Option R) (fin : List Int → Option R) (a3 : Int) (a12 : List Int) : Option R :=
  cond (decide (a3 < a2))
  (cond (decide ((0 : Int) ≤ a3) && decide (a3 < (a13.length : Int)))
    ((lat a0 a3).bind fun e1 =>
      (spec_l1Sign (a13.getD (0 + a3.toNat) 0)).bind fun y2 =>
      (spec_l1Most 0 (IntKind.i64.wrap (e1 + (IntKind.i64.wrap (a1 * y2))))).bind fun y3 =>
      cond (decide (a12.length + [y3].length ≤ 1099511627776))
      (rc (IntKind.i64.wrap (a3 + 1)) (a12 ++ [y3]))
      (none))
    (none))
  (fin a12)
def spec_StepMultipliers_l0F (a0 : List Int) (a1 : Int) (a2 : Int) (a13 : List Int) (r : (Int × (List Int)) → Option (List Int)) (x : Int × (List Int)) : Option (List Int) := spec_StepMultipliers_l0K a0 a1 a2 a13 (fun a3 a12 => r (a3, a12)) some x.1 x.2
theorem spec_StepMultipliers_l0c (a0 : List Int) (a1 : Int) (a2 : Int) (a13 : List Int) (x : Int × (List Int)) : Ct fun r => spec_StepMultipliers_l0F a0 a1 a2 a13 r x := by
  unfold spec_StepMultipliers_l0F spec_StepMultipliers_l0K
  repeat' (first | exact Ct.const | exact Ct.call | refine Ct.cond ?_ ?_ | refine Ct.bind ?_ fun _ => ?_ | refine Ct.sum (fun _ => ?_) fun _ => ?_)
def spec_StepMultipliers_l0 (a0 : List Int) (a1 : Int) (a2 : Int) (a13 : List Int) (a3 : Int) (a12 : List Int) : Option (List Int) := lim (spec_StepMultipliers_l0F a0 a1 a2 a13) (a3, a12)
theorem spec_StepMultipliers_l0_eq (a0 : List Int) (a1 : Int) (a2 : Int) (a13 : List Int) (a3 : Int) (a12 : List Int) : spec_StepMultipliers_l0 a0 a1 a2 a13 a3 a12 = spec_StepMultipliers_l0K a0 a1 a2 a13 (spec_StepMultipliers_l0 a0 a1 a2 a13) some a3 a12 := lim_eq (spec_StepMultipliers_l0c a0 a1 a2 a13) (a3, a12)
theorem spec_StepMultipliers_l0p {R : Type} (a0 : List Int) (a1 : Int) (a2 : Int) (a13 : List Int) {rc : Int → List Int → Option (List Int)} {rc' : Int → List Int → Option R} {fin : List Int → Option R} (hr : ∀ a3 a12, Par fin (rc a3 a12) (rc' a3 a12)) (a3 : Int) (a12 : List Int) : Par fin (spec_StepMultipliers_l0K a0 a1 a2 a13 rc some a3 a12) (spec_StepMultipliers_l0K a0 a1 a2 a13 rc' fin a3 a12) := by
  unfold spec_StepMultipliers_l0K
  repeat' (first | exact .fin | exact .none | exact hr _ _ | refine .cond ?_ ?_ | refine .bind fun _ => ?_ | refine .sum (fun _ => ?_) fun _ => ?_)
def Lspec_StepMultipliers_l0 : Loop := mkL ⟨[1, 2, 3, 8, 22, 23, 24], [.slot 3, .slot 8, .slot 22], [], [.own (.slot 8) (.int .i64)]⟩ sspec_StepMultipliers_l0 xspec_StepMultipliers_l0 (fun (x : ((List Int) × Int × Unit × Unit × Unit × Int × Int × Unit) × (((List (List Int)) × (List Int) × (List Int) × Int × Int × Int × Int × Int × Unit) × (List Int) × (List Int) × Unit)) => (x.1.1, (x.1.2.1, (x.1.2.2.2.2.2.1, (x.2.1.1, (x.2.1.2.1, (x.2.1.2.2.1, (x.2.1.2.2.2.1, (x.2.1.2.2.2.2.1, (x.2.1.2.2.2.2.2.1, (x.2.1.2.2.2.2.2.2.1, (x.2.1.2.2.2.2.2.2.2.1, x.2.2.2.1)))))))))))) fun (x : ((List Int) × Int × Unit × Unit × Unit × Int × Int × Unit) × (((List (List Int)) × (List Int) × (List Int) × Int × Int × Int × Int × Int × Unit) × (List Int) × (List Int) × Unit)) => spec_StepMultipliers_l0 x.1.1 x.1.2.1 x.1.2.2.2.2.2.1 x.2.2.2.1 x.1.2.2.2.2.2.2.1 x.2.2.1
def spec_StepMultipliersK {R : Type} (fin : (List Int) × Bool → Option R) (x0 : DJob) (x1 : List Int) (x2 : Int) : Option R :=
  (spec_reGood x0 x1).bind fun y1 =>
  cond (!y1)
  (fin ([], false))
  ((spec_l1In x2 0 1000000).bind fun y2 =>
    cond (!y2)
    (fin ([], false))
    ((spec_reExcess x0 x1).bind fun y3 =>
      (spec_StepMultipliers_l0 x1 x2 (y3.length : Int) y3 0 []).bind fun y10 =>
      (spec_reGood x0 y10).bind fun y11 =>
      cond (!y11)
      (fin ([], false))
      (fin (y10, true))))
def spec_StepMultipliers (x0 : DJob) (x1 : List Int) (x2 : Int) : Option ((List Int) × Bool) := spec_StepMultipliersK some x0 x1 x2
theorem p36 {R : Type} (fin : (List Int) × Bool → Option R) (x0 : DJob) (x1 : List Int) (x2 : Int) : Par fin (spec_StepMultipliersK some x0 x1 x2) (spec_StepMultipliersK fin x0 x1 x2) := by
  unfold spec_StepMultipliersK
  repeat' (first | exact .fin | exact .none | refine .cond ?_ ?_ | refine .bind fun _ => ?_ | refine .sum (fun _ => ?_) fun _ => ?_)
def or36 : Ora := { lo := addL 5 (Lspec_StepMultipliers_l0) lo0, fin := [.own (.slot 6) (.int .i64)] }
theorem spec_StepMultipliers_l0e (a0 : List Int) (a1 : Int) (a2 : Int) (a4 : List (List Int)) (a5 : List Int) (a6 : List Int) (a7 : Int) (a8 : Int) (a9 : Int) (a10 : Int) (a11 : Int) (a13 : List Int) (k : Nat) (a3 : Int) (a12 : List Int) : loopC Try.prog EL36 or36 ((loopsIn (codeOf Try.f36)).getD 0 .skip) (Lspec_StepMultipliers_l0).h (Lspec_StepMultipliers_l0).ho Try.f36.ntmps (k + 1) (sspec_StepMultipliers_l0.out ((a0, (a1, ((), ((), ((), (a2, (a3, ()))))))), ((a4, (a5, (a6, (a7, (a8, (a9, (a10, (a11, ())))))))), (a12, (a13, ()))))) =
    spec_StepMultipliers_l0K a0 a1 a2 a13 (fun a3 a12 => loopC Try.prog EL36 or36 ((loopsIn (codeOf Try.f36)).getD 0 .skip) (Lspec_StepMultipliers_l0).h (Lspec_StepMultipliers_l0).ho Try.f36.ntmps k (sspec_StepMultipliers_l0.out ((a0, (a1, ((), ((), ((), (a2, (a3, ()))))))), ((a4, (a5, (a6, (a7, (a8, (a9, (a10, (a11, ())))))))), (a12, (a13, ())))))) (fun y => some (XS.out xspec_StepMultipliers_l0 (a0, (a1, (a2, (a4, (a5, (a6, (a7, (a8, (a9, (a10, (a11, a13))))))))))) y)) a3 a12 := by kernel_rfl
theorem spec_StepMultipliers_l0o : LoopOk Try.prog EL36 or36 Try.f36.ntmps ((loopsIn (codeOf Try.f36)).getD 0 .skip) (Lspec_StepMultipliers_l0) :=
  loop_lim (hs := sspec_StepMultipliers_l0) (xs := xspec_StepMultipliers_l0) (ι := fun (x : ((List Int) × Int × Unit × Unit × Unit × Int × Int × Unit) × (((List (List Int)) × (List Int) × (List Int) × Int × Int × Int × Int × Int × Unit) × (List Int) × (List Int) × Unit)) => (x.1.1, (x.1.2.1, (x.1.2.2.2.2.2.1, (x.2.1.1, (x.2.1.2.1, (x.2.1.2.2.1, (x.2.1.2.2.2.1, (x.2.1.2.2.2.2.1, (x.2.1.2.2.2.2.2.1, (x.2.1.2.2.2.2.2.2.1, (x.2.1.2.2.2.2.2.2.2.1, x.2.2.2.1)))))))))))) (φ := fun (x : ((List Int) × Int × Unit × Unit × Unit × Int × Int × Unit) × (((List (List Int)) × (List Int) × (List Int) × Int × Int × Int × Int × Int × Unit) × (List Int) × (List Int) × Unit)) => (x.1.2.2.2.2.2.2.1, x.2.2.1)) (ψ := fun (i : (List Int) × Int × Int × (List (List Int)) × (List Int) × (List Int) × Int × Int × Int × Int × Int × (List Int)) (v : Int × (List Int)) => ((i.1, (i.2.1, ((), ((), ((), (i.2.2.1, (v.1, ()))))))), ((i.2.2.2.1, (i.2.2.2.2.1, (i.2.2.2.2.2.1, (i.2.2.2.2.2.2.1, (i.2.2.2.2.2.2.2.1, (i.2.2.2.2.2.2.2.2.1, (i.2.2.2.2.2.2.2.2.2.1, (i.2.2.2.2.2.2.2.2.2.2.1, ())))))))), (v.2, (i.2.2.2.2.2.2.2.2.2.2.2, ()))))) (F := fun (i : (List Int) × Int × Int × (List (List Int)) × (List Int) × (List Int) × Int × Int × Int × Int × Int × (List Int)) => spec_StepMultipliers_l0F i.1 i.2.1 i.2.2.1 i.2.2.2.2.2.2.2.2.2.2.2) (fun _ => rfl) fun i k hk v => Par.of_eq (spec_StepMultipliers_l0e i.1 i.2.1 i.2.2.1 i.2.2.2.1 i.2.2.2.2.1 i.2.2.2.2.2.1 i.2.2.2.2.2.2.1 i.2.2.2.2.2.2.2.1 i.2.2.2.2.2.2.2.2.1 i.2.2.2.2.2.2.2.2.2.1 i.2.2.2.2.2.2.2.2.2.2.1 i.2.2.2.2.2.2.2.2.2.2.2 k v.1 v.2) (spec_StepMultipliers_l0p i.1 i.2.1 i.2.2.1 i.2.2.2.2.2.2.2.2.2.2.2 (fun a3 a12 => hk (a3, a12)) v.1 v.2)
def c36 : Callee := mkC [.agg [.ro TJob], .one (.ro (.slice (.int .i64))), .one (.ro (.int .i64))] 2 [.one (.sl (.int .i64)), .one (.ro .bool)] fun x => spec_StepMultipliers x.1 x.2.1 x.2.2
theorem e36 (x : PK.dens [.agg [.ro TJob], .one (.ro (.slice (.int .i64))), .one (.ro (.int .i64))]) : evalFn Try.prog EL36 or36 Try.f36 (PK.outs [.agg [.ro TJob], .one (.ro (.slice (.int .i64))), .one (.ro (.int .i64))] x) =
    spec_StepMultipliersK (fun y => some (tupOf ((PK.outs [.one (.sl (.int .i64)), .one (.ro .bool)] y).take 2), (PK.outs [.one (.sl (.int .i64)), .one (.ro .bool)] y).drop 2)) x.1 x.2.1 x.2.2 := by kernel_rfl
theorem o36 : LoOk Try.prog EL36 or36 Try.f36.ntmps (loopsIn (codeOf Try.f36)) :=
  LoOk.mk (m := 1) (by kernel_rfl) fun i hi => match i, hi with
    | 0, _ => ⟨Lspec_StepMultipliers_l0, by kernel_rfl, spec_StepMultipliers_l0o⟩
    | i + 1, hi => absurd hi (by omega)
theorem k36 : CalleeOk Try.prog 36 c36 := callee_mk Try.func36 (code := codeOf Try.f36) (by kernel_rfl) vL36 mixed o36 fun x y h => (e36 x).trans (p36 _ x.1 x.2.1 x.2.2 y h)

/-- impl.StepMultipliers -/
def EL37 : Nat → Option Callee := addE 64 c64 (addE 58 c58 (addE 52 c52 env0))
theorem vL37 : EnvOk Try.prog EL37 := ((EnvOk.nil.add Try.func52 rfl (by kernel_rfl) k52).add Try.func58 rfl (by kernel_rfl) k58).add Try.func64 rfl (by kernel_rfl) k64
def simpl_StepMultipliers_l0 : LS := ⟨[(2, .one (.dat (.int .i64))), (3, .one (.fix (.ptr 0 0))), (8, .one (.fix (.sref 1))), (33, .one (.fix (.sref 2))), (34, .one (.dat (.int .i64))), (35, .one (.dat (.int .i64)))], [.box [.dat (.slice (.slice (.int .i64))), .dat (.slice (.int .i64)), .dat (.slice (.int .i64)), .dat (.int .i64), .dat (.int .i64), .dat (.int .i64), .dat (.int .i64), .dat (.int .i64)], .sl (.int .i64), .sl (.int .i64)], []⟩
def simpl_StepMultipliers_l0x0 : LS := ⟨[(3, .one (.fix (.ptr 0 0))), (8, .one (.fix (.sref 1)))], [.box [.dat (.slice (.slice (.int .i64))), .dat (.slice (.int .i64)), .dat (.slice (.int .i64)), .dat (.int .i64), .dat (.int .i64), .dat (.int .i64), .dat (.int .i64), .dat (.int .i64)], .sl (.int .i64)], []⟩
def ximpl_StepMultipliers_l0 : List (XS (Int × Int × (List (List Int)) × (List Int) × (List Int) × Int × Int × Int × Int × Int × (List Int))) := [⟨.exit 0, ⟨[3, 8], [.slot 3, .slot 8], [], []⟩, simpl_StepMultipliers_l0x0, List Int, fun i y => (((), ((), ())), ((i.2.2.1, (i.2.2.2.1, (i.2.2.2.2.1, (i.2.2.2.2.2.1, (i.2.2.2.2.2.2.1, (i.2.2.2.2.2.2.2.1, (i.2.2.2.2.2.2.2.2.1, (i.2.2.2.2.2.2.2.2.2.1, ())))))))), (y, ())))⟩]
def impl_StepMultipliers_l0K {R : Type} (a0 : Int) (a1 : Int) (a12 : List Int) (rc : Int → List Int → Option R) (fin : List Int → Option R) (a2 : Int) (a11 : List Int) : Option R :=
  cond (decide (a2 < a1))
  (cond (decide ((0 : Int) ≤ a2) && decide (a2 < (a12.length : Int)))
    (cond (decide ((a12.getD (0 + a2.toNat) 0) > 0))
      (cond (decide ((0 : Int) ≤ a2) && decide (a2 < (a11.length : Int)))
        (cond (decide ((0 : Int) ≤ a2) && decide (a2 < (a11.length : Int)))
          ((some (a11.set (0 + a2.toNat) (IntKind.i64.wrap ((a11.getD (0 + a2.toNat) 0) + a0)))).bind fun v1 =>
            cond (decide ((a12.getD (0 + a2.toNat) 0) < 0))
            (cond (decide ((0 : Int) ≤ a2) && decide (a2 < (v1.length : Int)))
              (cond (decide ((0 : Int) ≤ a2) && decide (a2 < (v1.length : Int)))
                ((some (v1.set (0 + a2.toNat) (if (IntKind.i64.wrap ((v1.getD (0 + a2.toNat) 0) - a0)) > 0 then IntKind.i64.wrap ((v1.getD (0 + a2.toNat) 0) - a0) else 0))).bind fun v2 =>
                  rc (IntKind.i64.wrap (a2 + 1)) v2)
                (none))
              (none))
            (rc (IntKind.i64.wrap (a2 + 1)) v1))
          (none))
        (none))
      (cond (decide ((a12.getD (0 + a2.toNat) 0) < 0))
        (cond (decide ((0 : Int) ≤ a2) && decide (a2 < (a11.length : Int)))
          (cond (decide ((0 : Int) ≤ a2) && decide (a2 < (a11.length : Int)))
            ((some (a11.set (0 + a2.toNat) (if (IntKind.i64.wrap ((a11.getD (0 + a2.toNat) 0) - a0)) > 0 then IntKind.i64.wrap ((a11.getD (0 + a2.toNat) 0) - a0) else 0))).bind fun v3 =>
              rc (IntKind.i64.wrap (a2 + 1)) v3)
            (none))
          (none))
        (rc (IntKind.i64.wrap (a2 + 1)) a11)))
    (none))
  (fin a11)
def impl_StepMultipliers_l0F (a0 : Int) (a1 : Int) (a12 : List Int) (r : (Int × (List Int)) → Option (List Int)) (x : Int × (List Int)) : Option (List Int) := impl_StepMultipliers_l0K a0 a1 a12 (fun a2 a11 => r (a2, a11)) some x.1 x.2
theorem impl_StepMultipliers_l0c (a0 : Int) (a1 : Int) (a12 : List Int) (x : Int × (List Int)) : Ct fun r => impl_StepMultipliers_l0F a0 a1 a12 r x := by
  unfold impl_StepMultipliers_l0F impl_StepMultipliers_l0K
  repeat' (first | exact Ct.const | exact Ct.call | refine Ct.cond ?_ ?_ | refine Ct.bind ?_ fun _ => ?_ | refine Ct.sum (fun _ => ?_) fun _ => ?_)
def impl_StepMultipliers_l0 (a0 : Int) (a1 : Int) (a12 : List Int) (a2 : Int) (a11 : List Int) : Option (List Int) := lim (impl_StepMultipliers_l0F a0 a1 a12) (a2, a11)
theorem impl_StepMultipliers_l0_eq (a0 : Int) (a1 : Int) (a12 : List Int) (a2 : Int) (a11 : List Int) : impl_StepMultipliers_l0 a0 a1 a12 a2 a11 = impl_StepMultipliers_l0K a0 a1 a12 (impl_StepMultipliers_l0 a0 a1 a12) some a2 a11 := lim_eq (impl_StepMultipliers_l0c a0 a1 a12) (a2, a11)
theorem impl_StepMultipliers_l0p {R : Type} (a0 : Int) (a1 : Int) (a12 : List Int) {rc : Int → List Int → Option (List Int)} {rc' : Int → List Int → Option R} {fin : List Int → Option R} (hr : ∀ a2 a11, Par fin (rc a2 a11) (rc' a2 a11)) (a2 : Int) (a11 : List Int) : Par fin (impl_StepMultipliers_l0K a0 a1 a12 rc some a2 a11) (impl_StepMultipliers_l0K a0 a1 a12 rc' fin a2 a11) := by
  unfold impl_StepMultipliers_l0K
  repeat' (first | exact .fin | exact .none | exact hr _ _ | refine .cond ?_ ?_ | refine .bind fun _ => ?_ | refine .sum (fun _ => ?_) fun _ => ?_)
def Limpl_StepMultipliers_l0 : Loop := mkL ⟨[2, 3, 8, 33, 34, 35], [.slot 3, .slot 8, .slot 33], [], []⟩ simpl_StepMultipliers_l0 ximpl_StepMultipliers_l0 (fun (x : (Int × Unit × Unit × Unit × Int × Int × Unit) × (((List (List Int)) × (List Int) × (List Int) × Int × Int × Int × Int × Int × Unit) × (List Int) × (List Int) × Unit)) => (x.1.1, (x.1.2.2.2.2.1, (x.2.1.1, (x.2.1.2.1, (x.2.1.2.2.1, (x.2.1.2.2.2.1, (x.2.1.2.2.2.2.1, (x.2.1.2.2.2.2.2.1, (x.2.1.2.2.2.2.2.2.1, (x.2.1.2.2.2.2.2.2.2.1, x.2.2.2.1))))))))))) fun (x : (Int × Unit × Unit × Unit × Int × Int × Unit) × (((List (List Int)) × (List Int) × (List Int) × Int × Int × Int × Int × Int × Unit) × (List Int) × (List Int) × Unit)) => impl_StepMultipliers_l0 x.1.1 x.1.2.2.2.2.1 x.2.2.2.1 x.1.2.2.2.2.2.1 x.2.2.1
def impl_StepMultipliersK {R : Type} (fin : (List Int) × Bool → Option R) (x0 : DJob) (x1 : List Int) (x2 : Int) : Option R :=
  (impl_IsJob x0).bind fun y1 =>
  cond (!y1)
  (fin ([], false))
  ((impl_areMultipliers x0 x1).bind fun y2 =>
    cond (!y2)
    (fin ([], false))
    (cond (decide (x2 < 0))
      (fin ([], false))
      (cond (decide (x2 > 1000000))
        (fin ([], false))
        (cond (decide (([] : List Int).length + x1.length ≤ 1099511627776))
          ((impl_excessOf x0 x1).bind fun y3 =>
            (impl_StepMultipliers_l0 x2 (y3.length : Int) y3 0 (([] : List Int) ++ x1)).bind fun y7 =>
            (impl_areMultipliers x0 y7).bind fun y8 =>
            cond (!y8)
            (fin ([], false))
            (fin (y7, true)))
          (none)))))
def impl_StepMultipliers (x0 : DJob) (x1 : List Int) (x2 : Int) : Option ((List Int) × Bool) := impl_StepMultipliersK some x0 x1 x2
theorem p37 {R : Type} (fin : (List Int) × Bool → Option R) (x0 : DJob) (x1 : List Int) (x2 : Int) : Par fin (impl_StepMultipliersK some x0 x1 x2) (impl_StepMultipliersK fin x0 x1 x2) := by
  unfold impl_StepMultipliersK
  repeat' (first | exact .fin | exact .none | refine .cond ?_ ?_ | refine .bind fun _ => ?_ | refine .sum (fun _ => ?_) fun _ => ?_)
def or37 : Ora := { lo := addL 5 (Limpl_StepMultipliers_l0) lo0, fin := [.own (.slot 6) (.int .i64)] }
theorem impl_StepMultipliers_l0e (a0 : Int) (a1 : Int) (a3 : List (List Int)) (a4 : List Int) (a5 : List Int) (a6 : Int) (a7 : Int) (a8 : Int) (a9 : Int) (a10 : Int) (a12 : List Int) (k : Nat) (a2 : Int) (a11 : List Int) : loopC Try.prog EL37 or37 ((loopsIn (codeOf Try.f37)).getD 0 .skip) (Limpl_StepMultipliers_l0).h (Limpl_StepMultipliers_l0).ho Try.f37.ntmps (k + 1) (simpl_StepMultipliers_l0.out ((a0, ((), ((), ((), (a1, (a2, ())))))), ((a3, (a4, (a5, (a6, (a7, (a8, (a9, (a10, ())))))))), (a11, (a12, ()))))) =
    impl_StepMultipliers_l0K a0 a1 a12 (fun a2 a11 => loopC Try.prog EL37 or37 ((loopsIn (codeOf Try.f37)).getD 0 .skip) (Limpl_StepMultipliers_l0).h (Limpl_StepMultipliers_l0).ho Try.f37.ntmps k (simpl_StepMultipliers_l0.out ((a0, ((), ((), ((), (a1, (a2, ())))))), ((a3, (a4, (a5, (a6, (a7, (a8, (a9, (a10, ())))))))), (a11, (a12, ())))))) (fun y => some (XS.out ximpl_StepMultipliers_l0 (a0, (a1, (a3, (a4, (a5, (a6, (a7, (a8, (a9, (a10, a12)))))))))) y)) a2 a11 := by kernel_rfl
theorem impl_StepMultipliers_l0o : LoopOk Try.prog EL37 or37 Try.f37.ntmps ((loopsIn (codeOf Try.f37)).getD 0 .skip) (Limpl_StepMultipliers_l0) :=
  loop_lim (hs := simpl_StepMultipliers_l0) (xs := ximpl_StepMultipliers_l0) (ι := fun (x : (Int × Unit × Unit × Unit × Int × Int × Unit) × (((List (List Int)) × (List Int) × (List Int) × Int × Int × Int × Int × Int × Unit) × (List Int) × (List Int) × Unit)) => (x.1.1, (x.1.2.2.2.2.1, (x.2.1.1, (x.2.1.2.1, (x.2.1.2.2.1, (x.2.1.2.2.2.1, (x.2.1.2.2.2.2.1, (x.2.1.2.2.2.2.2.1, (x.2.1.2.2.2.2.2.2.1, (x.2.1.2.2.2.2.2.2.2.1, x.2.2.2.1))))))))))) (φ := fun (x : (Int × Unit × Unit × Unit × Int × Int × Unit) × (((List (List Int)) × (List Int) × (List Int) × Int × Int × Int × Int × Int × Unit) × (List Int) × (List Int) × Unit)) => (x.1.2.2.2.2.2.1, x.2.2.1)) (ψ := fun (i : Int × Int × (List (List Int)) × (List Int) × (List Int) × Int × Int × Int × Int × Int × (List Int)) (v : Int × (List Int)) => ((i.1, ((), ((), ((), (i.2.1, (v.1, ())))))), ((i.2.2.1, (i.2.2.2.1, (i.2.2.2.2.1, (i.2.2.2.2.2.1, (i.2.2.2.2.2.2.1, (i.2.2.2.2.2.2.2.1, (i.2.2.2.2.2.2.2.2.1, (i.2.2.2.2.2.2.2.2.2.1, ())))))))), (v.2, (i.2.2.2.2.2.2.2.2.2.2, ()))))) (F := fun (i : Int × Int × (List (List Int)) × (List Int) × (List Int) × Int × Int × Int × Int × Int × (List Int)) => impl_StepMultipliers_l0F i.1 i.2.1 i.2.2.2.2.2.2.2.2.2.2) (fun _ => rfl) fun i k hk v => Par.of_eq (impl_StepMultipliers_l0e i.1 i.2.1 i.2.2.1 i.2.2.2.1 i.2.2.2.2.1 i.2.2.2.2.2.1 i.2.2.2.2.2.2.1 i.2.2.2.2.2.2.2.1 i.2.2.2.2.2.2.2.2.1 i.2.2.2.2.2.2.2.2.2.1 i.2.2.2.2.2.2.2.2.2.2 k v.1 v.2) (impl_StepMultipliers_l0p i.1 i.2.1 i.2.2.2.2.2.2.2.2.2.2 (fun a2 a11 => hk (a2, a11)) v.1 v.2)
def c37 : Callee := mkC [.agg [.ro TJob], .one (.ro (.slice (.int .i64))), .one (.ro (.int .i64))] 2 [.one (.sl (.int .i64)), .one (.ro .bool)] fun x => impl_StepMultipliers x.1 x.2.1 x.2.2
theorem e37 (x : PK.dens [.agg [.ro TJob], .one (.ro (.slice (.int .i64))), .one (.ro (.int .i64))]) : evalFn Try.prog EL37 or37 Try.f37 (PK.outs [.agg [.ro TJob], .one (.ro (.slice (.int .i64))), .one (.ro (.int .i64))] x) =
    impl_StepMultipliersK (fun y => some (tupOf ((PK.outs [.one (.sl (.int .i64)), .one (.ro .bool)] y).take 2), (PK.outs [.one (.sl (.int .i64)), .one (.ro .bool)] y).drop 2)) x.1 x.2.1 x.2.2 := by kernel_rfl
theorem o37 : LoOk Try.prog EL37 or37 Try.f37.ntmps (loopsIn (codeOf Try.f37)) :=
  LoOk.mk (m := 1) (by kernel_rfl) fun i hi => match i, hi with
    | 0, _ => ⟨Limpl_StepMultipliers_l0, by kernel_rfl, impl_StepMultipliers_l0o⟩
    | i + 1, hi => absurd hi (by omega)
theorem k37 : CalleeOk Try.prog 37 c37 := callee_mk Try.func37 (code := codeOf Try.f37) (by kernel_rfl) vL37 mixed o37 fun x y h => (e37 x).trans (p37 _ x.1 x.2.1 x.2.2 y h)

/-- laws.FnExactStepMultipliers -/
def EL8 : Nat → Option Callee := addE 30 c30 (addE 23 c23 (addE 22 c22 (addE 16 c16 (addE 21 c21 (addE 37 c37 (addE 36 c36 (addE 18 c18 (addE 14 c14 (addE 12 c12 env0)))))))))
theorem vL8 : EnvOk Try.prog EL8 := (((((((((EnvOk.nil.add Try.func12 rfl (by kernel_rfl) k12).add Try.func14 rfl (by kernel_rfl) k14).add Try.func18 rfl (by kernel_rfl) k18).add Try.func36 rfl (by kernel_rfl) k36).add Try.func37 rfl (by kernel_rfl) k37).add Try.func21 rfl (by kernel_rfl) k21).add Try.func16 rfl (by kernel_rfl) k16).add Try.func22 rfl (by kernel_rfl) k22).add Try.func23 rfl (by kernel_rfl) k23).add Try.func30 rfl (by kernel_rfl) k30
def laws_FnExactStepMultipliersK {R : Type} (fin : Bool → Option R) (x0 : DJob) (x1 : List Int) (x2 : Int) : Option R :=
  cond (decide ((x1.length : Int) > 1048576))
  (fin true)
  ((laws_szJob x0 1048576).bind fun y1 =>
    cond (decide (y1 < 0))
    (fin true)
    ((laws_toJob x0).bind fun y2 =>
      (laws_toIntS x1).bind fun y3 =>
      (spec_StepMultipliers (y2.1, (y2.2.1, (y2.2.2.1, ((y2.2.2.2.1, (y2.2.2.2.2.1, ())), (y2.2.2.2.2.2.1, (y2.2.2.2.2.2.2.1, (y2.2.2.2.2.2.2.2, ()))))))) y3 x2).bind fun y4 =>
      (laws_toJob x0).bind fun y5 =>
      (laws_toIntS x1).bind fun y6 =>
      (impl_StepMultipliers (y5.1, (y5.2.1, (y5.2.2.1, ((y5.2.2.2.1, (y5.2.2.2.2.1, ())), (y5.2.2.2.2.2.1, (y5.2.2.2.2.2.2.1, (y5.2.2.2.2.2.2.2, ()))))))) y6 x2).bind fun y7 =>
      (laws_eqIntS y7.1 y4.1).bind fun y8 =>
      cond (!y8)
      (fin false)
      (cond (!(y7.2 == y4.2))
        (fin false)
        ((laws_toJob x0).bind fun y9 =>
          (laws_eqJob (y5.1, (y5.2.1, (y5.2.2.1, ((y5.2.2.2.1, (y5.2.2.2.2.1, ())), (y5.2.2.2.2.2.1, (y5.2.2.2.2.2.2.1, (y5.2.2.2.2.2.2.2, ()))))))) (y9.1, (y9.2.1, (y9.2.2.1, ((y9.2.2.2.1, (y9.2.2.2.2.1, ())), (y9.2.2.2.2.2.1, (y9.2.2.2.2.2.2.1, (y9.2.2.2.2.2.2.2, ())))))))).bind fun y10 =>
          cond (!y10)
          (fin false)
          ((laws_toIntS x1).bind fun y11 =>
            (laws_eqIntS y6 y11).bind fun y12 =>
            cond (!y12)
            (fin false)
            ((laws_markJob y5 1).bind fun y13 =>
              (laws_markIntS y6 y13.1).bind fun y14 =>
              cond (decide (y14.1 < 0))
              (fin false)
              ((laws_eqIntS y7.1 y4.1).bind fun y15 =>
                cond (!y15)
                (fin false)
                (cond (!(y7.2 == y4.2))
                  (fin false)
                  ((laws_markIntS y7.1 1).bind fun y16 =>
                    (laws_heldIntS y16.2 1).bind fun y17 =>
                    cond (decide (y17 < 0))
                    (fin false)
                    (cond (y17 != y16.1)
                      (fin false)
                      ((laws_toJob x0).bind fun y18 =>
                        (laws_toIntS x1).bind fun y19 =>
                        (impl_StepMultipliers (y18.1, (y18.2.1, (y18.2.2.1, ((y18.2.2.2.1, (y18.2.2.2.2.1, ())), (y18.2.2.2.2.2.1, (y18.2.2.2.2.2.2.1, (y18.2.2.2.2.2.2.2, ()))))))) y19 x2).bind fun y20 =>
                        (laws_eqIntS y20.1 y4.1).bind fun y21 =>
                        cond (!y21)
                        (fin false)
                        (cond (!(y20.2 == y4.2))
                          (fin false)
                          ((laws_heldIntS y16.2 1).bind fun y22 =>
                            cond (decide (y22 < 0))
                            (fin false)
                            (cond (y22 != y16.1)
                              (fin false)
                              (fin true)))))))))))))))
def laws_FnExactStepMultipliers (x0 : DJob) (x1 : List Int) (x2 : Int) : Option (Bool) := laws_FnExactStepMultipliersK some x0 x1 x2
theorem p8 {R : Type} (fin : Bool → Option R) (x0 : DJob) (x1 : List Int) (x2 : Int) : Par fin (laws_FnExactStepMultipliersK some x0 x1 x2) (laws_FnExactStepMultipliersK fin x0 x1 x2) := by
  unfold laws_FnExactStepMultipliersK
  repeat' (first | exact .fin | exact .none | refine .cond ?_ ?_ | refine .bind fun _ => ?_ | refine .sum (fun _ => ?_) fun _ => ?_)
def c8 : Callee := mkC [.agg [.ro TJob], .one (.ro (.slice (.int .i64))), .one (.ro (.int .i64))] 1 [.one (.ro .bool)] fun x => laws_FnExactStepMultipliers x.1 x.2.1 x.2.2
theorem e8 (x : PK.dens [.agg [.ro TJob], .one (.ro (.slice (.int .i64))), .one (.ro (.int .i64))]) : evalFn Try.prog EL8 or0 Try.f8 (PK.outs [.agg [.ro TJob], .one (.ro (.slice (.int .i64))), .one (.ro (.int .i64))] x) =
    laws_FnExactStepMultipliersK (fun y => some (tupOf ((PK.outs [.one (.ro .bool)] y).take 1), (PK.outs [.one (.ro .bool)] y).drop 1)) x.1 x.2.1 x.2.2 := by kernel_rfl
theorem k8 : CalleeOk Try.prog 8 c8 := callee_mk Try.func8 (code := codeOf Try.f8) (by kernel_rfl) vL8 mixed (LoOk.nil (by kernel_rfl)) fun x y h => (e8 x).trans (p8 _ x.1 x.2.1 x.2.2 y h)
end
end Go.OAI
