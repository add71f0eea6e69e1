/- Contracts: GLaterPlan. -/
import Derived.Test.YtnmeejeedfeolaaGA
import Derived.Test.YtnmeejeedfeolaaGF
import Derived.Test.YtnmeejeedfeolaaGK
namespace Go.OAI
open Go.Proofs
set_option linter.unusedVariables false
noncomputable section


/-- spec.LaterPlan -/
def EL56 : Nat → Option Callee := addE 101 c101 (addE 77 c77 (addE 100 c100 env0))
theorem vL56 : EnvOk Try.prog EL56 := ((EnvOk.nil.add Try.func100 rfl (by kernel_rfl) k100).add Try.func77 rfl (by kernel_rfl) k77).add Try.func101 rfl (by kernel_rfl) k101
def sspec_LaterPlan_l1 : LS := ⟨[(2, .one (.fix (.ptr 0 0))), (4, .one (.fix (.ptr 1 0))), (6, .one (.fix (.ptr 2 0))), (7, .one (.dat (.int .i64))), (8, .one (.dat (.int .i64)))], [.box [.dat (.slice (.slice (.int .i64))), .dat (.slice (.int .i64)), .dat (.slice (.int .i64)), .dat (.int .i64), .dat (.int .i64), .dat (.int .i64), .dat (.int .i64), .dat (.int .i64)], .box [.dat (.int .i64), .fix .nils], .box [.dat (.int .i64), .fix (.sref 3)], .sl (.int .i64)], []⟩
def sspec_LaterPlan_l1x0 : LS := ⟨[(2, .one (.fix (.ptr 0 0))), (4, .one (.fix (.ptr 1 0))), (6, .one (.fix (.ptr 2 0))), (7, .one (.dat (.int .i64)))], [.box [.dat (.slice (.slice (.int .i64))), .dat (.slice (.int .i64)), .dat (.slice (.int .i64)), .dat (.int .i64), .dat (.int .i64), .dat (.int .i64), .dat (.int .i64), .dat (.int .i64)], .box [.dat (.int .i64), .fix .nils], .box [.dat (.int .i64), .fix (.sref 3)], .sl (.int .i64)], []⟩
def xspec_LaterPlan_l1 : List (XS (Int × (List (List Int)) × (List Int) × (List Int) × Int × Int × Int × Int × Int × Int)) := [⟨.exit 2, ⟨[2, 4, 6, 7], [.slot 2, .slot 4, .slot 6, .cell 6 1], [], []⟩, sspec_LaterPlan_l1x0, Int × (List Int), fun i y => (((), ((), ((), (i.1, ())))), ((i.2.1, (i.2.2.1, (i.2.2.2.1, (i.2.2.2.2.1, (i.2.2.2.2.2.1, (i.2.2.2.2.2.2.1, (i.2.2.2.2.2.2.2.1, (i.2.2.2.2.2.2.2.2.1, ())))))))), ((i.2.2.2.2.2.2.2.2.2, ((), ())), ((y.1, ((), ())), (y.2, ())))))⟩]
def spec_LaterPlan_l1K {R : Type} (a0 : Int) (a2 : List (List Int)) (a3 : List Int) (a4 : List Int) (a5 : Int) (a6 : Int) (a7 : Int) (a8 : Int) (a9 : Int) (rc : Int → Int → List Int → Option R) (fin : Int × (List Int) → Option R) (a1 : Int) (a11 : Int) (a12 : List Int) : Option R :=
  cond (decide ((0 : Int) ≤ a0) && decide (a0 < (a12.length : Int)))
  (cond (decide (a1 > (a12.getD (0 + a0.toNat) 0)))
    ((spec_plWith (a11, (a12, ())) a0 a1).bind fun y1 =>
      (spec_plFeasible (a2, (a3, (a4, ((a5, (a6, ())), (a7, (a8, (a9, ()))))))) (y1.1, (y1.2, ()))).bind fun y2 =>
      cond (y2)
      (rc (IntKind.i64.wrap (a1 - 1)) y1.1 y1.2)
      (rc (IntKind.i64.wrap (a1 - 1)) a11 a12))
    (fin (a11, a12)))
  (none)
def spec_LaterPlan_l1F (a0 : Int) (a2 : List (List Int)) (a3 : List Int) (a4 : List Int) (a5 : Int) (a6 : Int) (a7 : Int) (a8 : Int) (a9 : Int) (r : (Int × Int × (List Int)) → Option (Int × (List Int))) (x : Int × Int × (List Int)) : Option (Int × (List Int)) := spec_LaterPlan_l1K a0 a2 a3 a4 a5 a6 a7 a8 a9 (fun a1 a11 a12 => r (a1, (a11, a12))) some x.1 x.2.1 x.2.2
theorem spec_LaterPlan_l1c (a0 : Int) (a2 : List (List Int)) (a3 : List Int) (a4 : List Int) (a5 : Int) (a6 : Int) (a7 : Int) (a8 : Int) (a9 : Int) (x : Int × Int × (List Int)) : Ct fun r => spec_LaterPlan_l1F a0 a2 a3 a4 a5 a6 a7 a8 a9 r x := by
  unfold spec_LaterPlan_l1F spec_LaterPlan_l1K
  repeat' (first | exact Ct.const | exact Ct.call | refine Ct.cond ?_ ?_ | refine Ct.bind ?_ fun _ => ?_ | refine Ct.sum (fun _ => ?_) fun _ => ?_)
def spec_LaterPlan_l1 (a0 : Int) (a2 : List (List Int)) (a3 : List Int) (a4 : List Int) (a5 : Int) (a6 : Int) (a7 : Int) (a8 : Int) (a9 : Int) (a1 : Int) (a11 : Int) (a12 : List Int) : Option (Int × (List Int)) := lim (spec_LaterPlan_l1F a0 a2 a3 a4 a5 a6 a7 a8 a9) (a1, (a11, a12))
theorem spec_LaterPlan_l1_eq (a0 : Int) (a2 : List (List Int)) (a3 : List Int) (a4 : List Int) (a5 : Int) (a6 : Int) (a7 : Int) (a8 : Int) (a9 : Int) (a1 : Int) (a11 : Int) (a12 : List Int) : spec_LaterPlan_l1 a0 a2 a3 a4 a5 a6 a7 a8 a9 a1 a11 a12 = spec_LaterPlan_l1K a0 a2 a3 a4 a5 a6 a7 a8 a9 (spec_LaterPlan_l1 a0 a2 a3 a4 a5 a6 a7 a8 a9) some a1 a11 a12 := lim_eq (spec_LaterPlan_l1c a0 a2 a3 a4 a5 a6 a7 a8 a9) (a1, (a11, a12))
theorem spec_LaterPlan_l1p {R : Type} (a0 : Int) (a2 : List (List Int)) (a3 : List Int) (a4 : List Int) (a5 : Int) (a6 : Int) (a7 : Int) (a8 : Int) (a9 : Int) {rc : Int → Int → List Int → Option (Int × (List Int))} {rc' : Int → Int → List Int → Option R} {fin : Int × (List Int) → Option R} (hr : ∀ a1 a11 a12, Par fin (rc a1 a11 a12) (rc' a1 a11 a12)) (a1 : Int) (a11 : Int) (a12 : List Int) : Par fin (spec_LaterPlan_l1K a0 a2 a3 a4 a5 a6 a7 a8 a9 rc some a1 a11 a12) (spec_LaterPlan_l1K a0 a2 a3 a4 a5 a6 a7 a8 a9 rc' fin a1 a11 a12) := by
  unfold spec_LaterPlan_l1K
  repeat' (first | exact .fin | exact .none | exact hr _ _ _ | refine .cond ?_ ?_ | refine .bind fun _ => ?_ | refine .sum (fun _ => ?_) fun _ => ?_)
def Lspec_LaterPlan_l1 : Loop := mkL ⟨[2, 4, 6, 7, 8], [.slot 2, .slot 4, .slot 6, .cell 6 1], [], []⟩ sspec_LaterPlan_l1 xspec_LaterPlan_l1 (fun (x : (Unit × Unit × Unit × Int × Int × Unit) × (((List (List Int)) × (List Int) × (List Int) × Int × Int × Int × Int × Int × Unit) × (Int × Unit × Unit) × (Int × Unit × Unit) × (List Int) × Unit)) => (x.1.2.2.2.1, (x.2.1.1, (x.2.1.2.1, (x.2.1.2.2.1, (x.2.1.2.2.2.1, (x.2.1.2.2.2.2.1, (x.2.1.2.2.2.2.2.1, (x.2.1.2.2.2.2.2.2.1, (x.2.1.2.2.2.2.2.2.2.1, x.2.2.1.1)))))))))) fun (x : (Unit × Unit × Unit × Int × Int × Unit) × (((List (List Int)) × (List Int) × (List Int) × Int × Int × Int × Int × Int × Unit) × (Int × Unit × Unit) × (Int × Unit × Unit) × (List Int) × Unit)) => spec_LaterPlan_l1 x.1.2.2.2.1 x.2.1.1 x.2.1.2.1 x.2.1.2.2.1 x.2.1.2.2.2.1 x.2.1.2.2.2.2.1 x.2.1.2.2.2.2.2.1 x.2.1.2.2.2.2.2.2.1 x.2.1.2.2.2.2.2.2.2.1 x.1.2.2.2.2.1 x.2.2.2.1.1 x.2.2.2.2.1
def sspec_LaterPlan_l0 : LS := ⟨[(2, .one (.fix (.ptr 0 0))), (4, .one (.fix (.ptr 1 0))), (6, .one (.fix (.ptr 2 0))), (7, .one (.dat (.int .i64)))], [.box [.dat (.slice (.slice (.int .i64))), .dat (.slice (.int .i64)), .dat (.slice (.int .i64)), .dat (.int .i64), .dat (.int .i64), .dat (.int .i64), .dat (.int .i64), .dat (.int .i64)], .box [.dat (.int .i64), .fix .nils], .box [.dat (.int .i64), .fix (.sref 3)], .sl (.int .i64)], []⟩
def sspec_LaterPlan_l0x0 : LS := ⟨[(4, .one (.fix (.ptr 0 0))), (6, .one (.fix (.ptr 1 0)))], [.box [.dat (.int .i64), .fix .nils], .box [.dat (.int .i64), .fix (.sref 2)], .sl (.int .i64)], []⟩
def xspec_LaterPlan_l0 : List (XS ((List (List Int)) × (List Int) × (List Int) × Int × Int × Int × Int × Int × Int)) := [⟨.exit 0, ⟨[4, 6], [.slot 4, .slot 6, .cell 6 1], [], []⟩, sspec_LaterPlan_l0x0, Int × (List Int), fun i y => (((), ((), ())), ((i.2.2.2.2.2.2.2.2, ((), ())), ((y.1, ((), ())), (y.2, ()))))⟩]
def spec_LaterPlan_l0K {R : Type} (a1 : List (List Int)) (a2 : List Int) (a3 : List Int) (a4 : Int) (a5 : Int) (a6 : Int) (a7 : Int) (a8 : Int) (rc : Int → Int → List Int → Option R) (fin : Int × (List Int) → Option R) (a0 : Int) (a10 : Int) (a11 : List Int) : Option R :=
  cond (decide (a0 ≥ 0))
  (cond (decide ((0 : Int) ≤ a0) && decide (a0 < (a11.length : Int)))
    (cond (decide ((a11.getD (0 + a0.toNat) 0) < 0))
      (rc (IntKind.i64.wrap (a0 - 1)) a10 a11)
      ((lat a3 a0).bind fun e1 =>
        cond (decide (e1 > 0))
        (rc (IntKind.i64.wrap (a0 - 1)) a10 a11)
        ((spec_LaterPlan_l1 a0 a1 a2 a3 a4 a5 a6 a7 a8 (IntKind.i64.wrap (a6 - 1)) a10 a11).bind fun y4 =>
          rc (IntKind.i64.wrap (a0 - 1)) y4.1 y4.2)))
    (none))
  (fin (a10, a11))
def spec_LaterPlan_l0F (a1 : List (List Int)) (a2 : List Int) (a3 : List Int) (a4 : Int) (a5 : Int) (a6 : Int) (a7 : Int) (a8 : Int) (r : (Int × Int × (List Int)) → Option (Int × (List Int))) (x : Int × Int × (List Int)) : Option (Int × (List Int)) := spec_LaterPlan_l0K a1 a2 a3 a4 a5 a6 a7 a8 (fun a0 a10 a11 => r (a0, (a10, a11))) some x.1 x.2.1 x.2.2
theorem spec_LaterPlan_l0c (a1 : List (List Int)) (a2 : List Int) (a3 : List Int) (a4 : Int) (a5 : Int) (a6 : Int) (a7 : Int) (a8 : Int) (x : Int × Int × (List Int)) : Ct fun r => spec_LaterPlan_l0F a1 a2 a3 a4 a5 a6 a7 a8 r x := by
  unfold spec_LaterPlan_l0F spec_LaterPlan_l0K
  repeat' (first | exact Ct.const | exact Ct.call | refine Ct.cond ?_ ?_ | refine Ct.bind ?_ fun _ => ?_ | refine Ct.sum (fun _ => ?_) fun _ => ?_)
def spec_LaterPlan_l0 (a1 : List (List Int)) (a2 : List Int) (a3 : List Int) (a4 : Int) (a5 : Int) (a6 : Int) (a7 : Int) (a8 : Int) (a0 : Int) (a10 : Int) (a11 : List Int) : Option (Int × (List Int)) := lim (spec_LaterPlan_l0F a1 a2 a3 a4 a5 a6 a7 a8) (a0, (a10, a11))
theorem spec_LaterPlan_l0_eq (a1 : List (List Int)) (a2 : List Int) (a3 : List Int) (a4 : Int) (a5 : Int) (a6 : Int) (a7 : Int) (a8 : Int) (a0 : Int) (a10 : Int) (a11 : List Int) : spec_LaterPlan_l0 a1 a2 a3 a4 a5 a6 a7 a8 a0 a10 a11 = spec_LaterPlan_l0K a1 a2 a3 a4 a5 a6 a7 a8 (spec_LaterPlan_l0 a1 a2 a3 a4 a5 a6 a7 a8) some a0 a10 a11 := lim_eq (spec_LaterPlan_l0c a1 a2 a3 a4 a5 a6 a7 a8) (a0, (a10, a11))
theorem spec_LaterPlan_l0p {R : Type} (a1 : List (List Int)) (a2 : List Int) (a3 : List Int) (a4 : Int) (a5 : Int) (a6 : Int) (a7 : Int) (a8 : Int) {rc : Int → Int → List Int → Option (Int × (List Int))} {rc' : Int → Int → List Int → Option R} {fin : Int × (List Int) → Option R} (hr : ∀ a0 a10 a11, Par fin (rc a0 a10 a11) (rc' a0 a10 a11)) (a0 : Int) (a10 : Int) (a11 : List Int) : Par fin (spec_LaterPlan_l0K a1 a2 a3 a4 a5 a6 a7 a8 rc some a0 a10 a11) (spec_LaterPlan_l0K a1 a2 a3 a4 a5 a6 a7 a8 rc' fin a0 a10 a11) := by
  unfold spec_LaterPlan_l0K
  repeat' (first | exact .fin | exact .none | exact hr _ _ _ | refine .cond ?_ ?_ | refine .bind fun _ => ?_ | refine .sum (fun _ => ?_) fun _ => ?_)
def Lspec_LaterPlan_l0 : Loop := mkL ⟨[2, 4, 6, 7], [.slot 2, .slot 4, .slot 6, .cell 6 1], [], []⟩ sspec_LaterPlan_l0 xspec_LaterPlan_l0 (fun (x : (Unit × Unit × Unit × Int × Unit) × (((List (List Int)) × (List Int) × (List Int) × Int × Int × Int × Int × Int × Unit) × (Int × Unit × Unit) × (Int × Unit × Unit) × (List Int) × Unit)) => (x.2.1.1, (x.2.1.2.1, (x.2.1.2.2.1, (x.2.1.2.2.2.1, (x.2.1.2.2.2.2.1, (x.2.1.2.2.2.2.2.1, (x.2.1.2.2.2.2.2.2.1, (x.2.1.2.2.2.2.2.2.2.1, x.2.2.1.1))))))))) fun (x : (Unit × Unit × Unit × Int × Unit) × (((List (List Int)) × (List Int) × (List Int) × Int × Int × Int × Int × Int × Unit) × (Int × Unit × Unit) × (Int × Unit × Unit) × (List Int) × Unit)) => spec_LaterPlan_l0 x.2.1.1 x.2.1.2.1 x.2.1.2.2.1 x.2.1.2.2.2.1 x.2.1.2.2.2.2.1 x.2.1.2.2.2.2.2.1 x.2.1.2.2.2.2.2.2.1 x.2.1.2.2.2.2.2.2.2.1 x.1.2.2.2.1 x.2.2.2.1.1 x.2.2.2.2.1
def spec_LaterPlanK {R : Type} (fin : (Int × (List Int)) × Bool → Option R) (x0 : DJob) (x1 : DPlan) : Option R :=
  (spec_wiGood x0 x1).bind fun y1 =>
  cond (!y1)
  (fin ((0, []), false))
  ((lat x1.2.1 0).bind fun e2 =>
    (spec_plWith x1 0 e2).bind fun y3 =>
    (spec_LaterPlan_l0 x0.1 x0.2.1 x0.2.2.1 x0.2.2.2.1.1 x0.2.2.2.1.2.1 x0.2.2.2.2.1 x0.2.2.2.2.2.1 x0.2.2.2.2.2.2.1 (IntKind.i64.wrap ((x1.2.1.length : Int) - 1)) y3.1 y3.2).bind fun y8 =>
    fin (y8, true))
def spec_LaterPlan (x0 : DJob) (x1 : DPlan) : Option ((Int × (List Int)) × Bool) := spec_LaterPlanK some x0 x1
theorem p56 {R : Type} (fin : (Int × (List Int)) × Bool → Option R) (x0 : DJob) (x1 : DPlan) : Par fin (spec_LaterPlanK some x0 x1) (spec_LaterPlanK fin x0 x1) := by
  unfold spec_LaterPlanK
  repeat' (first | exact .fin | exact .none | refine .cond ?_ ?_ | refine .bind fun _ => ?_ | refine .sum (fun _ => ?_) fun _ => ?_)
def or56 : Ora := { lo := addL 5 (Lspec_LaterPlan_l0) (addL 9 (Lspec_LaterPlan_l1) lo0), fin := [.own (.cell 4 1) (.int .i64)] }
theorem spec_LaterPlan_l1e (a0 : Int) (a2 : List (List Int)) (a3 : List Int) (a4 : List Int) (a5 : Int) (a6 : Int) (a7 : Int) (a8 : Int) (a9 : Int) (a10 : Int) (k : Nat) (a1 : Int) (a11 : Int) (a12 : List Int) : loopC Try.prog EL56 or56 ((loopsIn (codeOf Try.f56)).getD 1 .skip) (Lspec_LaterPlan_l1).h (Lspec_LaterPlan_l1).ho Try.f56.ntmps (k + 1) (sspec_LaterPlan_l1.out (((), ((), ((), (a0, (a1, ()))))), ((a2, (a3, (a4, (a5, (a6, (a7, (a8, (a9, ())))))))), ((a10, ((), ())), ((a11, ((), ())), (a12, ())))))) =
    spec_LaterPlan_l1K a0 a2 a3 a4 a5 a6 a7 a8 a9 (fun a1 a11 a12 => loopC Try.prog EL56 or56 ((loopsIn (codeOf Try.f56)).getD 1 .skip) (Lspec_LaterPlan_l1).h (Lspec_LaterPlan_l1).ho Try.f56.ntmps k (sspec_LaterPlan_l1.out (((), ((), ((), (a0, (a1, ()))))), ((a2, (a3, (a4, (a5, (a6, (a7, (a8, (a9, ())))))))), ((a10, ((), ())), ((a11, ((), ())), (a12, ()))))))) (fun y => some (XS.out xspec_LaterPlan_l1 (a0, (a2, (a3, (a4, (a5, (a6, (a7, (a8, (a9, a10))))))))) y)) a1 a11 a12 := by kernel_rfl
theorem spec_LaterPlan_l1o : LoopOk Try.prog EL56 or56 Try.f56.ntmps ((loopsIn (codeOf Try.f56)).getD 1 .skip) (Lspec_LaterPlan_l1) :=
  loop_lim (hs := sspec_LaterPlan_l1) (xs := xspec_LaterPlan_l1) (ι := fun (x : (Unit × Unit × Unit × Int × Int × Unit) × (((List (List Int)) × (List Int) × (List Int) × Int × Int × Int × Int × Int × Unit) × (Int × Unit × Unit) × (Int × Unit × Unit) × (List Int) × Unit)) => (x.1.2.2.2.1, (x.2.1.1, (x.2.1.2.1, (x.2.1.2.2.1, (x.2.1.2.2.2.1, (x.2.1.2.2.2.2.1, (x.2.1.2.2.2.2.2.1, (x.2.1.2.2.2.2.2.2.1, (x.2.1.2.2.2.2.2.2.2.1, x.2.2.1.1)))))))))) (φ := fun (x : (Unit × Unit × Unit × Int × Int × Unit) × (((List (List Int)) × (List Int) × (List Int) × Int × Int × Int × Int × Int × Unit) × (Int × Unit × Unit) × (Int × Unit × Unit) × (List Int) × Unit)) => (x.1.2.2.2.2.1, (x.2.2.2.1.1, x.2.2.2.2.1))) (ψ := fun (i : Int × (List (List Int)) × (List Int) × (List Int) × Int × Int × Int × Int × Int × Int) (v : Int × Int × (List Int)) => (((), ((), ((), (i.1, (v.1, ()))))), ((i.2.1, (i.2.2.1, (i.2.2.2.1, (i.2.2.2.2.1, (i.2.2.2.2.2.1, (i.2.2.2.2.2.2.1, (i.2.2.2.2.2.2.2.1, (i.2.2.2.2.2.2.2.2.1, ())))))))), ((i.2.2.2.2.2.2.2.2.2, ((), ())), ((v.2.1, ((), ())), (v.2.2, ())))))) (F := fun (i : Int × (List (List Int)) × (List Int) × (List Int) × Int × Int × Int × Int × Int × Int) => spec_LaterPlan_l1F i.1 i.2.1 i.2.2.1 i.2.2.2.1 i.2.2.2.2.1 i.2.2.2.2.2.1 i.2.2.2.2.2.2.1 i.2.2.2.2.2.2.2.1 i.2.2.2.2.2.2.2.2.1) (fun _ => rfl) fun i k hk v => Par.of_eq (spec_LaterPlan_l1e i.1 i.2.1 i.2.2.1 i.2.2.2.1 i.2.2.2.2.1 i.2.2.2.2.2.1 i.2.2.2.2.2.2.1 i.2.2.2.2.2.2.2.1 i.2.2.2.2.2.2.2.2.1 i.2.2.2.2.2.2.2.2.2 k v.1 v.2.1 v.2.2) (spec_LaterPlan_l1p i.1 i.2.1 i.2.2.1 i.2.2.2.1 i.2.2.2.2.1 i.2.2.2.2.2.1 i.2.2.2.2.2.2.1 i.2.2.2.2.2.2.2.1 i.2.2.2.2.2.2.2.2.1 (fun a1 a11 a12 => hk (a1, (a11, a12))) v.1 v.2.1 v.2.2)
theorem spec_LaterPlan_l0e (a1 : List (List Int)) (a2 : List Int) (a3 : List Int) (a4 : Int) (a5 : Int) (a6 : Int) (a7 : Int) (a8 : Int) (a9 : Int) (k : Nat) (a0 : Int) (a10 : Int) (a11 : List Int) : loopC Try.prog EL56 or56 ((loopsIn (codeOf Try.f56)).getD 0 .skip) (Lspec_LaterPlan_l0).h (Lspec_LaterPlan_l0).ho Try.f56.ntmps (k + 1) (sspec_LaterPlan_l0.out (((), ((), ((), (a0, ())))), ((a1, (a2, (a3, (a4, (a5, (a6, (a7, (a8, ())))))))), ((a9, ((), ())), ((a10, ((), ())), (a11, ())))))) =
    spec_LaterPlan_l0K a1 a2 a3 a4 a5 a6 a7 a8 (fun a0 a10 a11 => loopC Try.prog EL56 or56 ((loopsIn (codeOf Try.f56)).getD 0 .skip) (Lspec_LaterPlan_l0).h (Lspec_LaterPlan_l0).ho Try.f56.ntmps k (sspec_LaterPlan_l0.out (((), ((), ((), (a0, ())))), ((a1, (a2, (a3, (a4, (a5, (a6, (a7, (a8, ())))))))), ((a9, ((), ())), ((a10, ((), ())), (a11, ()))))))) (fun y => some (XS.out xspec_LaterPlan_l0 (a1, (a2, (a3, (a4, (a5, (a6, (a7, (a8, a9)))))))) y)) a0 a10 a11 := by kernel_rfl
theorem spec_LaterPlan_l0o : LoopOk Try.prog EL56 or56 Try.f56.ntmps ((loopsIn (codeOf Try.f56)).getD 0 .skip) (Lspec_LaterPlan_l0) :=
  loop_lim (hs := sspec_LaterPlan_l0) (xs := xspec_LaterPlan_l0) (ι := fun (x : (Unit × Unit × Unit × Int × Unit) × (((List (List Int)) × (List Int) × (List Int) × Int × Int × Int × Int × Int × Unit) × (Int × Unit × Unit) × (Int × Unit × Unit) × (List Int) × Unit)) => (x.2.1.1, (x.2.1.2.1, (x.2.1.2.2.1, (x.2.1.2.2.2.1, (x.2.1.2.2.2.2.1, (x.2.1.2.2.2.2.2.1, (x.2.1.2.2.2.2.2.2.1, (x.2.1.2.2.2.2.2.2.2.1, x.2.2.1.1))))))))) (φ := fun (x : (Unit × Unit × Unit × Int × Unit) × (((List (List Int)) × (List Int) × (List Int) × Int × Int × Int × Int × Int × Unit) × (Int × Unit × Unit) × (Int × Unit × Unit) × (List Int) × Unit)) => (x.1.2.2.2.1, (x.2.2.2.1.1, x.2.2.2.2.1))) (ψ := fun (i : (List (List Int)) × (List Int) × (List Int) × Int × Int × Int × Int × Int × Int) (v : Int × Int × (List Int)) => (((), ((), ((), (v.1, ())))), ((i.1, (i.2.1, (i.2.2.1, (i.2.2.2.1, (i.2.2.2.2.1, (i.2.2.2.2.2.1, (i.2.2.2.2.2.2.1, (i.2.2.2.2.2.2.2.1, ())))))))), ((i.2.2.2.2.2.2.2.2, ((), ())), ((v.2.1, ((), ())), (v.2.2, ())))))) (F := fun (i : (List (List Int)) × (List Int) × (List Int) × Int × Int × Int × Int × Int × Int) => spec_LaterPlan_l0F i.1 i.2.1 i.2.2.1 i.2.2.2.1 i.2.2.2.2.1 i.2.2.2.2.2.1 i.2.2.2.2.2.2.1 i.2.2.2.2.2.2.2.1) (fun _ => rfl) fun i k hk v => Par.of_eq (spec_LaterPlan_l0e i.1 i.2.1 i.2.2.1 i.2.2.2.1 i.2.2.2.2.1 i.2.2.2.2.2.1 i.2.2.2.2.2.2.1 i.2.2.2.2.2.2.2.1 i.2.2.2.2.2.2.2.2 k v.1 v.2.1 v.2.2) (spec_LaterPlan_l0p i.1 i.2.1 i.2.2.1 i.2.2.2.1 i.2.2.2.2.1 i.2.2.2.2.2.1 i.2.2.2.2.2.2.1 i.2.2.2.2.2.2.2.1 (fun a0 a10 a11 => hk (a0, (a10, a11))) v.1 v.2.1 v.2.2)
def c56 : Callee := mkC [.agg [.ro TJob], .agg [.ro TPlan]] 2 [.agg [.ro (.int .i64), .sl (.int .i64)], .one (.ro .bool)] fun x => spec_LaterPlan x.1 x.2
theorem e56 (x : PK.dens [.agg [.ro TJob], .agg [.ro TPlan]]) : evalFn Try.prog EL56 or56 Try.f56 (PK.outs [.agg [.ro TJob], .agg [.ro TPlan]] x) =
    spec_LaterPlanK (fun y => some (tupOf ((PK.outs [.agg [.ro (.int .i64), .sl (.int .i64)], .one (.ro .bool)] y).take 2), (PK.outs [.agg [.ro (.int .i64), .sl (.int .i64)], .one (.ro .bool)] y).drop 2)) x.1 x.2 := by kernel_rfl
theorem o56 : LoOk Try.prog EL56 or56 Try.f56.ntmps (loopsIn (codeOf Try.f56)) :=
  LoOk.mk (m := 2) (by kernel_rfl) fun i hi => match i, hi with
    | 0, _ => ⟨Lspec_LaterPlan_l0, by kernel_rfl, spec_LaterPlan_l0o⟩
    | 1, _ => ⟨Lspec_LaterPlan_l1, by kernel_rfl, spec_LaterPlan_l1o⟩
    | i + 2, hi => absurd hi (by omega)
theorem k56 : CalleeOk Try.prog 56 c56 := callee_mk Try.func56 (code := codeOf Try.f56) (by kernel_rfl) vL56 mixed o56 fun x y h => (e56 x).trans (p56 _ x.1 x.2 y h)

/-- impl.LaterPlan -/
def EL57 : Nat → Option Callee := addE 105 c105 (addE 104 c104 (addE 103 c103 (addE 102 c102 env0)))
theorem vL57 : EnvOk Try.prog EL57 := (((EnvOk.nil.add Try.func102 rfl (by kernel_rfl) k102).add Try.func103 rfl (by kernel_rfl) k103).add Try.func104 rfl (by kernel_rfl) k104).add Try.func105 rfl (by kernel_rfl) k105
def simpl_LaterPlan_l1 : LS := ⟨[(2, .one (.fix (.ptr 0 0))), (3, .one (.fix (.ptr 1 0))), (4, .one (.fix (.ptr 2 0))), (6, .one (.fix (.ptr 3 0))), (7, .one (.dat (.int .i64))), (8, .one (.dat (.int .i64)))], [.box [.dat (.slice (.slice (.int .i64))), .dat (.slice (.int .i64)), .dat (.slice (.int .i64)), .dat (.int .i64), .dat (.int .i64), .dat (.int .i64), .dat (.int .i64), .dat (.int .i64)], .box [.dat (.int .i64), .dat (.slice (.int .i64))], .box [.dat (.int .i64), .fix .nils], .box [.dat (.int .i64), .fix (.sref 4)], .sl (.int .i64)], []⟩
def simpl_LaterPlan_l1x0 : LS := ⟨[(2, .one (.fix (.ptr 0 0))), (3, .one (.fix (.ptr 1 0))), (4, .one (.fix (.ptr 2 0))), (6, .one (.fix (.ptr 3 0))), (7, .one (.dat (.int .i64)))], [.box [.dat (.slice (.slice (.int .i64))), .dat (.slice (.int .i64)), .dat (.slice (.int .i64)), .dat (.int .i64), .dat (.int .i64), .dat (.int .i64), .dat (.int .i64), .dat (.int .i64)], .box [.dat (.int .i64), .dat (.slice (.int .i64))], .box [.dat (.int .i64), .fix .nils], .box [.dat (.int .i64), .fix (.sref 4)], .sl (.int .i64)], []⟩
def ximpl_LaterPlan_l1 : List (XS (Int × (List (List Int)) × (List Int) × (List Int) × Int × Int × Int × Int × Int × Int × (List Int) × Int × Int × (List Int))) := [⟨.exit 2, ⟨[2, 3, 4, 6, 7], [.slot 2, .slot 3, .slot 4, .slot 6, .cell 6 1], [], []⟩, simpl_LaterPlan_l1x0, Int × (List Int), fun i y => (((), ((), ((), ((), (i.1, ()))))), ((i.2.1, (i.2.2.1, (i.2.2.2.1, (i.2.2.2.2.1, (i.2.2.2.2.2.1, (i.2.2.2.2.2.2.1, (i.2.2.2.2.2.2.2.1, (i.2.2.2.2.2.2.2.2.1, ())))))))), ((i.2.2.2.2.2.2.2.2.2.1, (i.2.2.2.2.2.2.2.2.2.2.1, ())), ((i.2.2.2.2.2.2.2.2.2.2.2.1, ((), ())), ((y.1, ((), ())), (y.2, ()))))))⟩]
def impl_LaterPlan_l1K {R : Type} (a0 : Int) (a2 : List (List Int)) (a3 : List Int) (a4 : List Int) (a5 : Int) (a6 : Int) (a7 : Int) (a8 : Int) (a9 : Int) (a11 : List Int) (a13 : Int) (a14 : List Int) (rc : Int → Option R) (fin : Int × (List Int) → Option R) (a1 : Int) : Option R :=
  (lat a11 a0).bind fun e1 =>
  cond (decide (a1 > e1))
  ((impl_movedPlan (a13, (a14, ())) a0 a1).bind fun y2 =>
    (impl_isFeasible (a2, (a3, (a4, ((a5, (a6, ())), (a7, (a8, (a9, ()))))))) (y2.1, (y2.2, ()))).bind fun y3 =>
    cond (y3)
    (fin y2)
    (rc (IntKind.i64.wrap (a1 - 1))))
  (fin (a13, a14))
def impl_LaterPlan_l1F (a0 : Int) (a2 : List (List Int)) (a3 : List Int) (a4 : List Int) (a5 : Int) (a6 : Int) (a7 : Int) (a8 : Int) (a9 : Int) (a11 : List Int) (a13 : Int) (a14 : List Int) (r : Int → Option (Int × (List Int))) (x : Int) : Option (Int × (List Int)) := impl_LaterPlan_l1K a0 a2 a3 a4 a5 a6 a7 a8 a9 a11 a13 a14 (fun a1 => r a1) some x
theorem impl_LaterPlan_l1c (a0 : Int) (a2 : List (List Int)) (a3 : List Int) (a4 : List Int) (a5 : Int) (a6 : Int) (a7 : Int) (a8 : Int) (a9 : Int) (a11 : List Int) (a13 : Int) (a14 : List Int) (x : Int) : Ct fun r => impl_LaterPlan_l1F a0 a2 a3 a4 a5 a6 a7 a8 a9 a11 a13 a14 r x := by
  unfold impl_LaterPlan_l1F impl_LaterPlan_l1K
  repeat' (first | exact Ct.const | exact Ct.call | refine Ct.cond ?_ ?_ | refine Ct.bind ?_ fun _ => ?_ | refine Ct.sum (fun _ => ?_) fun _ => ?_)
def impl_LaterPlan_l1 (a0 : Int) (a2 : List (List Int)) (a3 : List Int) (a4 : List Int) (a5 : Int) (a6 : Int) (a7 : Int) (a8 : Int) (a9 : Int) (a11 : List Int) (a13 : Int) (a14 : List Int) (a1 : Int) : Option (Int × (List Int)) := lim (impl_LaterPlan_l1F a0 a2 a3 a4 a5 a6 a7 a8 a9 a11 a13 a14) a1
theorem impl_LaterPlan_l1_eq (a0 : Int) (a2 : List (List Int)) (a3 : List Int) (a4 : List Int) (a5 : Int) (a6 : Int) (a7 : Int) (a8 : Int) (a9 : Int) (a11 : List Int) (a13 : Int) (a14 : List Int) (a1 : Int) : impl_LaterPlan_l1 a0 a2 a3 a4 a5 a6 a7 a8 a9 a11 a13 a14 a1 = impl_LaterPlan_l1K a0 a2 a3 a4 a5 a6 a7 a8 a9 a11 a13 a14 (impl_LaterPlan_l1 a0 a2 a3 a4 a5 a6 a7 a8 a9 a11 a13 a14) some a1 := lim_eq (impl_LaterPlan_l1c a0 a2 a3 a4 a5 a6 a7 a8 a9 a11 a13 a14) a1
theorem impl_LaterPlan_l1p {R : Type} (a0 : Int) (a2 : List (List Int)) (a3 : List Int) (a4 : List Int) (a5 : Int) (a6 : Int) (a7 : Int) (a8 : Int) (a9 : Int) (a11 : List Int) (a13 : Int) (a14 : List Int) {rc : Int → Option (Int × (List Int))} {rc' : Int → Option R} {fin : Int × (List Int) → Option R} (hr : ∀ a1, Par fin (rc a1) (rc' a1)) (a1 : Int) : Par fin (impl_LaterPlan_l1K a0 a2 a3 a4 a5 a6 a7 a8 a9 a11 a13 a14 rc some a1) (impl_LaterPlan_l1K a0 a2 a3 a4 a5 a6 a7 a8 a9 a11 a13 a14 rc' fin a1) := by
  unfold impl_LaterPlan_l1K
  repeat' (first | exact .fin | exact .none | exact hr _ | refine .cond ?_ ?_ | refine .bind fun _ => ?_ | refine .sum (fun _ => ?_) fun _ => ?_)
def Limpl_LaterPlan_l1 : Loop := mkL ⟨[2, 3, 4, 6, 7, 8], [.slot 2, .slot 3, .slot 4, .slot 6, .cell 6 1], [], []⟩ simpl_LaterPlan_l1 ximpl_LaterPlan_l1 (fun (x : (Unit × Unit × Unit × Unit × Int × Int × Unit) × (((List (List Int)) × (List Int) × (List Int) × Int × Int × Int × Int × Int × Unit) × (Int × (List Int) × Unit) × (Int × Unit × Unit) × (Int × Unit × Unit) × (List Int) × Unit)) => (x.1.2.2.2.2.1, (x.2.1.1, (x.2.1.2.1, (x.2.1.2.2.1, (x.2.1.2.2.2.1, (x.2.1.2.2.2.2.1, (x.2.1.2.2.2.2.2.1, (x.2.1.2.2.2.2.2.2.1, (x.2.1.2.2.2.2.2.2.2.1, (x.2.2.1.1, (x.2.2.1.2.1, (x.2.2.2.1.1, (x.2.2.2.2.1.1, x.2.2.2.2.2.1)))))))))))))) fun (x : (Unit × Unit × Unit × Unit × Int × Int × Unit) × (((List (List Int)) × (List Int) × (List Int) × Int × Int × Int × Int × Int × Unit) × (Int × (List Int) × Unit) × (Int × Unit × Unit) × (Int × Unit × Unit) × (List Int) × Unit)) => impl_LaterPlan_l1 x.1.2.2.2.2.1 x.2.1.1 x.2.1.2.1 x.2.1.2.2.1 x.2.1.2.2.2.1 x.2.1.2.2.2.2.1 x.2.1.2.2.2.2.2.1 x.2.1.2.2.2.2.2.2.1 x.2.1.2.2.2.2.2.2.2.1 x.2.2.1.2.1 x.2.2.2.2.1.1 x.2.2.2.2.2.1 x.1.2.2.2.2.2.1
def simpl_LaterPlan_l0 : LS := ⟨[(2, .one (.fix (.ptr 0 0))), (3, .one (.fix (.ptr 1 0))), (4, .one (.fix (.ptr 2 0))), (6, .one (.fix (.ptr 3 0))), (7, .one (.dat (.int .i64)))], [.box [.dat (.slice (.slice (.int .i64))), .dat (.slice (.int .i64)), .dat (.slice (.int .i64)), .dat (.int .i64), .dat (.int .i64), .dat (.int .i64), .dat (.int .i64), .dat (.int .i64)], .box [.dat (.int .i64), .dat (.slice (.int .i64))], .box [.dat (.int .i64), .fix .nils], .box [.dat (.int .i64), .fix (.sref 4)], .sl (.int .i64)], []⟩
def simpl_LaterPlan_l0x0 : LS := ⟨[(4, .one (.fix (.ptr 0 0))), (6, .one (.fix (.ptr 1 0)))], [.box [.dat (.int .i64), .fix .nils], .box [.dat (.int .i64), .fix (.sref 2)], .sl (.int .i64)], []⟩
def ximpl_LaterPlan_l0 : List (XS ((List (List Int)) × (List Int) × (List Int) × Int × Int × Int × Int × Int × Int × (List Int) × Int)) := [⟨.exit 0, ⟨[4, 6], [.slot 4, .slot 6, .cell 6 1], [], []⟩, simpl_LaterPlan_l0x0, Int × (List Int), fun i y => (((), ((), ())), ((i.2.2.2.2.2.2.2.2.2.2, ((), ())), ((y.1, ((), ())), (y.2, ()))))⟩]
def impl_LaterPlan_l0K {R : Type} (a1 : List (List Int)) (a2 : List Int) (a3 : List Int) (a4 : Int) (a5 : Int) (a6 : Int) (a7 : Int) (a8 : Int) (a10 : List Int) (rc : Int → Int → List Int → Option R) (fin : Int × (List Int) → Option R) (a0 : Int) (a12 : Int) (a13 : List Int) : Option R :=
  cond (decide (a0 ≥ 0))
  ((lat a10 a0).bind fun e1 =>
    cond (decide (e1 < 0))
    (rc (IntKind.i64.wrap (a0 - 1)) a12 a13)
    ((lat a3 a0).bind fun e2 =>
      cond (decide (e2 > 0))
      (rc (IntKind.i64.wrap (a0 - 1)) a12 a13)
      ((impl_LaterPlan_l1 a0 a1 a2 a3 a4 a5 a6 a7 a8 a10 a12 a13 (IntKind.i64.wrap (a6 - 1))).bind fun y6 =>
        rc (IntKind.i64.wrap (a0 - 1)) y6.1 y6.2)))
  (fin (a12, a13))
def impl_LaterPlan_l0F (a1 : List (List Int)) (a2 : List Int) (a3 : List Int) (a4 : Int) (a5 : Int) (a6 : Int) (a7 : Int) (a8 : Int) (a10 : List Int) (r : (Int × Int × (List Int)) → Option (Int × (List Int))) (x : Int × Int × (List Int)) : Option (Int × (List Int)) := impl_LaterPlan_l0K a1 a2 a3 a4 a5 a6 a7 a8 a10 (fun a0 a12 a13 => r (a0, (a12, a13))) some x.1 x.2.1 x.2.2
theorem impl_LaterPlan_l0c (a1 : List (List Int)) (a2 : List Int) (a3 : List Int) (a4 : Int) (a5 : Int) (a6 : Int) (a7 : Int) (a8 : Int) (a10 : List Int) (x : Int × Int × (List Int)) : Ct fun r => impl_LaterPlan_l0F a1 a2 a3 a4 a5 a6 a7 a8 a10 r x := by
  unfold impl_LaterPlan_l0F impl_LaterPlan_l0K
  repeat' (first | exact Ct.const | exact Ct.call | refine Ct.cond ?_ ?_ | refine Ct.bind ?_ fun _ => ?_ | refine Ct.sum (fun _ => ?_) fun _ => ?_)
def impl_LaterPlan_l0 (a1 : List (List Int)) (a2 : List Int) (a3 : List Int) (a4 : Int) (a5 : Int) (a6 : Int) (a7 : Int) (a8 : Int) (a10 : List Int) (a0 : Int) (a12 : Int) (a13 : List Int) : Option (Int × (List Int)) := lim (impl_LaterPlan_l0F a1 a2 a3 a4 a5 a6 a7 a8 a10) (a0, (a12, a13))
theorem impl_LaterPlan_l0_eq (a1 : List (List Int)) (a2 : List Int) (a3 : List Int) (a4 : Int) (a5 : Int) (a6 : Int) (a7 : Int) (a8 : Int) (a10 : List Int) (a0 : Int) (a12 : Int) (a13 : List Int) : impl_LaterPlan_l0 a1 a2 a3 a4 a5 a6 a7 a8 a10 a0 a12 a13 = impl_LaterPlan_l0K a1 a2 a3 a4 a5 a6 a7 a8 a10 (impl_LaterPlan_l0 a1 a2 a3 a4 a5 a6 a7 a8 a10) some a0 a12 a13 := lim_eq (impl_LaterPlan_l0c a1 a2 a3 a4 a5 a6 a7 a8 a10) (a0, (a12, a13))
theorem impl_LaterPlan_l0p {R : Type} (a1 : List (List Int)) (a2 : List Int) (a3 : List Int) (a4 : Int) (a5 : Int) (a6 : Int) (a7 : Int) (a8 : Int) (a10 : List Int) {rc : Int → Int → List Int → Option (Int × (List Int))} {rc' : Int → Int → List Int → Option R} {fin : Int × (List Int) → Option R} (hr : ∀ a0 a12 a13, Par fin (rc a0 a12 a13) (rc' a0 a12 a13)) (a0 : Int) (a12 : Int) (a13 : List Int) : Par fin (impl_LaterPlan_l0K a1 a2 a3 a4 a5 a6 a7 a8 a10 rc some a0 a12 a13) (impl_LaterPlan_l0K a1 a2 a3 a4 a5 a6 a7 a8 a10 rc' fin a0 a12 a13) := by
  unfold impl_LaterPlan_l0K
  repeat' (first | exact .fin | exact .none | exact hr _ _ _ | refine .cond ?_ ?_ | refine .bind fun _ => ?_ | refine .sum (fun _ => ?_) fun _ => ?_)
def Limpl_LaterPlan_l0 : Loop := mkL ⟨[2, 3, 4, 6, 7], [.slot 2, .slot 3, .slot 4, .slot 6, .cell 6 1], [], []⟩ simpl_LaterPlan_l0 ximpl_LaterPlan_l0 (fun (x : (Unit × Unit × Unit × Unit × Int × Unit) × (((List (List Int)) × (List Int) × (List Int) × Int × Int × Int × Int × Int × Unit) × (Int × (List Int) × Unit) × (Int × Unit × Unit) × (Int × Unit × Unit) × (List Int) × Unit)) => (x.2.1.1, (x.2.1.2.1, (x.2.1.2.2.1, (x.2.1.2.2.2.1, (x.2.1.2.2.2.2.1, (x.2.1.2.2.2.2.2.1, (x.2.1.2.2.2.2.2.2.1, (x.2.1.2.2.2.2.2.2.2.1, (x.2.2.1.1, (x.2.2.1.2.1, x.2.2.2.1.1))))))))))) fun (x : (Unit × Unit × Unit × Unit × Int × Unit) × (((List (List Int)) × (List Int) × (List Int) × Int × Int × Int × Int × Int × Unit) × (Int × (List Int) × Unit) × (Int × Unit × Unit) × (Int × Unit × Unit) × (List Int) × Unit)) => impl_LaterPlan_l0 x.2.1.1 x.2.1.2.1 x.2.1.2.2.1 x.2.1.2.2.2.1 x.2.1.2.2.2.2.1 x.2.1.2.2.2.2.2.1 x.2.1.2.2.2.2.2.2.1 x.2.1.2.2.2.2.2.2.2.1 x.2.2.1.2.1 x.1.2.2.2.2.1 x.2.2.2.2.1.1 x.2.2.2.2.2.1
def impl_LaterPlanK {R : Type} (fin : (Int × (List Int)) × Bool → Option R) (x0 : DJob) (x1 : DPlan) : Option R :=
  (impl_isKept x0 x1).bind fun y1 =>
  cond (!y1)
  (fin ((0, []), false))
  ((impl_copyPlan x1).bind fun y2 =>
    (impl_LaterPlan_l0 x0.1 x0.2.1 x0.2.2.1 x0.2.2.2.1.1 x0.2.2.2.1.2.1 x0.2.2.2.2.1 x0.2.2.2.2.2.1 x0.2.2.2.2.2.2.1 x1.2.1 (IntKind.i64.wrap ((x1.2.1.length : Int) - 1)) y2.1 y2.2).bind fun y9 =>
    fin (y9, true))
def impl_LaterPlan (x0 : DJob) (x1 : DPlan) : Option ((Int × (List Int)) × Bool) := impl_LaterPlanK some x0 x1
theorem p57 {R : Type} (fin : (Int × (List Int)) × Bool → Option R) (x0 : DJob) (x1 : DPlan) : Par fin (impl_LaterPlanK some x0 x1) (impl_LaterPlanK fin x0 x1) := by
  unfold impl_LaterPlanK
  repeat' (first | exact .fin | exact .none | refine .cond ?_ ?_ | refine .bind fun _ => ?_ | refine .sum (fun _ => ?_) fun _ => ?_)
def or57 : Ora := { lo := addL 5 (Limpl_LaterPlan_l0) (addL 9 (Limpl_LaterPlan_l1) lo0), fin := [.own (.cell 4 1) (.int .i64)] }
theorem impl_LaterPlan_l1e (a0 : Int) (a2 : List (List Int)) (a3 : List Int) (a4 : List Int) (a5 : Int) (a6 : Int) (a7 : Int) (a8 : Int) (a9 : Int) (a10 : Int) (a11 : List Int) (a12 : Int) (a13 : Int) (a14 : List Int) (k : Nat) (a1 : Int) : loopC Try.prog EL57 or57 ((loopsIn (codeOf Try.f57)).getD 1 .skip) (Limpl_LaterPlan_l1).h (Limpl_LaterPlan_l1).ho Try.f57.ntmps (k + 1) (simpl_LaterPlan_l1.out (((), ((), ((), ((), (a0, (a1, ())))))), ((a2, (a3, (a4, (a5, (a6, (a7, (a8, (a9, ())))))))), ((a10, (a11, ())), ((a12, ((), ())), ((a13, ((), ())), (a14, ()))))))) =
    impl_LaterPlan_l1K a0 a2 a3 a4 a5 a6 a7 a8 a9 a11 a13 a14 (fun a1 => loopC Try.prog EL57 or57 ((loopsIn (codeOf Try.f57)).getD 1 .skip) (Limpl_LaterPlan_l1).h (Limpl_LaterPlan_l1).ho Try.f57.ntmps k (simpl_LaterPlan_l1.out (((), ((), ((), ((), (a0, (a1, ())))))), ((a2, (a3, (a4, (a5, (a6, (a7, (a8, (a9, ())))))))), ((a10, (a11, ())), ((a12, ((), ())), ((a13, ((), ())), (a14, ())))))))) (fun y => some (XS.out ximpl_LaterPlan_l1 (a0, (a2, (a3, (a4, (a5, (a6, (a7, (a8, (a9, (a10, (a11, (a12, (a13, a14))))))))))))) y)) a1 := by kernel_rfl
theorem impl_LaterPlan_l1o : LoopOk Try.prog EL57 or57 Try.f57.ntmps ((loopsIn (codeOf Try.f57)).getD 1 .skip) (Limpl_LaterPlan_l1) :=
  loop_lim (hs := simpl_LaterPlan_l1) (xs := ximpl_LaterPlan_l1) (ι := fun (x : (Unit × Unit × Unit × Unit × Int × Int × Unit) × (((List (List Int)) × (List Int) × (List Int) × Int × Int × Int × Int × Int × Unit) × (Int × (List Int) × Unit) × (Int × Unit × Unit) × (Int × Unit × Unit) × (List Int) × Unit)) => (x.1.2.2.2.2.1, (x.2.1.1, (x.2.1.2.1, (x.2.1.2.2.1, (x.2.1.2.2.2.1, (x.2.1.2.2.2.2.1, (x.2.1.2.2.2.2.2.1, (x.2.1.2.2.2.2.2.2.1, (x.2.1.2.2.2.2.2.2.2.1, (x.2.2.1.1, (x.2.2.1.2.1, (x.2.2.2.1.1, (x.2.2.2.2.1.1, x.2.2.2.2.2.1)))))))))))))) (φ := fun (x : (Unit × Unit × Unit × Unit × Int × Int × Unit) × (((List (List Int)) × (List Int) × (List Int) × Int × Int × Int × Int × Int × Unit) × (Int × (List Int) × Unit) × (Int × Unit × Unit) × (Int × Unit × Unit) × (List Int) × Unit)) => x.1.2.2.2.2.2.1) (ψ := fun (i : Int × (List (List Int)) × (List Int) × (List Int) × Int × Int × Int × Int × Int × Int × (List Int) × Int × Int × (List Int)) (v : Int) => (((), ((), ((), ((), (i.1, (v, ())))))), ((i.2.1, (i.2.2.1, (i.2.2.2.1, (i.2.2.2.2.1, (i.2.2.2.2.2.1, (i.2.2.2.2.2.2.1, (i.2.2.2.2.2.2.2.1, (i.2.2.2.2.2.2.2.2.1, ())))))))), ((i.2.2.2.2.2.2.2.2.2.1, (i.2.2.2.2.2.2.2.2.2.2.1, ())), ((i.2.2.2.2.2.2.2.2.2.2.2.1, ((), ())), ((i.2.2.2.2.2.2.2.2.2.2.2.2.1, ((), ())), (i.2.2.2.2.2.2.2.2.2.2.2.2.2, ()))))))) (F := fun (i : Int × (List (List Int)) × (List Int) × (List Int) × Int × Int × Int × Int × Int × Int × (List Int) × Int × Int × (List Int)) => impl_LaterPlan_l1F i.1 i.2.1 i.2.2.1 i.2.2.2.1 i.2.2.2.2.1 i.2.2.2.2.2.1 i.2.2.2.2.2.2.1 i.2.2.2.2.2.2.2.1 i.2.2.2.2.2.2.2.2.1 i.2.2.2.2.2.2.2.2.2.2.1 i.2.2.2.2.2.2.2.2.2.2.2.2.1 i.2.2.2.2.2.2.2.2.2.2.2.2.2) (fun _ => rfl) fun i k hk v => Par.of_eq (impl_LaterPlan_l1e i.1 i.2.1 i.2.2.1 i.2.2.2.1 i.2.2.2.2.1 i.2.2.2.2.2.1 i.2.2.2.2.2.2.1 i.2.2.2.2.2.2.2.1 i.2.2.2.2.2.2.2.2.1 i.2.2.2.2.2.2.2.2.2.1 i.2.2.2.2.2.2.2.2.2.2.1 i.2.2.2.2.2.2.2.2.2.2.2.1 i.2.2.2.2.2.2.2.2.2.2.2.2.1 i.2.2.2.2.2.2.2.2.2.2.2.2.2 k v) (impl_LaterPlan_l1p i.1 i.2.1 i.2.2.1 i.2.2.2.1 i.2.2.2.2.1 i.2.2.2.2.2.1 i.2.2.2.2.2.2.1 i.2.2.2.2.2.2.2.1 i.2.2.2.2.2.2.2.2.1 i.2.2.2.2.2.2.2.2.2.2.1 i.2.2.2.2.2.2.2.2.2.2.2.2.1 i.2.2.2.2.2.2.2.2.2.2.2.2.2 (fun a1 => hk a1) v)
theorem impl_LaterPlan_l0e (a1 : List (List Int)) (a2 : List Int) (a3 : List Int) (a4 : Int) (a5 : Int) (a6 : Int) (a7 : Int) (a8 : Int) (a9 : Int) (a10 : List Int) (a11 : Int) (k : Nat) (a0 : Int) (a12 : Int) (a13 : List Int) : loopC Try.prog EL57 or57 ((loopsIn (codeOf Try.f57)).getD 0 .skip) (Limpl_LaterPlan_l0).h (Limpl_LaterPlan_l0).ho Try.f57.ntmps (k + 1) (simpl_LaterPlan_l0.out (((), ((), ((), ((), (a0, ()))))), ((a1, (a2, (a3, (a4, (a5, (a6, (a7, (a8, ())))))))), ((a9, (a10, ())), ((a11, ((), ())), ((a12, ((), ())), (a13, ()))))))) =
    impl_LaterPlan_l0K a1 a2 a3 a4 a5 a6 a7 a8 a10 (fun a0 a12 a13 => loopC Try.prog EL57 or57 ((loopsIn (codeOf Try.f57)).getD 0 .skip) (Limpl_LaterPlan_l0).h (Limpl_LaterPlan_l0).ho Try.f57.ntmps k (simpl_LaterPlan_l0.out (((), ((), ((), ((), (a0, ()))))), ((a1, (a2, (a3, (a4, (a5, (a6, (a7, (a8, ())))))))), ((a9, (a10, ())), ((a11, ((), ())), ((a12, ((), ())), (a13, ())))))))) (fun y => some (XS.out ximpl_LaterPlan_l0 (a1, (a2, (a3, (a4, (a5, (a6, (a7, (a8, (a9, (a10, a11)))))))))) y)) a0 a12 a13 := by kernel_rfl
theorem impl_LaterPlan_l0o : LoopOk Try.prog EL57 or57 Try.f57.ntmps ((loopsIn (codeOf Try.f57)).getD 0 .skip) (Limpl_LaterPlan_l0) :=
  loop_lim (hs := simpl_LaterPlan_l0) (xs := ximpl_LaterPlan_l0) (ι := fun (x : (Unit × Unit × Unit × Unit × Int × Unit) × (((List (List Int)) × (List Int) × (List Int) × Int × Int × Int × Int × Int × Unit) × (Int × (List Int) × Unit) × (Int × Unit × Unit) × (Int × Unit × Unit) × (List Int) × Unit)) => (x.2.1.1, (x.2.1.2.1, (x.2.1.2.2.1, (x.2.1.2.2.2.1, (x.2.1.2.2.2.2.1, (x.2.1.2.2.2.2.2.1, (x.2.1.2.2.2.2.2.2.1, (x.2.1.2.2.2.2.2.2.2.1, (x.2.2.1.1, (x.2.2.1.2.1, x.2.2.2.1.1))))))))))) (φ := fun (x : (Unit × Unit × Unit × Unit × Int × Unit) × (((List (List Int)) × (List Int) × (List Int) × Int × Int × Int × Int × Int × Unit) × (Int × (List Int) × Unit) × (Int × Unit × Unit) × (Int × Unit × Unit) × (List Int) × Unit)) => (x.1.2.2.2.2.1, (x.2.2.2.2.1.1, x.2.2.2.2.2.1))) (ψ := fun (i : (List (List Int)) × (List Int) × (List Int) × Int × Int × Int × Int × Int × Int × (List Int) × Int) (v : Int × Int × (List Int)) => (((), ((), ((), ((), (v.1, ()))))), ((i.1, (i.2.1, (i.2.2.1, (i.2.2.2.1, (i.2.2.2.2.1, (i.2.2.2.2.2.1, (i.2.2.2.2.2.2.1, (i.2.2.2.2.2.2.2.1, ())))))))), ((i.2.2.2.2.2.2.2.2.1, (i.2.2.2.2.2.2.2.2.2.1, ())), ((i.2.2.2.2.2.2.2.2.2.2, ((), ())), ((v.2.1, ((), ())), (v.2.2, ()))))))) (F := fun (i : (List (List Int)) × (List Int) × (List Int) × Int × Int × Int × Int × Int × Int × (List Int) × Int) => impl_LaterPlan_l0F i.1 i.2.1 i.2.2.1 i.2.2.2.1 i.2.2.2.2.1 i.2.2.2.2.2.1 i.2.2.2.2.2.2.1 i.2.2.2.2.2.2.2.1 i.2.2.2.2.2.2.2.2.2.1) (fun _ => rfl) fun i k hk v => Par.of_eq (impl_LaterPlan_l0e i.1 i.2.1 i.2.2.1 i.2.2.2.1 i.2.2.2.2.1 i.2.2.2.2.2.1 i.2.2.2.2.2.2.1 i.2.2.2.2.2.2.2.1 i.2.2.2.2.2.2.2.2.1 i.2.2.2.2.2.2.2.2.2.1 i.2.2.2.2.2.2.2.2.2.2 k v.1 v.2.1 v.2.2) (impl_LaterPlan_l0p i.1 i.2.1 i.2.2.1 i.2.2.2.1 i.2.2.2.2.1 i.2.2.2.2.2.1 i.2.2.2.2.2.2.1 i.2.2.2.2.2.2.2.1 i.2.2.2.2.2.2.2.2.2.1 (fun a0 a12 a13 => hk (a0, (a12, a13))) v.1 v.2.1 v.2.2)
def c57 : Callee := mkC [.agg [.ro TJob], .agg [.ro TPlan]] 2 [.agg [.ro (.int .i64), .sl (.int .i64)], .one (.ro .bool)] fun x => impl_LaterPlan x.1 x.2
theorem e57 (x : PK.dens [.agg [.ro TJob], .agg [.ro TPlan]]) : evalFn Try.prog EL57 or57 Try.f57 (PK.outs [.agg [.ro TJob], .agg [.ro TPlan]] x) =
    impl_LaterPlanK (fun y => some (tupOf ((PK.outs [.agg [.ro (.int .i64), .sl (.int .i64)], .one (.ro .bool)] y).take 2), (PK.outs [.agg [.ro (.int .i64), .sl (.int .i64)], .one (.ro .bool)] y).drop 2)) x.1 x.2 := by kernel_rfl
theorem o57 : LoOk Try.prog EL57 or57 Try.f57.ntmps (loopsIn (codeOf Try.f57)) :=
  LoOk.mk (m := 2) (by kernel_rfl) fun i hi => match i, hi with
    | 0, _ => ⟨Limpl_LaterPlan_l0, by kernel_rfl, impl_LaterPlan_l0o⟩
    | 1, _ => ⟨Limpl_LaterPlan_l1, by kernel_rfl, impl_LaterPlan_l1o⟩
    | i + 2, hi => absurd hi (by omega)
theorem k57 : CalleeOk Try.prog 57 c57 := callee_mk Try.func57 (code := codeOf Try.f57) (by kernel_rfl) vL57 mixed o57 fun x y h => (e57 x).trans (p57 _ x.1 x.2 y h)

/-- laws.FnExactLaterPlan -/
def EL15 : Nat → Option Callee := addE 49 c49 (addE 34 c34 (addE 33 c33 (addE 24 c24 (addE 30 c30 (addE 57 c57 (addE 56 c56 (addE 28 c28 (addE 21 c21 (addE 26 c26 (addE 19 c19 env0))))))))))
theorem vL15 : EnvOk Try.prog EL15 := ((((((((((EnvOk.nil.add Try.func19 rfl (by kernel_rfl) k19).add Try.func26 rfl (by kernel_rfl) k26).add Try.func21 rfl (by kernel_rfl) k21).add Try.func28 rfl (by kernel_rfl) k28).add Try.func56 rfl (by kernel_rfl) k56).add Try.func57 rfl (by kernel_rfl) k57).add Try.func30 rfl (by kernel_rfl) k30).add Try.func24 rfl (by kernel_rfl) k24).add Try.func33 rfl (by kernel_rfl) k33).add Try.func34 rfl (by kernel_rfl) k34).add Try.func49 rfl (by kernel_rfl) k49
def laws_FnExactLaterPlanK {R : Type} (fin : Bool → Option R) (x0 : DJob) (x1 : DPlan) : Option R :=
  (laws_szJob x0 1048576).bind fun y1 =>
  cond (decide (y1 < 0))
  (fin true)
  ((laws_szPlan x1 y1).bind fun y2 =>
    cond (decide (y2 < 0))
    (fin true)
    ((laws_toJob x0).bind fun y3 =>
      (laws_toPlan x1).bind fun y4 =>
      (spec_LaterPlan (y3.1, (y3.2.1, (y3.2.2.1, ((y3.2.2.2.1, (y3.2.2.2.2.1, ())), (y3.2.2.2.2.2.1, (y3.2.2.2.2.2.2.1, (y3.2.2.2.2.2.2.2, ()))))))) (y4.1, (y4.2, ()))).bind fun y5 =>
      (laws_toJob x0).bind fun y6 =>
      (laws_toPlan x1).bind fun y7 =>
      (impl_LaterPlan (y6.1, (y6.2.1, (y6.2.2.1, ((y6.2.2.2.1, (y6.2.2.2.2.1, ())), (y6.2.2.2.2.2.1, (y6.2.2.2.2.2.2.1, (y6.2.2.2.2.2.2.2, ()))))))) (y7.1, (y7.2, ()))).bind fun y8 =>
      (laws_eqPlan (y8.1.1, (y8.1.2, ())) (y5.1.1, (y5.1.2, ()))).bind fun y9 =>
      cond (!y9)
      (fin false)
      (cond (!(y8.2 == y5.2))
        (fin false)
        ((laws_toJob x0).bind fun y10 =>
          (laws_eqJob (y6.1, (y6.2.1, (y6.2.2.1, ((y6.2.2.2.1, (y6.2.2.2.2.1, ())), (y6.2.2.2.2.2.1, (y6.2.2.2.2.2.2.1, (y6.2.2.2.2.2.2.2, ()))))))) (y10.1, (y10.2.1, (y10.2.2.1, ((y10.2.2.2.1, (y10.2.2.2.2.1, ())), (y10.2.2.2.2.2.1, (y10.2.2.2.2.2.2.1, (y10.2.2.2.2.2.2.2, ())))))))).bind fun y11 =>
          cond (!y11)
          (fin false)
          ((laws_toPlan x1).bind fun y12 =>
            (laws_eqPlan (y7.1, (y7.2, ())) (y12.1, (y12.2, ()))).bind fun y13 =>
            cond (!y13)
            (fin false)
            ((laws_markJob y6 1).bind fun y14 =>
              (laws_markPlan y7 y14.1).bind fun y15 =>
              cond (decide (y15.1 < 0))
              (fin false)
              ((laws_eqPlan (y8.1.1, (y8.1.2, ())) (y5.1.1, (y5.1.2, ()))).bind fun y16 =>
                cond (!y16)
                (fin false)
                (cond (!(y8.2 == y5.2))
                  (fin false)
                  ((laws_markPlan y8.1 1).bind fun y17 =>
                    (laws_heldPlan (y8.1.1, (y17.2.2, ())) 1).bind fun y18 =>
                    cond (decide (y18 < 0))
                    (fin false)
                    (cond (y18 != y17.1)
                      (fin false)
                      ((laws_toJob x0).bind fun y19 =>
                        (laws_toPlan x1).bind fun y20 =>
                        (impl_LaterPlan (y19.1, (y19.2.1, (y19.2.2.1, ((y19.2.2.2.1, (y19.2.2.2.2.1, ())), (y19.2.2.2.2.2.1, (y19.2.2.2.2.2.2.1, (y19.2.2.2.2.2.2.2, ()))))))) (y20.1, (y20.2, ()))).bind fun y21 =>
                        (laws_eqPlan (y21.1.1, (y21.1.2, ())) (y5.1.1, (y5.1.2, ()))).bind fun y22 =>
                        cond (!y22)
                        (fin false)
                        (cond (!(y21.2 == y5.2))
                          (fin false)
                          ((laws_heldPlan (y8.1.1, (y17.2.2, ())) 1).bind fun y23 =>
                            cond (decide (y23 < 0))
                            (fin false)
                            (cond (y23 != y17.1)
                              (fin false)
                              (fin true)))))))))))))))
def laws_FnExactLaterPlan (x0 : DJob) (x1 : DPlan) : Option (Bool) := laws_FnExactLaterPlanK some x0 x1
theorem p15 {R : Type} (fin : Bool → Option R) (x0 : DJob) (x1 : DPlan) : Par fin (laws_FnExactLaterPlanK some x0 x1) (laws_FnExactLaterPlanK fin x0 x1) := by
  unfold laws_FnExactLaterPlanK
  repeat' (first | exact .fin | exact .none | refine .cond ?_ ?_ | refine .bind fun _ => ?_ | refine .sum (fun _ => ?_) fun _ => ?_)
def c15 : Callee := mkC [.agg [.ro TJob], .agg [.ro TPlan]] 1 [.one (.ro .bool)] fun x => laws_FnExactLaterPlan x.1 x.2
theorem e15 (x : PK.dens [.agg [.ro TJob], .agg [.ro TPlan]]) : evalFn Try.prog EL15 or0 Try.f15 (PK.outs [.agg [.ro TJob], .agg [.ro TPlan]] x) =
    laws_FnExactLaterPlanK (fun y => some (tupOf ((PK.outs [.one (.ro .bool)] y).take 1), (PK.outs [.one (.ro .bool)] y).drop 1)) x.1 x.2 := by kernel_rfl
theorem k15 : CalleeOk Try.prog 15 c15 := callee_mk Try.func15 (code := codeOf Try.f15) (by kernel_rfl) vL15 mixed (LoOk.nil (by kernel_rfl)) fun x y h => (e15 x).trans (p15 _ x.1 x.2 y h)
end
end Go.OAI
