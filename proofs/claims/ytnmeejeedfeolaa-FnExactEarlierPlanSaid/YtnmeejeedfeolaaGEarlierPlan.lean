/- Contracts: GEarlierPlan. -/
import Derived.Test.YtnmeejeedfeolaaGA
import Derived.Test.YtnmeejeedfeolaaGF
import Derived.Test.YtnmeejeedfeolaaGK
namespace Go.OAI
open Go.Proofs
set_option linter.unusedVariables false
noncomputable section


/-- spec.EarlierPlan -/
def EL52 : Nat → Option Callee := addE 101 c101 (addE 77 c77 (addE 100 c100 env0))
theorem vL52 : EnvOk Try.prog EL52 := ((EnvOk.nil.add Try.func100 rfl (by kernel_rfl) k100).add Try.func77 rfl (by kernel_rfl) k77).add Try.func101 rfl (by kernel_rfl) k101
def sspec_EarlierPlan_l1 : LS := ⟨[(2, .one (.fix (.ptr 0 0))), (4, .one (.fix (.ptr 1 0))), (6, .one (.fix (.ptr 2 0))), (7, .one (.dat (.int .i64))), (8, .one (.dat (.int .i64))), (23, .one (.dat (.int .i64))), (24, .one (.dat (.int .i64)))], [.box [.dat (.slice (.slice (.int .i64))), .dat (.slice (.int .i64)), .dat (.slice (.int .i64)), .dat (.int .i64), .dat (.int .i64), .dat (.int .i64), .dat (.int .i64), .dat (.int .i64)], .box [.dat (.int .i64), .fix .nils], .box [.dat (.int .i64), .fix (.sref 3)], .sl (.int .i64)], []⟩
def sspec_EarlierPlan_l1x0 : LS := ⟨[(2, .one (.fix (.ptr 0 0))), (4, .one (.fix (.ptr 1 0))), (6, .one (.fix (.ptr 2 0))), (23, .one (.dat (.int .i64))), (24, .one (.dat (.int .i64)))], [.box [.dat (.slice (.slice (.int .i64))), .dat (.slice (.int .i64)), .dat (.slice (.int .i64)), .dat (.int .i64), .dat (.int .i64), .dat (.int .i64), .dat (.int .i64), .dat (.int .i64)], .box [.dat (.int .i64), .fix .nils], .box [.dat (.int .i64), .fix (.sref 3)], .sl (.int .i64)], []⟩
def xspec_EarlierPlan_l1 : List (XS (Int × Int × Int × (List (List Int)) × (List Int) × (List Int) × Int × Int × Int × Int × Int × Int)) := [⟨.exit 2, ⟨[2, 4, 6, 23, 24], [.slot 2, .slot 4, .slot 6, .cell 6 1], [], []⟩, sspec_EarlierPlan_l1x0, Int × (List Int), fun i y => (((), ((), ((), (i.2.1, (i.2.2.1, ()))))), ((i.2.2.2.1, (i.2.2.2.2.1, (i.2.2.2.2.2.1, (i.2.2.2.2.2.2.1, (i.2.2.2.2.2.2.2.1, (i.2.2.2.2.2.2.2.2.1, (i.2.2.2.2.2.2.2.2.2.1, (i.2.2.2.2.2.2.2.2.2.2.1, ())))))))), ((i.2.2.2.2.2.2.2.2.2.2.2, ((), ())), ((y.1, ((), ())), (y.2, ())))))⟩]
def spec_EarlierPlan_l1K {R : Type} (a0 : Int) (a4 : List (List Int)) (a5 : List Int) (a6 : List Int) (a7 : Int) (a8 : Int) (a9 : Int) (a10 : Int) (a11 : Int) (rc : Int → Int → List Int → Option R) (fin : Int × (List Int) → Option R) (a1 : Int) (a13 : Int) (a14 : List Int) : Option R :=
  cond (decide ((0 : Int) ≤ a0) && decide (a0 < (a14.length : Int)))
  (cond (decide (a1 < (a14.getD (0 + a0.toNat) 0)))
    ((spec_plWith (a13, (a14, ())) a0 a1).bind fun y1 =>
      (spec_plFeasible (a4, (a5, (a6, ((a7, (a8, ())), (a9, (a10, (a11, ()))))))) (y1.1, (y1.2, ()))).bind fun y2 =>
      cond (y2)
      (rc (IntKind.i64.wrap (a1 + 1)) y1.1 y1.2)
      (rc (IntKind.i64.wrap (a1 + 1)) a13 a14))
    (fin (a13, a14)))
  (none)
def spec_EarlierPlan_l1F (a0 : Int) (a4 : List (List Int)) (a5 : List Int) (a6 : List Int) (a7 : Int) (a8 : Int) (a9 : Int) (a10 : Int) (a11 : Int) (r : (Int × Int × (List Int)) → Option (Int × (List Int))) (x : Int × Int × (List Int)) : Option (Int × (List Int)) := spec_EarlierPlan_l1K a0 a4 a5 a6 a7 a8 a9 a10 a11 (fun a1 a13 a14 => r (a1, (a13, a14))) some x.1 x.2.1 x.2.2
theorem spec_EarlierPlan_l1c (a0 : Int) (a4 : List (List Int)) (a5 : List Int) (a6 : List Int) (a7 : Int) (a8 : Int) (a9 : Int) (a10 : Int) (a11 : Int) (x : Int × Int × (List Int)) : Ct fun r => spec_EarlierPlan_l1F a0 a4 a5 a6 a7 a8 a9 a10 a11 r x := by
  unfold spec_EarlierPlan_l1F spec_EarlierPlan_l1K
  repeat' (first | exact Ct.const | exact Ct.call | refine Ct.cond ?_ ?_ | refine Ct.bind ?_ fun _ => ?_ | refine Ct.sum (fun _ => ?_) fun _ => ?_)
def spec_EarlierPlan_l1 (a0 : Int) (a4 : List (List Int)) (a5 : List Int) (a6 : List Int) (a7 : Int) (a8 : Int) (a9 : Int) (a10 : Int) (a11 : Int) (a1 : Int) (a13 : Int) (a14 : List Int) : Option (Int × (List Int)) := lim (spec_EarlierPlan_l1F a0 a4 a5 a6 a7 a8 a9 a10 a11) (a1, (a13, a14))
theorem spec_EarlierPlan_l1_eq (a0 : Int) (a4 : List (List Int)) (a5 : List Int) (a6 : List Int) (a7 : Int) (a8 : Int) (a9 : Int) (a10 : Int) (a11 : Int) (a1 : Int) (a13 : Int) (a14 : List Int) : spec_EarlierPlan_l1 a0 a4 a5 a6 a7 a8 a9 a10 a11 a1 a13 a14 = spec_EarlierPlan_l1K a0 a4 a5 a6 a7 a8 a9 a10 a11 (spec_EarlierPlan_l1 a0 a4 a5 a6 a7 a8 a9 a10 a11) some a1 a13 a14 := lim_eq (spec_EarlierPlan_l1c a0 a4 a5 a6 a7 a8 a9 a10 a11) (a1, (a13, a14))
theorem spec_EarlierPlan_l1p {R : Type} (a0 : Int) (a4 : List (List Int)) (a5 : List Int) (a6 : List Int) (a7 : Int) (a8 : Int) (a9 : Int) (a10 : Int) (a11 : Int) {rc : Int → Int → List Int → Option (Int × (List Int))} {rc' : Int → Int → List Int → Option R} {fin : Int × (List Int) → Option R} (hr : ∀ a1 a13 a14, Par fin (rc a1 a13 a14) (rc' a1 a13 a14)) (a1 : Int) (a13 : Int) (a14 : List Int) : Par fin (spec_EarlierPlan_l1K a0 a4 a5 a6 a7 a8 a9 a10 a11 rc some a1 a13 a14) (spec_EarlierPlan_l1K a0 a4 a5 a6 a7 a8 a9 a10 a11 rc' fin a1 a13 a14) := by
  unfold spec_EarlierPlan_l1K
  repeat' (first | exact .fin | exact .none | exact hr _ _ _ | refine .cond ?_ ?_ | refine .bind fun _ => ?_ | refine .sum (fun _ => ?_) fun _ => ?_)
def Lspec_EarlierPlan_l1 : Loop := mkL ⟨[2, 4, 6, 7, 8, 23, 24], [.slot 2, .slot 4, .slot 6, .cell 6 1], [], []⟩ sspec_EarlierPlan_l1 xspec_EarlierPlan_l1 (fun (x : (Unit × Unit × Unit × Int × Int × Int × Int × Unit) × (((List (List Int)) × (List Int) × (List Int) × Int × Int × Int × Int × Int × Unit) × (Int × Unit × Unit) × (Int × Unit × Unit) × (List Int) × Unit)) => (x.1.2.2.2.1, (x.1.2.2.2.2.2.1, (x.1.2.2.2.2.2.2.1, (x.2.1.1, (x.2.1.2.1, (x.2.1.2.2.1, (x.2.1.2.2.2.1, (x.2.1.2.2.2.2.1, (x.2.1.2.2.2.2.2.1, (x.2.1.2.2.2.2.2.2.1, (x.2.1.2.2.2.2.2.2.2.1, x.2.2.1.1)))))))))))) fun (x : (Unit × Unit × Unit × Int × Int × Int × Int × Unit) × (((List (List Int)) × (List Int) × (List Int) × Int × Int × Int × Int × Int × Unit) × (Int × Unit × Unit) × (Int × Unit × Unit) × (List Int) × Unit)) => spec_EarlierPlan_l1 x.1.2.2.2.1 x.2.1.1 x.2.1.2.1 x.2.1.2.2.1 x.2.1.2.2.2.1 x.2.1.2.2.2.2.1 x.2.1.2.2.2.2.2.1 x.2.1.2.2.2.2.2.2.1 x.2.1.2.2.2.2.2.2.2.1 x.1.2.2.2.2.1 x.2.2.2.1.1 x.2.2.2.2.1
def sspec_EarlierPlan_l0 : LS := ⟨[(2, .one (.fix (.ptr 0 0))), (4, .one (.fix (.ptr 1 0))), (6, .one (.fix (.ptr 2 0))), (23, .one (.dat (.int .i64))), (24, .one (.dat (.int .i64)))], [.box [.dat (.slice (.slice (.int .i64))), .dat (.slice (.int .i64)), .dat (.slice (.int .i64)), .dat (.int .i64), .dat (.int .i64), .dat (.int .i64), .dat (.int .i64), .dat (.int .i64)], .box [.dat (.int .i64), .fix .nils], .box [.dat (.int .i64), .fix (.sref 3)], .sl (.int .i64)], []⟩
def sspec_EarlierPlan_l0x0 : LS := ⟨[(4, .one (.fix (.ptr 0 0))), (6, .one (.fix (.ptr 1 0)))], [.box [.dat (.int .i64), .fix .nils], .box [.dat (.int .i64), .fix (.sref 2)], .sl (.int .i64)], []⟩
def xspec_EarlierPlan_l0 : List (XS (Int × (List (List Int)) × (List Int) × (List Int) × Int × Int × Int × Int × Int × Int)) := [⟨.exit 0, ⟨[4, 6], [.slot 4, .slot 6, .cell 6 1], [], []⟩, sspec_EarlierPlan_l0x0, Int × (List Int), fun i y => (((), ((), ())), ((i.2.2.2.2.2.2.2.2.2, ((), ())), ((y.1, ((), ())), (y.2, ()))))⟩]
def spec_EarlierPlan_l0K {R : Type} (a0 : Int) (a2 : List (List Int)) (a3 : List Int) (a4 : List Int) (a5 : Int) (a6 : Int) (a7 : Int) (a8 : Int) (a9 : Int) (rc : Int → Int → List Int → Option R) (fin : Int × (List Int) → Option R) (a1 : Int) (a11 : Int) (a12 : List Int) : Option R :=
  cond (decide (a1 < a0))
  ((spec_EarlierPlan_l1 a1 a2 a3 a4 a5 a6 a7 a8 a9 0 a11 a12).bind fun y3 =>
    rc (IntKind.i64.wrap (a1 + 1)) y3.1 y3.2)
  (fin (a11, a12))
def spec_EarlierPlan_l0F (a0 : Int) (a2 : List (List Int)) (a3 : List Int) (a4 : List Int) (a5 : Int) (a6 : Int) (a7 : Int) (a8 : Int) (a9 : Int) (r : (Int × Int × (List Int)) → Option (Int × (List Int))) (x : Int × Int × (List Int)) : Option (Int × (List Int)) := spec_EarlierPlan_l0K a0 a2 a3 a4 a5 a6 a7 a8 a9 (fun a1 a11 a12 => r (a1, (a11, a12))) some x.1 x.2.1 x.2.2
theorem spec_EarlierPlan_l0c (a0 : Int) (a2 : List (List Int)) (a3 : List Int) (a4 : List Int) (a5 : Int) (a6 : Int) (a7 : Int) (a8 : Int) (a9 : Int) (x : Int × Int × (List Int)) : Ct fun r => spec_EarlierPlan_l0F a0 a2 a3 a4 a5 a6 a7 a8 a9 r x := by
  unfold spec_EarlierPlan_l0F spec_EarlierPlan_l0K
  repeat' (first | exact Ct.const | exact Ct.call | refine Ct.cond ?_ ?_ | refine Ct.bind ?_ fun _ => ?_ | refine Ct.sum (fun _ => ?_) fun _ => ?_)
def spec_EarlierPlan_l0 (a0 : Int) (a2 : List (List Int)) (a3 : List Int) (a4 : List Int) (a5 : Int) (a6 : Int) (a7 : Int) (a8 : Int) (a9 : Int) (a1 : Int) (a11 : Int) (a12 : List Int) : Option (Int × (List Int)) := lim (spec_EarlierPlan_l0F a0 a2 a3 a4 a5 a6 a7 a8 a9) (a1, (a11, a12))
theorem spec_EarlierPlan_l0_eq (a0 : Int) (a2 : List (List Int)) (a3 : List Int) (a4 : List Int) (a5 : Int) (a6 : Int) (a7 : Int) (a8 : Int) (a9 : Int) (a1 : Int) (a11 : Int) (a12 : List Int) : spec_EarlierPlan_l0 a0 a2 a3 a4 a5 a6 a7 a8 a9 a1 a11 a12 = spec_EarlierPlan_l0K a0 a2 a3 a4 a5 a6 a7 a8 a9 (spec_EarlierPlan_l0 a0 a2 a3 a4 a5 a6 a7 a8 a9) some a1 a11 a12 := lim_eq (spec_EarlierPlan_l0c a0 a2 a3 a4 a5 a6 a7 a8 a9) (a1, (a11, a12))
theorem spec_EarlierPlan_l0p {R : Type} (a0 : Int) (a2 : List (List Int)) (a3 : List Int) (a4 : List Int) (a5 : Int) (a6 : Int) (a7 : Int) (a8 : Int) (a9 : Int) {rc : Int → Int → List Int → Option (Int × (List Int))} {rc' : Int → Int → List Int → Option R} {fin : Int × (List Int) → Option R} (hr : ∀ a1 a11 a12, Par fin (rc a1 a11 a12) (rc' a1 a11 a12)) (a1 : Int) (a11 : Int) (a12 : List Int) : Par fin (spec_EarlierPlan_l0K a0 a2 a3 a4 a5 a6 a7 a8 a9 rc some a1 a11 a12) (spec_EarlierPlan_l0K a0 a2 a3 a4 a5 a6 a7 a8 a9 rc' fin a1 a11 a12) := by
  unfold spec_EarlierPlan_l0K
  repeat' (first | exact .fin | exact .none | exact hr _ _ _ | refine .cond ?_ ?_ | refine .bind fun _ => ?_ | refine .sum (fun _ => ?_) fun _ => ?_)
def Lspec_EarlierPlan_l0 : Loop := mkL ⟨[2, 4, 6, 23, 24], [.slot 2, .slot 4, .slot 6, .cell 6 1], [], []⟩ sspec_EarlierPlan_l0 xspec_EarlierPlan_l0 (fun (x : (Unit × Unit × Unit × Int × Int × Unit) × (((List (List Int)) × (List Int) × (List Int) × Int × Int × Int × Int × Int × Unit) × (Int × Unit × Unit) × (Int × Unit × Unit) × (List Int) × Unit)) => (x.1.2.2.2.1, (x.2.1.1, (x.2.1.2.1, (x.2.1.2.2.1, (x.2.1.2.2.2.1, (x.2.1.2.2.2.2.1, (x.2.1.2.2.2.2.2.1, (x.2.1.2.2.2.2.2.2.1, (x.2.1.2.2.2.2.2.2.2.1, x.2.2.1.1)))))))))) fun (x : (Unit × Unit × Unit × Int × Int × Unit) × (((List (List Int)) × (List Int) × (List Int) × Int × Int × Int × Int × Int × Unit) × (Int × Unit × Unit) × (Int × Unit × Unit) × (List Int) × Unit)) => spec_EarlierPlan_l0 x.1.2.2.2.1 x.2.1.1 x.2.1.2.1 x.2.1.2.2.1 x.2.1.2.2.2.1 x.2.1.2.2.2.2.1 x.2.1.2.2.2.2.2.1 x.2.1.2.2.2.2.2.2.1 x.2.1.2.2.2.2.2.2.2.1 x.1.2.2.2.2.1 x.2.2.2.1.1 x.2.2.2.2.1
def spec_EarlierPlanK {R : Type} (fin : (Int × (List Int)) × Bool → Option R) (x0 : DJob) (x1 : DPlan) : Option R :=
  (spec_wiGood x0 x1).bind fun y1 =>
  cond (!y1)
  (fin ((0, []), false))
  ((lat x1.2.1 0).bind fun e2 =>
    (spec_plWith x1 0 e2).bind fun y3 =>
    (spec_EarlierPlan_l0 (x1.2.1.length : Int) x0.1 x0.2.1 x0.2.2.1 x0.2.2.2.1.1 x0.2.2.2.1.2.1 x0.2.2.2.2.1 x0.2.2.2.2.2.1 x0.2.2.2.2.2.2.1 0 y3.1 y3.2).bind fun y7 =>
    fin (y7, true))
def spec_EarlierPlan (x0 : DJob) (x1 : DPlan) : Option ((Int × (List Int)) × Bool) := spec_EarlierPlanK some x0 x1
theorem p52 {R : Type} (fin : (Int × (List Int)) × Bool → Option R) (x0 : DJob) (x1 : DPlan) : Par fin (spec_EarlierPlanK some x0 x1) (spec_EarlierPlanK fin x0 x1) := by
  unfold spec_EarlierPlanK
  repeat' (first | exact .fin | exact .none | refine .cond ?_ ?_ | refine .bind fun _ => ?_ | refine .sum (fun _ => ?_) fun _ => ?_)
def or52 : Ora := { lo := addL 5 (Lspec_EarlierPlan_l0) (addL 8 (Lspec_EarlierPlan_l1) lo0), fin := [.own (.cell 4 1) (.int .i64)] }
theorem spec_EarlierPlan_l1e (a0 : Int) (a2 : Int) (a3 : Int) (a4 : List (List Int)) (a5 : List Int) (a6 : List Int) (a7 : Int) (a8 : Int) (a9 : Int) (a10 : Int) (a11 : Int) (a12 : Int) (k : Nat) (a1 : Int) (a13 : Int) (a14 : List Int) : loopC Try.prog EL52 or52 ((loopsIn (codeOf Try.f52)).getD 1 .skip) (Lspec_EarlierPlan_l1).h (Lspec_EarlierPlan_l1).ho Try.f52.ntmps (k + 1) (sspec_EarlierPlan_l1.out (((), ((), ((), (a0, (a1, (a2, (a3, ()))))))), ((a4, (a5, (a6, (a7, (a8, (a9, (a10, (a11, ())))))))), ((a12, ((), ())), ((a13, ((), ())), (a14, ())))))) =
    spec_EarlierPlan_l1K a0 a4 a5 a6 a7 a8 a9 a10 a11 (fun a1 a13 a14 => loopC Try.prog EL52 or52 ((loopsIn (codeOf Try.f52)).getD 1 .skip) (Lspec_EarlierPlan_l1).h (Lspec_EarlierPlan_l1).ho Try.f52.ntmps k (sspec_EarlierPlan_l1.out (((), ((), ((), (a0, (a1, (a2, (a3, ()))))))), ((a4, (a5, (a6, (a7, (a8, (a9, (a10, (a11, ())))))))), ((a12, ((), ())), ((a13, ((), ())), (a14, ()))))))) (fun y => some (XS.out xspec_EarlierPlan_l1 (a0, (a2, (a3, (a4, (a5, (a6, (a7, (a8, (a9, (a10, (a11, a12))))))))))) y)) a1 a13 a14 := by kernel_rfl
theorem spec_EarlierPlan_l1o : LoopOk Try.prog EL52 or52 Try.f52.ntmps ((loopsIn (codeOf Try.f52)).getD 1 .skip) (Lspec_EarlierPlan_l1) :=
  loop_lim (hs := sspec_EarlierPlan_l1) (xs := xspec_EarlierPlan_l1) (ι := fun (x : (Unit × Unit × Unit × Int × Int × Int × Int × Unit) × (((List (List Int)) × (List Int) × (List Int) × Int × Int × Int × Int × Int × Unit) × (Int × Unit × Unit) × (Int × Unit × Unit) × (List Int) × Unit)) => (x.1.2.2.2.1, (x.1.2.2.2.2.2.1, (x.1.2.2.2.2.2.2.1, (x.2.1.1, (x.2.1.2.1, (x.2.1.2.2.1, (x.2.1.2.2.2.1, (x.2.1.2.2.2.2.1, (x.2.1.2.2.2.2.2.1, (x.2.1.2.2.2.2.2.2.1, (x.2.1.2.2.2.2.2.2.2.1, x.2.2.1.1)))))))))))) (φ := fun (x : (Unit × Unit × Unit × Int × Int × Int × Int × Unit) × (((List (List Int)) × (List Int) × (List Int) × Int × Int × Int × Int × Int × Unit) × (Int × Unit × Unit) × (Int × Unit × Unit) × (List Int) × Unit)) => (x.1.2.2.2.2.1, (x.2.2.2.1.1, x.2.2.2.2.1))) (ψ := fun (i : Int × Int × Int × (List (List Int)) × (List Int) × (List Int) × Int × Int × Int × Int × Int × Int) (v : Int × Int × (List Int)) => (((), ((), ((), (i.1, (v.1, (i.2.1, (i.2.2.1, ()))))))), ((i.2.2.2.1, (i.2.2.2.2.1, (i.2.2.2.2.2.1, (i.2.2.2.2.2.2.1, (i.2.2.2.2.2.2.2.1, (i.2.2.2.2.2.2.2.2.1, (i.2.2.2.2.2.2.2.2.2.1, (i.2.2.2.2.2.2.2.2.2.2.1, ())))))))), ((i.2.2.2.2.2.2.2.2.2.2.2, ((), ())), ((v.2.1, ((), ())), (v.2.2, ())))))) (F := fun (i : Int × Int × Int × (List (List Int)) × (List Int) × (List Int) × Int × Int × Int × Int × Int × Int) => spec_EarlierPlan_l1F i.1 i.2.2.2.1 i.2.2.2.2.1 i.2.2.2.2.2.1 i.2.2.2.2.2.2.1 i.2.2.2.2.2.2.2.1 i.2.2.2.2.2.2.2.2.1 i.2.2.2.2.2.2.2.2.2.1 i.2.2.2.2.2.2.2.2.2.2.1) (fun _ => rfl) fun i k hk v => Par.of_eq (spec_EarlierPlan_l1e i.1 i.2.1 i.2.2.1 i.2.2.2.1 i.2.2.2.2.1 i.2.2.2.2.2.1 i.2.2.2.2.2.2.1 i.2.2.2.2.2.2.2.1 i.2.2.2.2.2.2.2.2.1 i.2.2.2.2.2.2.2.2.2.1 i.2.2.2.2.2.2.2.2.2.2.1 i.2.2.2.2.2.2.2.2.2.2.2 k v.1 v.2.1 v.2.2) (spec_EarlierPlan_l1p i.1 i.2.2.2.1 i.2.2.2.2.1 i.2.2.2.2.2.1 i.2.2.2.2.2.2.1 i.2.2.2.2.2.2.2.1 i.2.2.2.2.2.2.2.2.1 i.2.2.2.2.2.2.2.2.2.1 i.2.2.2.2.2.2.2.2.2.2.1 (fun a1 a13 a14 => hk (a1, (a13, a14))) v.1 v.2.1 v.2.2)
theorem spec_EarlierPlan_l0e (a0 : Int) (a2 : List (List Int)) (a3 : List Int) (a4 : List Int) (a5 : Int) (a6 : Int) (a7 : Int) (a8 : Int) (a9 : Int) (a10 : Int) (k : Nat) (a1 : Int) (a11 : Int) (a12 : List Int) : loopC Try.prog EL52 or52 ((loopsIn (codeOf Try.f52)).getD 0 .skip) (Lspec_EarlierPlan_l0).h (Lspec_EarlierPlan_l0).ho Try.f52.ntmps (k + 1) (sspec_EarlierPlan_l0.out (((), ((), ((), (a0, (a1, ()))))), ((a2, (a3, (a4, (a5, (a6, (a7, (a8, (a9, ())))))))), ((a10, ((), ())), ((a11, ((), ())), (a12, ())))))) =
    spec_EarlierPlan_l0K a0 a2 a3 a4 a5 a6 a7 a8 a9 (fun a1 a11 a12 => loopC Try.prog EL52 or52 ((loopsIn (codeOf Try.f52)).getD 0 .skip) (Lspec_EarlierPlan_l0).h (Lspec_EarlierPlan_l0).ho Try.f52.ntmps k (sspec_EarlierPlan_l0.out (((), ((), ((), (a0, (a1, ()))))), ((a2, (a3, (a4, (a5, (a6, (a7, (a8, (a9, ())))))))), ((a10, ((), ())), ((a11, ((), ())), (a12, ()))))))) (fun y => some (XS.out xspec_EarlierPlan_l0 (a0, (a2, (a3, (a4, (a5, (a6, (a7, (a8, (a9, a10))))))))) y)) a1 a11 a12 := by kernel_rfl
theorem spec_EarlierPlan_l0o : LoopOk Try.prog EL52 or52 Try.f52.ntmps ((loopsIn (codeOf Try.f52)).getD 0 .skip) (Lspec_EarlierPlan_l0) :=
  loop_lim (hs := sspec_EarlierPlan_l0) (xs := xspec_EarlierPlan_l0) (ι := fun (x : (Unit × Unit × Unit × Int × Int × Unit) × (((List (List Int)) × (List Int) × (List Int) × Int × Int × Int × Int × Int × Unit) × (Int × Unit × Unit) × (Int × Unit × Unit) × (List Int) × Unit)) => (x.1.2.2.2.1, (x.2.1.1, (x.2.1.2.1, (x.2.1.2.2.1, (x.2.1.2.2.2.1, (x.2.1.2.2.2.2.1, (x.2.1.2.2.2.2.2.1, (x.2.1.2.2.2.2.2.2.1, (x.2.1.2.2.2.2.2.2.2.1, x.2.2.1.1)))))))))) (φ := fun (x : (Unit × Unit × Unit × Int × Int × Unit) × (((List (List Int)) × (List Int) × (List Int) × Int × Int × Int × Int × Int × Unit) × (Int × Unit × Unit) × (Int × Unit × Unit) × (List Int) × Unit)) => (x.1.2.2.2.2.1, (x.2.2.2.1.1, x.2.2.2.2.1))) (ψ := fun (i : Int × (List (List Int)) × (List Int) × (List Int) × Int × Int × Int × Int × Int × Int) (v : Int × Int × (List Int)) => (((), ((), ((), (i.1, (v.1, ()))))), ((i.2.1, (i.2.2.1, (i.2.2.2.1, (i.2.2.2.2.1, (i.2.2.2.2.2.1, (i.2.2.2.2.2.2.1, (i.2.2.2.2.2.2.2.1, (i.2.2.2.2.2.2.2.2.1, ())))))))), ((i.2.2.2.2.2.2.2.2.2, ((), ())), ((v.2.1, ((), ())), (v.2.2, ())))))) (F := fun (i : Int × (List (List Int)) × (List Int) × (List Int) × Int × Int × Int × Int × Int × Int) => spec_EarlierPlan_l0F i.1 i.2.1 i.2.2.1 i.2.2.2.1 i.2.2.2.2.1 i.2.2.2.2.2.1 i.2.2.2.2.2.2.1 i.2.2.2.2.2.2.2.1 i.2.2.2.2.2.2.2.2.1) (fun _ => rfl) fun i k hk v => Par.of_eq (spec_EarlierPlan_l0e i.1 i.2.1 i.2.2.1 i.2.2.2.1 i.2.2.2.2.1 i.2.2.2.2.2.1 i.2.2.2.2.2.2.1 i.2.2.2.2.2.2.2.1 i.2.2.2.2.2.2.2.2.1 i.2.2.2.2.2.2.2.2.2 k v.1 v.2.1 v.2.2) (spec_EarlierPlan_l0p i.1 i.2.1 i.2.2.1 i.2.2.2.1 i.2.2.2.2.1 i.2.2.2.2.2.1 i.2.2.2.2.2.2.1 i.2.2.2.2.2.2.2.1 i.2.2.2.2.2.2.2.2.1 (fun a1 a11 a12 => hk (a1, (a11, a12))) v.1 v.2.1 v.2.2)
def c52 : Callee := mkC [.agg [.ro TJob], .agg [.ro TPlan]] 2 [.agg [.ro (.int .i64), .sl (.int .i64)], .one (.ro .bool)] fun x => spec_EarlierPlan x.1 x.2
theorem e52 (x : PK.dens [.agg [.ro TJob], .agg [.ro TPlan]]) : evalFn Try.prog EL52 or52 Try.f52 (PK.outs [.agg [.ro TJob], .agg [.ro TPlan]] x) =
    spec_EarlierPlanK (fun y => some (tupOf ((PK.outs [.agg [.ro (.int .i64), .sl (.int .i64)], .one (.ro .bool)] y).take 2), (PK.outs [.agg [.ro (.int .i64), .sl (.int .i64)], .one (.ro .bool)] y).drop 2)) x.1 x.2 := by kernel_rfl
theorem o52 : LoOk Try.prog EL52 or52 Try.f52.ntmps (loopsIn (codeOf Try.f52)) :=
  LoOk.mk (m := 2) (by kernel_rfl) fun i hi => match i, hi with
    | 0, _ => ⟨Lspec_EarlierPlan_l0, by kernel_rfl, spec_EarlierPlan_l0o⟩
    | 1, _ => ⟨Lspec_EarlierPlan_l1, by kernel_rfl, spec_EarlierPlan_l1o⟩
    | i + 2, hi => absurd hi (by omega)
theorem k52 : CalleeOk Try.prog 52 c52 := callee_mk Try.func52 (code := codeOf Try.f52) (by kernel_rfl) vL52 mixed o52 fun x y h => (e52 x).trans (p52 _ x.1 x.2 y h)

/-- impl.EarlierPlan -/
def EL53 : Nat → Option Callee := addE 105 c105 (addE 104 c104 (addE 103 c103 (addE 102 c102 env0)))
theorem vL53 : EnvOk Try.prog EL53 := (((EnvOk.nil.add Try.func102 rfl (by kernel_rfl) k102).add Try.func103 rfl (by kernel_rfl) k103).add Try.func104 rfl (by kernel_rfl) k104).add Try.func105 rfl (by kernel_rfl) k105
def simpl_EarlierPlan_l1 : LS := ⟨[(2, .one (.fix (.ptr 0 0))), (4, .one (.fix (.ptr 1 0))), (6, .one (.fix (.ptr 2 0))), (7, .one (.dat (.int .i64))), (8, .one (.dat (.int .i64))), (9, .one (.dat (.int .i64))), (19, .one (.dat (.slice (.int .i64)))), (20, .one (.dat (.int .i64))), (21, .one (.dat (.int .i64)))], [.box [.dat (.slice (.slice (.int .i64))), .dat (.slice (.int .i64)), .dat (.slice (.int .i64)), .dat (.int .i64), .dat (.int .i64), .dat (.int .i64), .dat (.int .i64), .dat (.int .i64)], .box [.dat (.int .i64), .fix .nils], .box [.dat (.int .i64), .fix (.sref 3)], .sl (.int .i64)], []⟩
def simpl_EarlierPlan_l1x0 : LS := ⟨[(2, .one (.fix (.ptr 0 0))), (4, .one (.fix (.ptr 1 0))), (6, .one (.fix (.ptr 2 0))), (19, .one (.dat (.slice (.int .i64)))), (20, .one (.dat (.int .i64))), (21, .one (.dat (.int .i64)))], [.box [.dat (.slice (.slice (.int .i64))), .dat (.slice (.int .i64)), .dat (.slice (.int .i64)), .dat (.int .i64), .dat (.int .i64), .dat (.int .i64), .dat (.int .i64), .dat (.int .i64)], .box [.dat (.int .i64), .fix .nils], .box [.dat (.int .i64), .fix (.sref 3)], .sl (.int .i64)], []⟩
def ximpl_EarlierPlan_l1 : List (XS (Int × Int × (List Int) × Int × Int × (List (List Int)) × (List Int) × (List Int) × Int × Int × Int × Int × Int × Int × Int × (List Int))) := [⟨.exit 2, ⟨[2, 4, 6, 19, 20, 21], [.slot 2, .slot 4, .slot 6, .cell 6 1], [], []⟩, simpl_EarlierPlan_l1x0, Int × (List Int), fun i y => (((), ((), ((), (i.2.2.1, (i.2.2.2.1, (i.2.2.2.2.1, ())))))), ((i.2.2.2.2.2.1, (i.2.2.2.2.2.2.1, (i.2.2.2.2.2.2.2.1, (i.2.2.2.2.2.2.2.2.1, (i.2.2.2.2.2.2.2.2.2.1, (i.2.2.2.2.2.2.2.2.2.2.1, (i.2.2.2.2.2.2.2.2.2.2.2.1, (i.2.2.2.2.2.2.2.2.2.2.2.2.1, ())))))))), ((i.2.2.2.2.2.2.2.2.2.2.2.2.2.1, ((), ())), ((y.1, ((), ())), (y.2, ())))))⟩]
def impl_EarlierPlan_l1K {R : Type} (a0 : Int) (a1 : Int) (a6 : List (List Int)) (a7 : List Int) (a8 : List Int) (a9 : Int) (a10 : Int) (a11 : Int) (a12 : Int) (a13 : Int) (a15 : Int) (a16 : List Int) (rc : Int → Option R) (fin : Int × (List Int) → Option R) (a2 : Int) : Option R :=
  cond (decide (a2 < a1))
  ((impl_movedPlan (a15, (a16, ())) a0 a2).bind fun y1 =>
    (impl_isFeasible (a6, (a7, (a8, ((a9, (a10, ())), (a11, (a12, (a13, ()))))))) (y1.1, (y1.2, ()))).bind fun y2 =>
    cond (y2)
    (fin y1)
    (rc (IntKind.i64.wrap (a2 + 1))))
  (fin (a15, a16))
def impl_EarlierPlan_l1F (a0 : Int) (a1 : Int) (a6 : List (List Int)) (a7 : List Int) (a8 : List Int) (a9 : Int) (a10 : Int) (a11 : Int) (a12 : Int) (a13 : Int) (a15 : Int) (a16 : List Int) (r : Int → Option (Int × (List Int))) (x : Int) : Option (Int × (List Int)) := impl_EarlierPlan_l1K a0 a1 a6 a7 a8 a9 a10 a11 a12 a13 a15 a16 (fun a2 => r a2) some x
theorem impl_EarlierPlan_l1c (a0 : Int) (a1 : Int) (a6 : List (List Int)) (a7 : List Int) (a8 : List Int) (a9 : Int) (a10 : Int) (a11 : Int) (a12 : Int) (a13 : Int) (a15 : Int) (a16 : List Int) (x : Int) : Ct fun r => impl_EarlierPlan_l1F a0 a1 a6 a7 a8 a9 a10 a11 a12 a13 a15 a16 r x := by
  unfold impl_EarlierPlan_l1F impl_EarlierPlan_l1K
  repeat' (first | exact Ct.const | exact Ct.call | refine Ct.cond ?_ ?_ | refine Ct.bind ?_ fun _ => ?_ | refine Ct.sum (fun _ => ?_) fun _ => ?_)
def impl_EarlierPlan_l1 (a0 : Int) (a1 : Int) (a6 : List (List Int)) (a7 : List Int) (a8 : List Int) (a9 : Int) (a10 : Int) (a11 : Int) (a12 : Int) (a13 : Int) (a15 : Int) (a16 : List Int) (a2 : Int) : Option (Int × (List Int)) := lim (impl_EarlierPlan_l1F a0 a1 a6 a7 a8 a9 a10 a11 a12 a13 a15 a16) a2
theorem impl_EarlierPlan_l1_eq (a0 : Int) (a1 : Int) (a6 : List (List Int)) (a7 : List Int) (a8 : List Int) (a9 : Int) (a10 : Int) (a11 : Int) (a12 : Int) (a13 : Int) (a15 : Int) (a16 : List Int) (a2 : Int) : impl_EarlierPlan_l1 a0 a1 a6 a7 a8 a9 a10 a11 a12 a13 a15 a16 a2 = impl_EarlierPlan_l1K a0 a1 a6 a7 a8 a9 a10 a11 a12 a13 a15 a16 (impl_EarlierPlan_l1 a0 a1 a6 a7 a8 a9 a10 a11 a12 a13 a15 a16) some a2 := lim_eq (impl_EarlierPlan_l1c a0 a1 a6 a7 a8 a9 a10 a11 a12 a13 a15 a16) a2
theorem impl_EarlierPlan_l1p {R : Type} (a0 : Int) (a1 : Int) (a6 : List (List Int)) (a7 : List Int) (a8 : List Int) (a9 : Int) (a10 : Int) (a11 : Int) (a12 : Int) (a13 : Int) (a15 : Int) (a16 : List Int) {rc : Int → Option (Int × (List Int))} {rc' : Int → Option R} {fin : Int × (List Int) → Option R} (hr : ∀ a2, Par fin (rc a2) (rc' a2)) (a2 : Int) : Par fin (impl_EarlierPlan_l1K a0 a1 a6 a7 a8 a9 a10 a11 a12 a13 a15 a16 rc some a2) (impl_EarlierPlan_l1K a0 a1 a6 a7 a8 a9 a10 a11 a12 a13 a15 a16 rc' fin a2) := by
  unfold impl_EarlierPlan_l1K
  repeat' (first | exact .fin | exact .none | exact hr _ | refine .cond ?_ ?_ | refine .bind fun _ => ?_ | refine .sum (fun _ => ?_) fun _ => ?_)
def Limpl_EarlierPlan_l1 : Loop := mkL ⟨[2, 4, 6, 7, 8, 9, 19, 20, 21], [.slot 2, .slot 4, .slot 6, .cell 6 1], [], []⟩ simpl_EarlierPlan_l1 ximpl_EarlierPlan_l1 (fun (x : (Unit × Unit × Unit × Int × Int × Int × (List Int) × Int × Int × Unit) × (((List (List Int)) × (List Int) × (List Int) × Int × Int × Int × Int × Int × Unit) × (Int × Unit × Unit) × (Int × Unit × Unit) × (List Int) × Unit)) => (x.1.2.2.2.1, (x.1.2.2.2.2.1, (x.1.2.2.2.2.2.2.1, (x.1.2.2.2.2.2.2.2.1, (x.1.2.2.2.2.2.2.2.2.1, (x.2.1.1, (x.2.1.2.1, (x.2.1.2.2.1, (x.2.1.2.2.2.1, (x.2.1.2.2.2.2.1, (x.2.1.2.2.2.2.2.1, (x.2.1.2.2.2.2.2.2.1, (x.2.1.2.2.2.2.2.2.2.1, (x.2.2.1.1, (x.2.2.2.1.1, x.2.2.2.2.1)))))))))))))))) fun (x : (Unit × Unit × Unit × Int × Int × Int × (List Int) × Int × Int × Unit) × (((List (List Int)) × (List Int) × (List Int) × Int × Int × Int × Int × Int × Unit) × (Int × Unit × Unit) × (Int × Unit × Unit) × (List Int) × Unit)) => impl_EarlierPlan_l1 x.1.2.2.2.1 x.1.2.2.2.2.1 x.2.1.1 x.2.1.2.1 x.2.1.2.2.1 x.2.1.2.2.2.1 x.2.1.2.2.2.2.1 x.2.1.2.2.2.2.2.1 x.2.1.2.2.2.2.2.2.1 x.2.1.2.2.2.2.2.2.2.1 x.2.2.2.1.1 x.2.2.2.2.1 x.1.2.2.2.2.2.1
def simpl_EarlierPlan_l0 : LS := ⟨[(2, .one (.fix (.ptr 0 0))), (4, .one (.fix (.ptr 1 0))), (6, .one (.fix (.ptr 2 0))), (19, .one (.dat (.slice (.int .i64)))), (20, .one (.dat (.int .i64))), (21, .one (.dat (.int .i64)))], [.box [.dat (.slice (.slice (.int .i64))), .dat (.slice (.int .i64)), .dat (.slice (.int .i64)), .dat (.int .i64), .dat (.int .i64), .dat (.int .i64), .dat (.int .i64), .dat (.int .i64)], .box [.dat (.int .i64), .fix .nils], .box [.dat (.int .i64), .fix (.sref 3)], .sl (.int .i64)], []⟩
def simpl_EarlierPlan_l0x0 : LS := ⟨[(4, .one (.fix (.ptr 0 0))), (6, .one (.fix (.ptr 1 0)))], [.box [.dat (.int .i64), .fix .nils], .box [.dat (.int .i64), .fix (.sref 2)], .sl (.int .i64)], []⟩
def ximpl_EarlierPlan_l0 : List (XS ((List Int) × Int × (List (List Int)) × (List Int) × (List Int) × Int × Int × Int × Int × Int × Int)) := [⟨.exit 0, ⟨[4, 6], [.slot 4, .slot 6, .cell 6 1], [], []⟩, simpl_EarlierPlan_l0x0, Int × (List Int), fun i y => (((), ((), ())), ((i.2.2.2.2.2.2.2.2.2.2, ((), ())), ((y.1, ((), ())), (y.2, ()))))⟩]
def impl_EarlierPlan_l0K {R : Type} (a0 : List Int) (a1 : Int) (a3 : List (List Int)) (a4 : List Int) (a5 : List Int) (a6 : Int) (a7 : Int) (a8 : Int) (a9 : Int) (a10 : Int) (rc : Int → Int → List Int → Option R) (fin : Int × (List Int) → Option R) (a2 : Int) (a12 : Int) (a13 : List Int) : Option R :=
  cond (decide (a2 < a1))
  ((lat a0 a2).bind fun e1 =>
    (impl_EarlierPlan_l1 a2 e1 a3 a4 a5 a6 a7 a8 a9 a10 a12 a13 0).bind fun y4 =>
    rc (IntKind.i64.wrap (a2 + 1)) y4.1 y4.2)
  (fin (a12, a13))
def impl_EarlierPlan_l0F (a0 : List Int) (a1 : Int) (a3 : List (List Int)) (a4 : List Int) (a5 : List Int) (a6 : Int) (a7 : Int) (a8 : Int) (a9 : Int) (a10 : Int) (r : (Int × Int × (List Int)) → Option (Int × (List Int))) (x : Int × Int × (List Int)) : Option (Int × (List Int)) := impl_EarlierPlan_l0K a0 a1 a3 a4 a5 a6 a7 a8 a9 a10 (fun a2 a12 a13 => r (a2, (a12, a13))) some x.1 x.2.1 x.2.2
theorem impl_EarlierPlan_l0c (a0 : List Int) (a1 : Int) (a3 : List (List Int)) (a4 : List Int) (a5 : List Int) (a6 : Int) (a7 : Int) (a8 : Int) (a9 : Int) (a10 : Int) (x : Int × Int × (List Int)) : Ct fun r => impl_EarlierPlan_l0F a0 a1 a3 a4 a5 a6 a7 a8 a9 a10 r x := by
  unfold impl_EarlierPlan_l0F impl_EarlierPlan_l0K
  repeat' (first | exact Ct.const | exact Ct.call | refine Ct.cond ?_ ?_ | refine Ct.bind ?_ fun _ => ?_ | refine Ct.sum (fun _ => ?_) fun _ => ?_)
def impl_EarlierPlan_l0 (a0 : List Int) (a1 : Int) (a3 : List (List Int)) (a4 : List Int) (a5 : List Int) (a6 : Int) (a7 : Int) (a8 : Int) (a9 : Int) (a10 : Int) (a2 : Int) (a12 : Int) (a13 : List Int) : Option (Int × (List Int)) := lim (impl_EarlierPlan_l0F a0 a1 a3 a4 a5 a6 a7 a8 a9 a10) (a2, (a12, a13))
theorem impl_EarlierPlan_l0_eq (a0 : List Int) (a1 : Int) (a3 : List (List Int)) (a4 : List Int) (a5 : List Int) (a6 : Int) (a7 : Int) (a8 : Int) (a9 : Int) (a10 : Int) (a2 : Int) (a12 : Int) (a13 : List Int) : impl_EarlierPlan_l0 a0 a1 a3 a4 a5 a6 a7 a8 a9 a10 a2 a12 a13 = impl_EarlierPlan_l0K a0 a1 a3 a4 a5 a6 a7 a8 a9 a10 (impl_EarlierPlan_l0 a0 a1 a3 a4 a5 a6 a7 a8 a9 a10) some a2 a12 a13 := lim_eq (impl_EarlierPlan_l0c a0 a1 a3 a4 a5 a6 a7 a8 a9 a10) (a2, (a12, a13))
theorem impl_EarlierPlan_l0p {R : Type} (a0 : List Int) (a1 : Int) (a3 : List (List Int)) (a4 : List Int) (a5 : List Int) (a6 : Int) (a7 : Int) (a8 : Int) (a9 : Int) (a10 : Int) {rc : Int → Int → List Int → Option (Int × (List Int))} {rc' : Int → Int → List Int → Option R} {fin : Int × (List Int) → Option R} (hr : ∀ a2 a12 a13, Par fin (rc a2 a12 a13) (rc' a2 a12 a13)) (a2 : Int) (a12 : Int) (a13 : List Int) : Par fin (impl_EarlierPlan_l0K a0 a1 a3 a4 a5 a6 a7 a8 a9 a10 rc some a2 a12 a13) (impl_EarlierPlan_l0K a0 a1 a3 a4 a5 a6 a7 a8 a9 a10 rc' fin a2 a12 a13) := by
  unfold impl_EarlierPlan_l0K
  repeat' (first | exact .fin | exact .none | exact hr _ _ _ | refine .cond ?_ ?_ | refine .bind fun _ => ?_ | refine .sum (fun _ => ?_) fun _ => ?_)
def Limpl_EarlierPlan_l0 : Loop := mkL ⟨[2, 4, 6, 19, 20, 21], [.slot 2, .slot 4, .slot 6, .cell 6 1], [], []⟩ simpl_EarlierPlan_l0 ximpl_EarlierPlan_l0 (fun (x : (Unit × Unit × Unit × (List Int) × Int × Int × Unit) × (((List (List Int)) × (List Int) × (List Int) × Int × Int × Int × Int × Int × Unit) × (Int × Unit × Unit) × (Int × Unit × Unit) × (List Int) × Unit)) => (x.1.2.2.2.1, (x.1.2.2.2.2.1, (x.2.1.1, (x.2.1.2.1, (x.2.1.2.2.1, (x.2.1.2.2.2.1, (x.2.1.2.2.2.2.1, (x.2.1.2.2.2.2.2.1, (x.2.1.2.2.2.2.2.2.1, (x.2.1.2.2.2.2.2.2.2.1, x.2.2.1.1))))))))))) fun (x : (Unit × Unit × Unit × (List Int) × Int × Int × Unit) × (((List (List Int)) × (List Int) × (List Int) × Int × Int × Int × Int × Int × Unit) × (Int × Unit × Unit) × (Int × Unit × Unit) × (List Int) × Unit)) => impl_EarlierPlan_l0 x.1.2.2.2.1 x.1.2.2.2.2.1 x.2.1.1 x.2.1.2.1 x.2.1.2.2.1 x.2.1.2.2.2.1 x.2.1.2.2.2.2.1 x.2.1.2.2.2.2.2.1 x.2.1.2.2.2.2.2.2.1 x.2.1.2.2.2.2.2.2.2.1 x.1.2.2.2.2.2.1 x.2.2.2.1.1 x.2.2.2.2.1
def impl_EarlierPlanK {R : Type} (fin : (Int × (List Int)) × Bool → Option R) (x0 : DJob) (x1 : DPlan) : Option R :=
  (impl_isKept x0 x1).bind fun y1 =>
  cond (!y1)
  (fin ((0, []), false))
  ((impl_copyPlan x1).bind fun y2 =>
    (impl_EarlierPlan_l0 x1.2.1 (x1.2.1.length : Int) x0.1 x0.2.1 x0.2.2.1 x0.2.2.2.1.1 x0.2.2.2.1.2.1 x0.2.2.2.2.1 x0.2.2.2.2.2.1 x0.2.2.2.2.2.2.1 0 y2.1 y2.2).bind fun y7 =>
    fin (y7, true))
def impl_EarlierPlan (x0 : DJob) (x1 : DPlan) : Option ((Int × (List Int)) × Bool) := impl_EarlierPlanK some x0 x1
theorem p53 {R : Type} (fin : (Int × (List Int)) × Bool → Option R) (x0 : DJob) (x1 : DPlan) : Par fin (impl_EarlierPlanK some x0 x1) (impl_EarlierPlanK fin x0 x1) := by
  unfold impl_EarlierPlanK
  repeat' (first | exact .fin | exact .none | refine .cond ?_ ?_ | refine .bind fun _ => ?_ | refine .sum (fun _ => ?_) fun _ => ?_)
def or53 : Ora := { lo := addL 5 (Limpl_EarlierPlan_l0) (addL 8 (Limpl_EarlierPlan_l1) lo0), fin := [.own (.cell 4 1) (.int .i64)] }
theorem impl_EarlierPlan_l1e (a0 : Int) (a1 : Int) (a3 : List Int) (a4 : Int) (a5 : Int) (a6 : List (List Int)) (a7 : List Int) (a8 : List Int) (a9 : Int) (a10 : Int) (a11 : Int) (a12 : Int) (a13 : Int) (a14 : Int) (a15 : Int) (a16 : List Int) (k : Nat) (a2 : Int) : loopC Try.prog EL53 or53 ((loopsIn (codeOf Try.f53)).getD 1 .skip) (Limpl_EarlierPlan_l1).h (Limpl_EarlierPlan_l1).ho Try.f53.ntmps (k + 1) (simpl_EarlierPlan_l1.out (((), ((), ((), (a0, (a1, (a2, (a3, (a4, (a5, ()))))))))), ((a6, (a7, (a8, (a9, (a10, (a11, (a12, (a13, ())))))))), ((a14, ((), ())), ((a15, ((), ())), (a16, ())))))) =
    impl_EarlierPlan_l1K a0 a1 a6 a7 a8 a9 a10 a11 a12 a13 a15 a16 (fun a2 => loopC Try.prog EL53 or53 ((loopsIn (codeOf Try.f53)).getD 1 .skip) (Limpl_EarlierPlan_l1).h (Limpl_EarlierPlan_l1).ho Try.f53.ntmps k (simpl_EarlierPlan_l1.out (((), ((), ((), (a0, (a1, (a2, (a3, (a4, (a5, ()))))))))), ((a6, (a7, (a8, (a9, (a10, (a11, (a12, (a13, ())))))))), ((a14, ((), ())), ((a15, ((), ())), (a16, ()))))))) (fun y => some (XS.out ximpl_EarlierPlan_l1 (a0, (a1, (a3, (a4, (a5, (a6, (a7, (a8, (a9, (a10, (a11, (a12, (a13, (a14, (a15, a16))))))))))))))) y)) a2 := by kernel_rfl
theorem impl_EarlierPlan_l1o : LoopOk Try.prog EL53 or53 Try.f53.ntmps ((loopsIn (codeOf Try.f53)).getD 1 .skip) (Limpl_EarlierPlan_l1) :=
  loop_lim (hs := simpl_EarlierPlan_l1) (xs := ximpl_EarlierPlan_l1) (ι := fun (x : (Unit × Unit × Unit × Int × Int × Int × (List Int) × Int × Int × Unit) × (((List (List Int)) × (List Int) × (List Int) × Int × Int × Int × Int × Int × Unit) × (Int × Unit × Unit) × (Int × Unit × Unit) × (List Int) × Unit)) => (x.1.2.2.2.1, (x.1.2.2.2.2.1, (x.1.2.2.2.2.2.2.1, (x.1.2.2.2.2.2.2.2.1, (x.1.2.2.2.2.2.2.2.2.1, (x.2.1.1, (x.2.1.2.1, (x.2.1.2.2.1, (x.2.1.2.2.2.1, (x.2.1.2.2.2.2.1, (x.2.1.2.2.2.2.2.1, (x.2.1.2.2.2.2.2.2.1, (x.2.1.2.2.2.2.2.2.2.1, (x.2.2.1.1, (x.2.2.2.1.1, x.2.2.2.2.1)))))))))))))))) (φ := fun (x : (Unit × Unit × Unit × Int × Int × Int × (List Int) × Int × Int × Unit) × (((List (List Int)) × (List Int) × (List Int) × Int × Int × Int × Int × Int × Unit) × (Int × Unit × Unit) × (Int × Unit × Unit) × (List Int) × Unit)) => x.1.2.2.2.2.2.1) (ψ := fun (i : Int × Int × (List Int) × Int × Int × (List (List Int)) × (List Int) × (List Int) × Int × Int × Int × Int × Int × Int × Int × (List Int)) (v : Int) => (((), ((), ((), (i.1, (i.2.1, (v, (i.2.2.1, (i.2.2.2.1, (i.2.2.2.2.1, ()))))))))), ((i.2.2.2.2.2.1, (i.2.2.2.2.2.2.1, (i.2.2.2.2.2.2.2.1, (i.2.2.2.2.2.2.2.2.1, (i.2.2.2.2.2.2.2.2.2.1, (i.2.2.2.2.2.2.2.2.2.2.1, (i.2.2.2.2.2.2.2.2.2.2.2.1, (i.2.2.2.2.2.2.2.2.2.2.2.2.1, ())))))))), ((i.2.2.2.2.2.2.2.2.2.2.2.2.2.1, ((), ())), ((i.2.2.2.2.2.2.2.2.2.2.2.2.2.2.1, ((), ())), (i.2.2.2.2.2.2.2.2.2.2.2.2.2.2.2, ())))))) (F := fun (i : Int × Int × (List Int) × Int × Int × (List (List Int)) × (List Int) × (List Int) × Int × Int × Int × Int × Int × Int × Int × (List Int)) => impl_EarlierPlan_l1F i.1 i.2.1 i.2.2.2.2.2.1 i.2.2.2.2.2.2.1 i.2.2.2.2.2.2.2.1 i.2.2.2.2.2.2.2.2.1 i.2.2.2.2.2.2.2.2.2.1 i.2.2.2.2.2.2.2.2.2.2.1 i.2.2.2.2.2.2.2.2.2.2.2.1 i.2.2.2.2.2.2.2.2.2.2.2.2.1 i.2.2.2.2.2.2.2.2.2.2.2.2.2.2.1 i.2.2.2.2.2.2.2.2.2.2.2.2.2.2.2) (fun _ => rfl) fun i k hk v => Par.of_eq (impl_EarlierPlan_l1e i.1 i.2.1 i.2.2.1 i.2.2.2.1 i.2.2.2.2.1 i.2.2.2.2.2.1 i.2.2.2.2.2.2.1 i.2.2.2.2.2.2.2.1 i.2.2.2.2.2.2.2.2.1 i.2.2.2.2.2.2.2.2.2.1 i.2.2.2.2.2.2.2.2.2.2.1 i.2.2.2.2.2.2.2.2.2.2.2.1 i.2.2.2.2.2.2.2.2.2.2.2.2.1 i.2.2.2.2.2.2.2.2.2.2.2.2.2.1 i.2.2.2.2.2.2.2.2.2.2.2.2.2.2.1 i.2.2.2.2.2.2.2.2.2.2.2.2.2.2.2 k v) (impl_EarlierPlan_l1p i.1 i.2.1 i.2.2.2.2.2.1 i.2.2.2.2.2.2.1 i.2.2.2.2.2.2.2.1 i.2.2.2.2.2.2.2.2.1 i.2.2.2.2.2.2.2.2.2.1 i.2.2.2.2.2.2.2.2.2.2.1 i.2.2.2.2.2.2.2.2.2.2.2.1 i.2.2.2.2.2.2.2.2.2.2.2.2.1 i.2.2.2.2.2.2.2.2.2.2.2.2.2.2.1 i.2.2.2.2.2.2.2.2.2.2.2.2.2.2.2 (fun a2 => hk a2) v)
theorem impl_EarlierPlan_l0e (a0 : List Int) (a1 : Int) (a3 : List (List Int)) (a4 : List Int) (a5 : List Int) (a6 : Int) (a7 : Int) (a8 : Int) (a9 : Int) (a10 : Int) (a11 : Int) (k : Nat) (a2 : Int) (a12 : Int) (a13 : List Int) : loopC Try.prog EL53 or53 ((loopsIn (codeOf Try.f53)).getD 0 .skip) (Limpl_EarlierPlan_l0).h (Limpl_EarlierPlan_l0).ho Try.f53.ntmps (k + 1) (simpl_EarlierPlan_l0.out (((), ((), ((), (a0, (a1, (a2, ())))))), ((a3, (a4, (a5, (a6, (a7, (a8, (a9, (a10, ())))))))), ((a11, ((), ())), ((a12, ((), ())), (a13, ())))))) =
    impl_EarlierPlan_l0K a0 a1 a3 a4 a5 a6 a7 a8 a9 a10 (fun a2 a12 a13 => loopC Try.prog EL53 or53 ((loopsIn (codeOf Try.f53)).getD 0 .skip) (Limpl_EarlierPlan_l0).h (Limpl_EarlierPlan_l0).ho Try.f53.ntmps k (simpl_EarlierPlan_l0.out (((), ((), ((), (a0, (a1, (a2, ())))))), ((a3, (a4, (a5, (a6, (a7, (a8, (a9, (a10, ())))))))), ((a11, ((), ())), ((a12, ((), ())), (a13, ()))))))) (fun y => some (XS.out ximpl_EarlierPlan_l0 (a0, (a1, (a3, (a4, (a5, (a6, (a7, (a8, (a9, (a10, a11)))))))))) y)) a2 a12 a13 := by kernel_rfl
theorem impl_EarlierPlan_l0o : LoopOk Try.prog EL53 or53 Try.f53.ntmps ((loopsIn (codeOf Try.f53)).getD 0 .skip) (Limpl_EarlierPlan_l0) :=
  loop_lim (hs := simpl_EarlierPlan_l0) (xs := ximpl_EarlierPlan_l0) (ι := fun (x : (Unit × Unit × Unit × (List Int) × Int × Int × Unit) × (((List (List Int)) × (List Int) × (List Int) × Int × Int × Int × Int × Int × Unit) × (Int × Unit × Unit) × (Int × Unit × Unit) × (List Int) × Unit)) => (x.1.2.2.2.1, (x.1.2.2.2.2.1, (x.2.1.1, (x.2.1.2.1, (x.2.1.2.2.1, (x.2.1.2.2.2.1, (x.2.1.2.2.2.2.1, (x.2.1.2.2.2.2.2.1, (x.2.1.2.2.2.2.2.2.1, (x.2.1.2.2.2.2.2.2.2.1, x.2.2.1.1))))))))))) (φ := fun (x : (Unit × Unit × Unit × (List Int) × Int × Int × Unit) × (((List (List Int)) × (List Int) × (List Int) × Int × Int × Int × Int × Int × Unit) × (Int × Unit × Unit) × (Int × Unit × Unit) × (List Int) × Unit)) => (x.1.2.2.2.2.2.1, (x.2.2.2.1.1, x.2.2.2.2.1))) (ψ := fun (i : (List Int) × Int × (List (List Int)) × (List Int) × (List Int) × Int × Int × Int × Int × Int × Int) (v : Int × Int × (List Int)) => (((), ((), ((), (i.1, (i.2.1, (v.1, ())))))), ((i.2.2.1, (i.2.2.2.1, (i.2.2.2.2.1, (i.2.2.2.2.2.1, (i.2.2.2.2.2.2.1, (i.2.2.2.2.2.2.2.1, (i.2.2.2.2.2.2.2.2.1, (i.2.2.2.2.2.2.2.2.2.1, ())))))))), ((i.2.2.2.2.2.2.2.2.2.2, ((), ())), ((v.2.1, ((), ())), (v.2.2, ())))))) (F := fun (i : (List Int) × Int × (List (List Int)) × (List Int) × (List Int) × Int × Int × Int × Int × Int × Int) => impl_EarlierPlan_l0F i.1 i.2.1 i.2.2.1 i.2.2.2.1 i.2.2.2.2.1 i.2.2.2.2.2.1 i.2.2.2.2.2.2.1 i.2.2.2.2.2.2.2.1 i.2.2.2.2.2.2.2.2.1 i.2.2.2.2.2.2.2.2.2.1) (fun _ => rfl) fun i k hk v => Par.of_eq (impl_EarlierPlan_l0e i.1 i.2.1 i.2.2.1 i.2.2.2.1 i.2.2.2.2.1 i.2.2.2.2.2.1 i.2.2.2.2.2.2.1 i.2.2.2.2.2.2.2.1 i.2.2.2.2.2.2.2.2.1 i.2.2.2.2.2.2.2.2.2.1 i.2.2.2.2.2.2.2.2.2.2 k v.1 v.2.1 v.2.2) (impl_EarlierPlan_l0p i.1 i.2.1 i.2.2.1 i.2.2.2.1 i.2.2.2.2.1 i.2.2.2.2.2.1 i.2.2.2.2.2.2.1 i.2.2.2.2.2.2.2.1 i.2.2.2.2.2.2.2.2.1 i.2.2.2.2.2.2.2.2.2.1 (fun a2 a12 a13 => hk (a2, (a12, a13))) v.1 v.2.1 v.2.2)
def c53 : Callee := mkC [.agg [.ro TJob], .agg [.ro TPlan]] 2 [.agg [.ro (.int .i64), .sl (.int .i64)], .one (.ro .bool)] fun x => impl_EarlierPlan x.1 x.2
theorem e53 (x : PK.dens [.agg [.ro TJob], .agg [.ro TPlan]]) : evalFn Try.prog EL53 or53 Try.f53 (PK.outs [.agg [.ro TJob], .agg [.ro TPlan]] x) =
    impl_EarlierPlanK (fun y => some (tupOf ((PK.outs [.agg [.ro (.int .i64), .sl (.int .i64)], .one (.ro .bool)] y).take 2), (PK.outs [.agg [.ro (.int .i64), .sl (.int .i64)], .one (.ro .bool)] y).drop 2)) x.1 x.2 := by kernel_rfl
theorem o53 : LoOk Try.prog EL53 or53 Try.f53.ntmps (loopsIn (codeOf Try.f53)) :=
  LoOk.mk (m := 2) (by kernel_rfl) fun i hi => match i, hi with
    | 0, _ => ⟨Limpl_EarlierPlan_l0, by kernel_rfl, impl_EarlierPlan_l0o⟩
    | 1, _ => ⟨Limpl_EarlierPlan_l1, by kernel_rfl, impl_EarlierPlan_l1o⟩
    | i + 2, hi => absurd hi (by omega)
theorem k53 : CalleeOk Try.prog 53 c53 := callee_mk Try.func53 (code := codeOf Try.f53) (by kernel_rfl) vL53 mixed o53 fun x y h => (e53 x).trans (p53 _ x.1 x.2 y h)

/-- laws.FnExactEarlierPlan -/
def EL13 : Nat → Option Callee := addE 49 c49 (addE 34 c34 (addE 33 c33 (addE 24 c24 (addE 30 c30 (addE 53 c53 (addE 52 c52 (addE 28 c28 (addE 21 c21 (addE 26 c26 (addE 19 c19 env0))))))))))
theorem vL13 : EnvOk Try.prog EL13 := ((((((((((EnvOk.nil.add Try.func19 rfl (by kernel_rfl) k19).add Try.func26 rfl (by kernel_rfl) k26).add Try.func21 rfl (by kernel_rfl) k21).add Try.func28 rfl (by kernel_rfl) k28).add Try.func52 rfl (by kernel_rfl) k52).add Try.func53 rfl (by kernel_rfl) k53).add Try.func30 rfl (by kernel_rfl) k30).add Try.func24 rfl (by kernel_rfl) k24).add Try.func33 rfl (by kernel_rfl) k33).add Try.func34 rfl (by kernel_rfl) k34).add Try.func49 rfl (by kernel_rfl) k49
def laws_FnExactEarlierPlanK {R : Type} (fin : Bool → Option R) (x0 : DJob) (x1 : DPlan) : Option R :=
  (laws_szJob x0 1048576).bind fun y1 =>
  cond (decide (y1 < 0))
  (fin true)
  ((laws_szPlan x1 y1).bind fun y2 =>
    cond (decide (y2 < 0))
    (fin true)
    ((laws_toJob x0).bind fun y3 =>
      (laws_toPlan x1).bind fun y4 =>
      (spec_EarlierPlan (y3.1, (y3.2.1, (y3.2.2.1, ((y3.2.2.2.1, (y3.2.2.2.2.1, ())), (y3.2.2.2.2.2.1, (y3.2.2.2.2.2.2.1, (y3.2.2.2.2.2.2.2, ()))))))) (y4.1, (y4.2, ()))).bind fun y5 =>
      (laws_toJob x0).bind fun y6 =>
      (laws_toPlan x1).bind fun y7 =>
      (impl_EarlierPlan (y6.1, (y6.2.1, (y6.2.2.1, ((y6.2.2.2.1, (y6.2.2.2.2.1, ())), (y6.2.2.2.2.2.1, (y6.2.2.2.2.2.2.1, (y6.2.2.2.2.2.2.2, ()))))))) (y7.1, (y7.2, ()))).bind fun y8 =>
      (laws_eqPlan (y8.1.1, (y8.1.2, ())) (y5.1.1, (y5.1.2, ()))).bind fun y9 =>
      cond (!y9)
      (fin false)
      (cond (!(y8.2 == y5.2))
        (fin false)
        ((laws_toJob x0).bind fun y10 =>
          (laws_eqJob (y6.1, (y6.2.1, (y6.2.2.1, ((y6.2.2.2.1, (y6.2.2.2.2.1, ())), (y6.2.2.2.2.2.1, (y6.2.2.2.2.2.2.1, (y6.2.2.2.2.2.2.2, ()))))))) (y10.1, (y10.2.1, (y10.2.2.1, ((y10.2.2.2.1, (y10.2.2.2.2.1, ())), (y10.2.2.2.2.2.1, (y10.2.2.2.2.2.2.1, (y10.2.2.2.2.2.2.2, ())))))))).bind fun y11 =>
          cond (!y11)
          (fin false)
          ((laws_toPlan x1).bind fun y12 =>
            (laws_eqPlan (y7.1, (y7.2, ())) (y12.1, (y12.2, ()))).bind fun y13 =>
            cond (!y13)
            (fin false)
            ((laws_markJob y6 1).bind fun y14 =>
              (laws_markPlan y7 y14.1).bind fun y15 =>
              cond (decide (y15.1 < 0))
              (fin false)
              ((laws_eqPlan (y8.1.1, (y8.1.2, ())) (y5.1.1, (y5.1.2, ()))).bind fun y16 =>
                cond (!y16)
                (fin false)
                (cond (!(y8.2 == y5.2))
                  (fin false)
                  ((laws_markPlan y8.1 1).bind fun y17 =>
                    (laws_heldPlan (y8.1.1, (y17.2.2, ())) 1).bind fun y18 =>
                    cond (decide (y18 < 0))
                    (fin false)
                    (cond (y18 != y17.1)
                      (fin false)
                      ((laws_toJob x0).bind fun y19 =>
                        (laws_toPlan x1).bind fun y20 =>
                        (impl_EarlierPlan (y19.1, (y19.2.1, (y19.2.2.1, ((y19.2.2.2.1, (y19.2.2.2.2.1, ())), (y19.2.2.2.2.2.1, (y19.2.2.2.2.2.2.1, (y19.2.2.2.2.2.2.2, ()))))))) (y20.1, (y20.2, ()))).bind fun y21 =>
                        (laws_eqPlan (y21.1.1, (y21.1.2, ())) (y5.1.1, (y5.1.2, ()))).bind fun y22 =>
                        cond (!y22)
                        (fin false)
                        (cond (!(y21.2 == y5.2))
                          (fin false)
                          ((laws_heldPlan (y8.1.1, (y17.2.2, ())) 1).bind fun y23 =>
                            cond (decide (y23 < 0))
                            (fin false)
                            (cond (y23 != y17.1)
                              (fin false)
                              (fin true)))))))))))))))
def laws_FnExactEarlierPlan (x0 : DJob) (x1 : DPlan) : Option (Bool) := laws_FnExactEarlierPlanK some x0 x1
theorem p13 {R : Type} (fin : Bool → Option R) (x0 : DJob) (x1 : DPlan) : Par fin (laws_FnExactEarlierPlanK some x0 x1) (laws_FnExactEarlierPlanK fin x0 x1) := by
  unfold laws_FnExactEarlierPlanK
  repeat' (first | exact .fin | exact .none | refine .cond ?_ ?_ | refine .bind fun _ => ?_ | refine .sum (fun _ => ?_) fun _ => ?_)
def c13 : Callee := mkC [.agg [.ro TJob], .agg [.ro TPlan]] 1 [.one (.ro .bool)] fun x => laws_FnExactEarlierPlan x.1 x.2
theorem e13 (x : PK.dens [.agg [.ro TJob], .agg [.ro TPlan]]) : evalFn Try.prog EL13 or0 Try.f13 (PK.outs [.agg [.ro TJob], .agg [.ro TPlan]] x) =
    laws_FnExactEarlierPlanK (fun y => some (tupOf ((PK.outs [.one (.ro .bool)] y).take 1), (PK.outs [.one (.ro .bool)] y).drop 1)) x.1 x.2 := by kernel_rfl
theorem k13 : CalleeOk Try.prog 13 c13 := callee_mk Try.func13 (code := codeOf Try.f13) (by kernel_rfl) vL13 mixed (LoOk.nil (by kernel_rfl)) fun x y h => (e13 x).trans (p13 _ x.1 x.2 y h)
end
end Go.OAI
