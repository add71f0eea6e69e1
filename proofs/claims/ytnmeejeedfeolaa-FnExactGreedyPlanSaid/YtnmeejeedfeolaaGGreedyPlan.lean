/- Contracts: GGreedyPlan. -/
import Derived.Test.YtnmeejeedfeolaaGA
import Derived.Test.YtnmeejeedfeolaaGGr
namespace Go.OAI
open Go.Proofs
set_option linter.unusedVariables false
noncomputable section


/-- spec.GreedyPlan -/
def EL47 : Nat → Option Callee := addE 95 c95 (addE 94 c94 (addE 93 c93 (addE 66 c66 env0)))
theorem vL47 : EnvOk Try.prog EL47 := (((EnvOk.nil.add Try.func66 rfl (by kernel_rfl) k66).add Try.func93 rfl (by kernel_rfl) k93).add Try.func94 rfl (by kernel_rfl) k94).add Try.func95 rfl (by kernel_rfl) k95
def sspec_GreedyPlan_l2 : LS := ⟨[(1, .one (.fix (.ptr 0 0))), (2, .one (.fix (.ptr 1 0))), (4, .one (.fix (.ptr 2 0))), (5, .one (.dat (.int .i64))), (6, .one (.dat (.int .i64))), (22, .one (.dat (.slice (.int .i64)))), (23, .one (.dat (.int .i64))), (24, .one (.dat (.int .i64)))], [.box [.dat (.slice (.slice (.int .i64))), .dat (.slice (.int .i64)), .dat (.slice (.int .i64)), .dat (.int .i64), .dat (.int .i64), .dat (.int .i64), .dat (.int .i64), .dat (.int .i64)], .box [.dat (.int .i64), .fix .nils], .box [.dat (.int .i64), .fix (.sref 3)], .sl (.int .i64)], []⟩
def sspec_GreedyPlan_l2x0 : LS := ⟨[(1, .one (.fix (.ptr 0 0))), (2, .one (.fix (.ptr 1 0))), (4, .one (.fix (.ptr 2 0))), (5, .one (.dat (.int .i64))), (6, .one (.dat (.int .i64)))], [.box [.dat (.slice (.slice (.int .i64))), .dat (.slice (.int .i64)), .dat (.slice (.int .i64)), .dat (.int .i64), .dat (.int .i64), .dat (.int .i64), .dat (.int .i64), .dat (.int .i64)], .box [.dat (.int .i64), .fix .nils], .box [.dat (.int .i64), .fix (.sref 3)], .sl (.int .i64)], []⟩
def xspec_GreedyPlan_l2 : List (XS (Int × (List Int) × Int × (List (List Int)) × (List Int) × (List Int) × Int × Int × Int × Int × Int × Int × Int × (List Int))) := [⟨.exit 4, ⟨[1, 2, 4, 5, 6], [.slot 1, .slot 2, .slot 4, .cell 4 1], [], []⟩, sspec_GreedyPlan_l2x0, Int, fun i y => (((), ((), ((), (i.1, (y, ()))))), ((i.2.2.2.1, (i.2.2.2.2.1, (i.2.2.2.2.2.1, (i.2.2.2.2.2.2.1, (i.2.2.2.2.2.2.2.1, (i.2.2.2.2.2.2.2.2.1, (i.2.2.2.2.2.2.2.2.2.1, (i.2.2.2.2.2.2.2.2.2.2.1, ())))))))), ((i.2.2.2.2.2.2.2.2.2.2.2.1, ((), ())), ((i.2.2.2.2.2.2.2.2.2.2.2.2.1, ((), ())), (i.2.2.2.2.2.2.2.2.2.2.2.2.2, ())))))⟩]
def spec_GreedyPlan_l2K {R : Type} (a0 : Int) (a2 : List Int) (a3 : Int) (a5 : List (List Int)) (a6 : List Int) (a7 : List Int) (a8 : Int) (a9 : Int) (a10 : Int) (a11 : Int) (a12 : Int) (a14 : Int) (a15 : List Int) (rc : Int → Int → Option R) (fin : Int → Option R) (a1 : Int) (a4 : Int) : Option R :=
  cond (decide (a4 < a3))
  ((lat a2 a4).bind fun e1 =>
    cond (decide ((0 : Int) ≤ a4) && decide (a4 < (a15.length : Int)))
    (cond (decide ((a15.getD (0 + a4.toNat) 0) < 0))
      (cond (decide (a1 < 0))
        ((spec_wiOpen (a5, (a6, (a7, ((a8, (a9, ())), (a10, (a11, (a12, ()))))))) (a14, (a15, ())) a4 a0).bind fun y2 =>
          cond (y2)
          ((spec_wiRoom (a5, (a6, (a7, ((a8, (a9, ())), (a10, (a11, (a12, ()))))))) (a14, (a15, ())) a0 [a4]).bind fun y3 =>
            cond (y3)
            (rc a4 (IntKind.i64.wrap (a4 + 1)))
            (rc a1 (IntKind.i64.wrap (a4 + 1))))
          (rc a1 (IntKind.i64.wrap (a4 + 1))))
        ((lat a7 a1).bind fun e4 =>
          cond (decide (e1 > e4))
          ((spec_wiOpen (a5, (a6, (a7, ((a8, (a9, ())), (a10, (a11, (a12, ()))))))) (a14, (a15, ())) a4 a0).bind fun y5 =>
            cond (y5)
            ((spec_wiRoom (a5, (a6, (a7, ((a8, (a9, ())), (a10, (a11, (a12, ()))))))) (a14, (a15, ())) a0 [a4]).bind fun y6 =>
              cond (y6)
              (rc a4 (IntKind.i64.wrap (a4 + 1)))
              (rc a1 (IntKind.i64.wrap (a4 + 1))))
            (rc a1 (IntKind.i64.wrap (a4 + 1))))
          (rc a1 (IntKind.i64.wrap (a4 + 1)))))
      (rc a1 (IntKind.i64.wrap (a4 + 1))))
    (none))
  (fin a1)
def spec_GreedyPlan_l2F (a0 : Int) (a2 : List Int) (a3 : Int) (a5 : List (List Int)) (a6 : List Int) (a7 : List Int) (a8 : Int) (a9 : Int) (a10 : Int) (a11 : Int) (a12 : Int) (a14 : Int) (a15 : List Int) (r : (Int × Int) → Option (Int)) (x : Int × Int) : Option (Int) := spec_GreedyPlan_l2K a0 a2 a3 a5 a6 a7 a8 a9 a10 a11 a12 a14 a15 (fun a1 a4 => r (a1, a4)) some x.1 x.2
theorem spec_GreedyPlan_l2c (a0 : Int) (a2 : List Int) (a3 : Int) (a5 : List (List Int)) (a6 : List Int) (a7 : List Int) (a8 : Int) (a9 : Int) (a10 : Int) (a11 : Int) (a12 : Int) (a14 : Int) (a15 : List Int) (x : Int × Int) : Ct fun r => spec_GreedyPlan_l2F a0 a2 a3 a5 a6 a7 a8 a9 a10 a11 a12 a14 a15 r x := by
  unfold spec_GreedyPlan_l2F spec_GreedyPlan_l2K
  repeat' (first | exact Ct.const | exact Ct.call | refine Ct.cond ?_ ?_ | refine Ct.bind ?_ fun _ => ?_ | refine Ct.sum (fun _ => ?_) fun _ => ?_)
def spec_GreedyPlan_l2 (a0 : Int) (a2 : List Int) (a3 : Int) (a5 : List (List Int)) (a6 : List Int) (a7 : List Int) (a8 : Int) (a9 : Int) (a10 : Int) (a11 : Int) (a12 : Int) (a14 : Int) (a15 : List Int) (a1 : Int) (a4 : Int) : Option (Int) := lim (spec_GreedyPlan_l2F a0 a2 a3 a5 a6 a7 a8 a9 a10 a11 a12 a14 a15) (a1, a4)
theorem spec_GreedyPlan_l2_eq (a0 : Int) (a2 : List Int) (a3 : Int) (a5 : List (List Int)) (a6 : List Int) (a7 : List Int) (a8 : Int) (a9 : Int) (a10 : Int) (a11 : Int) (a12 : Int) (a14 : Int) (a15 : List Int) (a1 : Int) (a4 : Int) : spec_GreedyPlan_l2 a0 a2 a3 a5 a6 a7 a8 a9 a10 a11 a12 a14 a15 a1 a4 = spec_GreedyPlan_l2K a0 a2 a3 a5 a6 a7 a8 a9 a10 a11 a12 a14 a15 (spec_GreedyPlan_l2 a0 a2 a3 a5 a6 a7 a8 a9 a10 a11 a12 a14 a15) some a1 a4 := lim_eq (spec_GreedyPlan_l2c a0 a2 a3 a5 a6 a7 a8 a9 a10 a11 a12 a14 a15) (a1, a4)
theorem spec_GreedyPlan_l2p {R : Type} (a0 : Int) (a2 : List Int) (a3 : Int) (a5 : List (List Int)) (a6 : List Int) (a7 : List Int) (a8 : Int) (a9 : Int) (a10 : Int) (a11 : Int) (a12 : Int) (a14 : Int) (a15 : List Int) {rc : Int → Int → Option (Int)} {rc' : Int → Int → Option R} {fin : Int → Option R} (hr : ∀ a1 a4, Par fin (rc a1 a4) (rc' a1 a4)) (a1 : Int) (a4 : Int) : Par fin (spec_GreedyPlan_l2K a0 a2 a3 a5 a6 a7 a8 a9 a10 a11 a12 a14 a15 rc some a1 a4) (spec_GreedyPlan_l2K a0 a2 a3 a5 a6 a7 a8 a9 a10 a11 a12 a14 a15 rc' fin a1 a4) := by
  unfold spec_GreedyPlan_l2K
  repeat' (first | exact .fin | exact .none | exact hr _ _ | refine .cond ?_ ?_ | refine .bind fun _ => ?_ | refine .sum (fun _ => ?_) fun _ => ?_)
def Lspec_GreedyPlan_l2 : Loop := mkL ⟨[1, 2, 4, 5, 6, 22, 23, 24], [.slot 1, .slot 2, .slot 4, .cell 4 1], [], []⟩ sspec_GreedyPlan_l2 xspec_GreedyPlan_l2 (fun (x : (Unit × Unit × Unit × Int × Int × (List Int) × Int × Int × Unit) × (((List (List Int)) × (List Int) × (List Int) × Int × Int × Int × Int × Int × Unit) × (Int × Unit × Unit) × (Int × Unit × Unit) × (List Int) × Unit)) => (x.1.2.2.2.1, (x.1.2.2.2.2.2.1, (x.1.2.2.2.2.2.2.1, (x.2.1.1, (x.2.1.2.1, (x.2.1.2.2.1, (x.2.1.2.2.2.1, (x.2.1.2.2.2.2.1, (x.2.1.2.2.2.2.2.1, (x.2.1.2.2.2.2.2.2.1, (x.2.1.2.2.2.2.2.2.2.1, (x.2.2.1.1, (x.2.2.2.1.1, x.2.2.2.2.1)))))))))))))) fun (x : (Unit × Unit × Unit × Int × Int × (List Int) × Int × Int × Unit) × (((List (List Int)) × (List Int) × (List Int) × Int × Int × Int × Int × Int × Unit) × (Int × Unit × Unit) × (Int × Unit × Unit) × (List Int) × Unit)) => spec_GreedyPlan_l2 x.1.2.2.2.1 x.1.2.2.2.2.2.1 x.1.2.2.2.2.2.2.1 x.2.1.1 x.2.1.2.1 x.2.1.2.2.1 x.2.1.2.2.2.1 x.2.1.2.2.2.2.1 x.2.1.2.2.2.2.2.1 x.2.1.2.2.2.2.2.2.1 x.2.1.2.2.2.2.2.2.2.1 x.2.2.2.1.1 x.2.2.2.2.1 x.1.2.2.2.2.1 x.1.2.2.2.2.2.2.2.1
def sspec_GreedyPlan_l1 : LS := ⟨[(1, .one (.fix (.ptr 0 0))), (2, .one (.fix (.ptr 1 0))), (4, .one (.fix (.ptr 2 0))), (5, .one (.dat (.int .i64)))], [.box [.dat (.slice (.slice (.int .i64))), .dat (.slice (.int .i64)), .dat (.slice (.int .i64)), .dat (.int .i64), .dat (.int .i64), .dat (.int .i64), .dat (.int .i64), .dat (.int .i64)], .box [.dat (.int .i64), .fix .nils], .box [.dat (.int .i64), .fix (.sref 3)], .sl (.int .i64)], []⟩
def sspec_GreedyPlan_l1x0 : LS := ⟨[(1, .one (.fix (.ptr 0 0))), (2, .one (.fix (.ptr 1 0))), (4, .one (.fix (.ptr 2 0))), (5, .one (.dat (.int .i64)))], [.box [.dat (.slice (.slice (.int .i64))), .dat (.slice (.int .i64)), .dat (.slice (.int .i64)), .dat (.int .i64), .dat (.int .i64), .dat (.int .i64), .dat (.int .i64), .dat (.int .i64)], .box [.dat (.int .i64), .fix .nils], .box [.dat (.int .i64), .fix (.sref 3)], .sl (.int .i64)], []⟩
def xspec_GreedyPlan_l1 : List (XS (Int × (List (List Int)) × (List Int) × (List Int) × Int × Int × Int × Int × Int × Int × Int)) := [⟨.exit 2, ⟨[1, 2, 4, 5], [.slot 1, .slot 2, .slot 4, .cell 4 1], [], []⟩, sspec_GreedyPlan_l1x0, List Int, fun i y => (((), ((), ((), (i.1, ())))), ((i.2.1, (i.2.2.1, (i.2.2.2.1, (i.2.2.2.2.1, (i.2.2.2.2.2.1, (i.2.2.2.2.2.2.1, (i.2.2.2.2.2.2.2.1, (i.2.2.2.2.2.2.2.2.1, ())))))))), ((i.2.2.2.2.2.2.2.2.2.1, ((), ())), ((i.2.2.2.2.2.2.2.2.2.2, ((), ())), (y, ())))))⟩]
def spec_GreedyPlan_l1K {R : Type} (a0 : Int) (a1 : List (List Int)) (a2 : List Int) (a3 : List Int) (a4 : Int) (a5 : Int) (a6 : Int) (a7 : Int) (a8 : Int) (a10 : Int) (rc : List Int → Option R) (fin : List Int → Option R) (a11 : List Int) : Option R :=
  (spec_GreedyPlan_l2 a0 a3 (a3.length : Int) a1 a2 a3 a4 a5 a6 a7 a8 a10 a11 (-1) 0).bind fun y7 =>
  cond (decide (y7 < 0))
  (fin a11)
  (cond (decide ((0 : Int) ≤ y7) && decide (y7 < (a11.length : Int)))
    ((some (a11.set (0 + y7.toNat) a0)).bind fun v8 =>
      rc v8)
    (none))
def spec_GreedyPlan_l1F (a0 : Int) (a1 : List (List Int)) (a2 : List Int) (a3 : List Int) (a4 : Int) (a5 : Int) (a6 : Int) (a7 : Int) (a8 : Int) (a10 : Int) (r : List Int → Option (List Int)) (x : List Int) : Option (List Int) := spec_GreedyPlan_l1K a0 a1 a2 a3 a4 a5 a6 a7 a8 a10 (fun a11 => r a11) some x
theorem spec_GreedyPlan_l1c (a0 : Int) (a1 : List (List Int)) (a2 : List Int) (a3 : List Int) (a4 : Int) (a5 : Int) (a6 : Int) (a7 : Int) (a8 : Int) (a10 : Int) (x : List Int) : Ct fun r => spec_GreedyPlan_l1F a0 a1 a2 a3 a4 a5 a6 a7 a8 a10 r x := by
  unfold spec_GreedyPlan_l1F spec_GreedyPlan_l1K
  repeat' (first | exact Ct.const | exact Ct.call | refine Ct.cond ?_ ?_ | refine Ct.bind ?_ fun _ => ?_ | refine Ct.sum (fun _ => ?_) fun _ => ?_)
def spec_GreedyPlan_l1 (a0 : Int) (a1 : List (List Int)) (a2 : List Int) (a3 : List Int) (a4 : Int) (a5 : Int) (a6 : Int) (a7 : Int) (a8 : Int) (a10 : Int) (a11 : List Int) : Option (List Int) := lim (spec_GreedyPlan_l1F a0 a1 a2 a3 a4 a5 a6 a7 a8 a10) a11
theorem spec_GreedyPlan_l1_eq (a0 : Int) (a1 : List (List Int)) (a2 : List Int) (a3 : List Int) (a4 : Int) (a5 : Int) (a6 : Int) (a7 : Int) (a8 : Int) (a10 : Int) (a11 : List Int) : spec_GreedyPlan_l1 a0 a1 a2 a3 a4 a5 a6 a7 a8 a10 a11 = spec_GreedyPlan_l1K a0 a1 a2 a3 a4 a5 a6 a7 a8 a10 (spec_GreedyPlan_l1 a0 a1 a2 a3 a4 a5 a6 a7 a8 a10) some a11 := lim_eq (spec_GreedyPlan_l1c a0 a1 a2 a3 a4 a5 a6 a7 a8 a10) a11
theorem spec_GreedyPlan_l1p {R : Type} (a0 : Int) (a1 : List (List Int)) (a2 : List Int) (a3 : List Int) (a4 : Int) (a5 : Int) (a6 : Int) (a7 : Int) (a8 : Int) (a10 : Int) {rc : List Int → Option (List Int)} {rc' : List Int → Option R} {fin : List Int → Option R} (hr : ∀ a11, Par fin (rc a11) (rc' a11)) (a11 : List Int) : Par fin (spec_GreedyPlan_l1K a0 a1 a2 a3 a4 a5 a6 a7 a8 a10 rc some a11) (spec_GreedyPlan_l1K a0 a1 a2 a3 a4 a5 a6 a7 a8 a10 rc' fin a11) := by
  unfold spec_GreedyPlan_l1K
  repeat' (first | exact .fin | exact .none | exact hr _ | refine .cond ?_ ?_ | refine .bind fun _ => ?_ | refine .sum (fun _ => ?_) fun _ => ?_)
def Lspec_GreedyPlan_l1 : Loop := mkL ⟨[1, 2, 4, 5], [.slot 1, .slot 2, .slot 4, .cell 4 1], [], []⟩ sspec_GreedyPlan_l1 xspec_GreedyPlan_l1 (fun (x : (Unit × Unit × Unit × Int × Unit) × (((List (List Int)) × (List Int) × (List Int) × Int × Int × Int × Int × Int × Unit) × (Int × Unit × Unit) × (Int × Unit × Unit) × (List Int) × Unit)) => (x.1.2.2.2.1, (x.2.1.1, (x.2.1.2.1, (x.2.1.2.2.1, (x.2.1.2.2.2.1, (x.2.1.2.2.2.2.1, (x.2.1.2.2.2.2.2.1, (x.2.1.2.2.2.2.2.2.1, (x.2.1.2.2.2.2.2.2.2.1, (x.2.2.1.1, x.2.2.2.1.1))))))))))) fun (x : (Unit × Unit × Unit × Int × Unit) × (((List (List Int)) × (List Int) × (List Int) × Int × Int × Int × Int × Int × Unit) × (Int × Unit × Unit) × (Int × Unit × Unit) × (List Int) × Unit)) => spec_GreedyPlan_l1 x.1.2.2.2.1 x.2.1.1 x.2.1.2.1 x.2.1.2.2.1 x.2.1.2.2.2.1 x.2.1.2.2.2.2.1 x.2.1.2.2.2.2.2.1 x.2.1.2.2.2.2.2.2.1 x.2.1.2.2.2.2.2.2.2.1 x.2.2.2.1.1 x.2.2.2.2.1
def sspec_GreedyPlan_l0 : LS := ⟨[(1, .one (.fix (.ptr 0 0))), (2, .one (.fix (.ptr 1 0))), (4, .one (.fix (.ptr 2 0))), (5, .one (.dat (.int .i64)))], [.box [.dat (.slice (.slice (.int .i64))), .dat (.slice (.int .i64)), .dat (.slice (.int .i64)), .dat (.int .i64), .dat (.int .i64), .dat (.int .i64), .dat (.int .i64), .dat (.int .i64)], .box [.dat (.int .i64), .fix .nils], .box [.dat (.int .i64), .fix (.sref 3)], .sl (.int .i64)], []⟩
def sspec_GreedyPlan_l0x0 : LS := ⟨[(2, .one (.fix (.ptr 0 0))), (4, .one (.fix (.ptr 1 0)))], [.box [.dat (.int .i64), .fix .nils], .box [.dat (.int .i64), .fix (.sref 2)], .sl (.int .i64)], []⟩
def xspec_GreedyPlan_l0 : List (XS ((List (List Int)) × (List Int) × (List Int) × Int × Int × Int × Int × Int × Int × Int)) := [⟨.exit 0, ⟨[2, 4], [.slot 2, .slot 4, .cell 4 1], [], []⟩, sspec_GreedyPlan_l0x0, List Int, fun i y => (((), ((), ())), ((i.2.2.2.2.2.2.2.2.1, ((), ())), ((i.2.2.2.2.2.2.2.2.2, ((), ())), (y, ()))))⟩]
def spec_GreedyPlan_l0K {R : Type} (a1 : List (List Int)) (a2 : List Int) (a3 : List Int) (a4 : Int) (a5 : Int) (a6 : Int) (a7 : Int) (a8 : Int) (a10 : Int) (rc : Int → List Int → Option R) (fin : List Int → Option R) (a0 : Int) (a11 : List Int) : Option R :=
  cond (decide (a0 < a6))
  ((spec_GreedyPlan_l1 a0 a1 a2 a3 a4 a5 a6 a7 a8 a10 a11).bind fun y9 =>
    rc (IntKind.i64.wrap (a0 + 1)) y9)
  (fin a11)
def spec_GreedyPlan_l0F (a1 : List (List Int)) (a2 : List Int) (a3 : List Int) (a4 : Int) (a5 : Int) (a6 : Int) (a7 : Int) (a8 : Int) (a10 : Int) (r : (Int × (List Int)) → Option (List Int)) (x : Int × (List Int)) : Option (List Int) := spec_GreedyPlan_l0K a1 a2 a3 a4 a5 a6 a7 a8 a10 (fun a0 a11 => r (a0, a11)) some x.1 x.2
theorem spec_GreedyPlan_l0c (a1 : List (List Int)) (a2 : List Int) (a3 : List Int) (a4 : Int) (a5 : Int) (a6 : Int) (a7 : Int) (a8 : Int) (a10 : Int) (x : Int × (List Int)) : Ct fun r => spec_GreedyPlan_l0F a1 a2 a3 a4 a5 a6 a7 a8 a10 r x := by
  unfold spec_GreedyPlan_l0F spec_GreedyPlan_l0K
  repeat' (first | exact Ct.const | exact Ct.call | refine Ct.cond ?_ ?_ | refine Ct.bind ?_ fun _ => ?_ | refine Ct.sum (fun _ => ?_) fun _ => ?_)
def spec_GreedyPlan_l0 (a1 : List (List Int)) (a2 : List Int) (a3 : List Int) (a4 : Int) (a5 : Int) (a6 : Int) (a7 : Int) (a8 : Int) (a10 : Int) (a0 : Int) (a11 : List Int) : Option (List Int) := lim (spec_GreedyPlan_l0F a1 a2 a3 a4 a5 a6 a7 a8 a10) (a0, a11)
theorem spec_GreedyPlan_l0_eq (a1 : List (List Int)) (a2 : List Int) (a3 : List Int) (a4 : Int) (a5 : Int) (a6 : Int) (a7 : Int) (a8 : Int) (a10 : Int) (a0 : Int) (a11 : List Int) : spec_GreedyPlan_l0 a1 a2 a3 a4 a5 a6 a7 a8 a10 a0 a11 = spec_GreedyPlan_l0K a1 a2 a3 a4 a5 a6 a7 a8 a10 (spec_GreedyPlan_l0 a1 a2 a3 a4 a5 a6 a7 a8 a10) some a0 a11 := lim_eq (spec_GreedyPlan_l0c a1 a2 a3 a4 a5 a6 a7 a8 a10) (a0, a11)
theorem spec_GreedyPlan_l0p {R : Type} (a1 : List (List Int)) (a2 : List Int) (a3 : List Int) (a4 : Int) (a5 : Int) (a6 : Int) (a7 : Int) (a8 : Int) (a10 : Int) {rc : Int → List Int → Option (List Int)} {rc' : Int → List Int → Option R} {fin : List Int → Option R} (hr : ∀ a0 a11, Par fin (rc a0 a11) (rc' a0 a11)) (a0 : Int) (a11 : List Int) : Par fin (spec_GreedyPlan_l0K a1 a2 a3 a4 a5 a6 a7 a8 a10 rc some a0 a11) (spec_GreedyPlan_l0K a1 a2 a3 a4 a5 a6 a7 a8 a10 rc' fin a0 a11) := by
  unfold spec_GreedyPlan_l0K
  repeat' (first | exact .fin | exact .none | exact hr _ _ | refine .cond ?_ ?_ | refine .bind fun _ => ?_ | refine .sum (fun _ => ?_) fun _ => ?_)
def Lspec_GreedyPlan_l0 : Loop := mkL ⟨[1, 2, 4, 5], [.slot 1, .slot 2, .slot 4, .cell 4 1], [], []⟩ sspec_GreedyPlan_l0 xspec_GreedyPlan_l0 (fun (x : (Unit × Unit × Unit × Int × Unit) × (((List (List Int)) × (List Int) × (List Int) × Int × Int × Int × Int × Int × Unit) × (Int × Unit × Unit) × (Int × Unit × Unit) × (List Int) × Unit)) => (x.2.1.1, (x.2.1.2.1, (x.2.1.2.2.1, (x.2.1.2.2.2.1, (x.2.1.2.2.2.2.1, (x.2.1.2.2.2.2.2.1, (x.2.1.2.2.2.2.2.2.1, (x.2.1.2.2.2.2.2.2.2.1, (x.2.2.1.1, x.2.2.2.1.1)))))))))) fun (x : (Unit × Unit × Unit × Int × Unit) × (((List (List Int)) × (List Int) × (List Int) × Int × Int × Int × Int × Int × Unit) × (Int × Unit × Unit) × (Int × Unit × Unit) × (List Int) × Unit)) => spec_GreedyPlan_l0 x.2.1.1 x.2.1.2.1 x.2.1.2.2.1 x.2.1.2.2.2.1 x.2.1.2.2.2.2.1 x.2.1.2.2.2.2.2.1 x.2.1.2.2.2.2.2.2.1 x.2.1.2.2.2.2.2.2.2.1 x.2.2.2.1.1 x.1.2.2.2.1 x.2.2.2.2.1
def spec_GreedyPlanK {R : Type} (fin : (Int × (List Int)) × Bool → Option R) (x0 : DJob) : Option R :=
  (spec_plJob x0).bind fun y1 =>
  cond (!y1)
  (fin ((0, []), false))
  ((spec_wiEmpty x0).bind fun y2 =>
    (spec_GreedyPlan_l0 x0.1 x0.2.1 x0.2.2.1 x0.2.2.2.1.1 x0.2.2.2.1.2.1 x0.2.2.2.2.1 x0.2.2.2.2.2.1 x0.2.2.2.2.2.2.1 y2.1 0 y2.2).bind fun y12 =>
    fin ((y2.1, y12), true))
def spec_GreedyPlan (x0 : DJob) : Option ((Int × (List Int)) × Bool) := spec_GreedyPlanK some x0
theorem p47 {R : Type} (fin : (Int × (List Int)) × Bool → Option R) (x0 : DJob) : Par fin (spec_GreedyPlanK some x0) (spec_GreedyPlanK fin x0) := by
  unfold spec_GreedyPlanK
  repeat' (first | exact .fin | exact .none | refine .cond ?_ ?_ | refine .bind fun _ => ?_ | refine .sum (fun _ => ?_) fun _ => ?_)
def or47 : Ora := { lo := addL 5 (Lspec_GreedyPlan_l0) (addL 7 (Lspec_GreedyPlan_l1) (addL 9 (Lspec_GreedyPlan_l2) lo0)), fin := [.own (.cell 2 1) (.int .i64)] }
theorem spec_GreedyPlan_l2e (a0 : Int) (a2 : List Int) (a3 : Int) (a5 : List (List Int)) (a6 : List Int) (a7 : List Int) (a8 : Int) (a9 : Int) (a10 : Int) (a11 : Int) (a12 : Int) (a13 : Int) (a14 : Int) (a15 : List Int) (k : Nat) (a1 : Int) (a4 : Int) : loopC Try.prog EL47 or47 ((loopsIn (codeOf Try.f47)).getD 2 .skip) (Lspec_GreedyPlan_l2).h (Lspec_GreedyPlan_l2).ho Try.f47.ntmps (k + 1) (sspec_GreedyPlan_l2.out (((), ((), ((), (a0, (a1, (a2, (a3, (a4, ())))))))), ((a5, (a6, (a7, (a8, (a9, (a10, (a11, (a12, ())))))))), ((a13, ((), ())), ((a14, ((), ())), (a15, ())))))) =
    spec_GreedyPlan_l2K a0 a2 a3 a5 a6 a7 a8 a9 a10 a11 a12 a14 a15 (fun a1 a4 => loopC Try.prog EL47 or47 ((loopsIn (codeOf Try.f47)).getD 2 .skip) (Lspec_GreedyPlan_l2).h (Lspec_GreedyPlan_l2).ho Try.f47.ntmps k (sspec_GreedyPlan_l2.out (((), ((), ((), (a0, (a1, (a2, (a3, (a4, ())))))))), ((a5, (a6, (a7, (a8, (a9, (a10, (a11, (a12, ())))))))), ((a13, ((), ())), ((a14, ((), ())), (a15, ()))))))) (fun y => some (XS.out xspec_GreedyPlan_l2 (a0, (a2, (a3, (a5, (a6, (a7, (a8, (a9, (a10, (a11, (a12, (a13, (a14, a15))))))))))))) y)) a1 a4 := by kernel_rfl
theorem spec_GreedyPlan_l2o : LoopOk Try.prog EL47 or47 Try.f47.ntmps ((loopsIn (codeOf Try.f47)).getD 2 .skip) (Lspec_GreedyPlan_l2) :=
  loop_lim (hs := sspec_GreedyPlan_l2) (xs := xspec_GreedyPlan_l2) (ι := fun (x : (Unit × Unit × Unit × Int × Int × (List Int) × Int × Int × Unit) × (((List (List Int)) × (List Int) × (List Int) × Int × Int × Int × Int × Int × Unit) × (Int × Unit × Unit) × (Int × Unit × Unit) × (List Int) × Unit)) => (x.1.2.2.2.1, (x.1.2.2.2.2.2.1, (x.1.2.2.2.2.2.2.1, (x.2.1.1, (x.2.1.2.1, (x.2.1.2.2.1, (x.2.1.2.2.2.1, (x.2.1.2.2.2.2.1, (x.2.1.2.2.2.2.2.1, (x.2.1.2.2.2.2.2.2.1, (x.2.1.2.2.2.2.2.2.2.1, (x.2.2.1.1, (x.2.2.2.1.1, x.2.2.2.2.1)))))))))))))) (φ := fun (x : (Unit × Unit × Unit × Int × Int × (List Int) × Int × Int × Unit) × (((List (List Int)) × (List Int) × (List Int) × Int × Int × Int × Int × Int × Unit) × (Int × Unit × Unit) × (Int × Unit × Unit) × (List Int) × Unit)) => (x.1.2.2.2.2.1, x.1.2.2.2.2.2.2.2.1)) (ψ := fun (i : Int × (List Int) × Int × (List (List Int)) × (List Int) × (List Int) × Int × Int × Int × Int × Int × Int × Int × (List Int)) (v : Int × Int) => (((), ((), ((), (i.1, (v.1, (i.2.1, (i.2.2.1, (v.2, ())))))))), ((i.2.2.2.1, (i.2.2.2.2.1, (i.2.2.2.2.2.1, (i.2.2.2.2.2.2.1, (i.2.2.2.2.2.2.2.1, (i.2.2.2.2.2.2.2.2.1, (i.2.2.2.2.2.2.2.2.2.1, (i.2.2.2.2.2.2.2.2.2.2.1, ())))))))), ((i.2.2.2.2.2.2.2.2.2.2.2.1, ((), ())), ((i.2.2.2.2.2.2.2.2.2.2.2.2.1, ((), ())), (i.2.2.2.2.2.2.2.2.2.2.2.2.2, ())))))) (F := fun (i : Int × (List Int) × Int × (List (List Int)) × (List Int) × (List Int) × Int × Int × Int × Int × Int × Int × Int × (List Int)) => spec_GreedyPlan_l2F i.1 i.2.1 i.2.2.1 i.2.2.2.1 i.2.2.2.2.1 i.2.2.2.2.2.1 i.2.2.2.2.2.2.1 i.2.2.2.2.2.2.2.1 i.2.2.2.2.2.2.2.2.1 i.2.2.2.2.2.2.2.2.2.1 i.2.2.2.2.2.2.2.2.2.2.1 i.2.2.2.2.2.2.2.2.2.2.2.2.1 i.2.2.2.2.2.2.2.2.2.2.2.2.2) (fun _ => rfl) fun i k hk v => Par.of_eq (spec_GreedyPlan_l2e i.1 i.2.1 i.2.2.1 i.2.2.2.1 i.2.2.2.2.1 i.2.2.2.2.2.1 i.2.2.2.2.2.2.1 i.2.2.2.2.2.2.2.1 i.2.2.2.2.2.2.2.2.1 i.2.2.2.2.2.2.2.2.2.1 i.2.2.2.2.2.2.2.2.2.2.1 i.2.2.2.2.2.2.2.2.2.2.2.1 i.2.2.2.2.2.2.2.2.2.2.2.2.1 i.2.2.2.2.2.2.2.2.2.2.2.2.2 k v.1 v.2) (spec_GreedyPlan_l2p i.1 i.2.1 i.2.2.1 i.2.2.2.1 i.2.2.2.2.1 i.2.2.2.2.2.1 i.2.2.2.2.2.2.1 i.2.2.2.2.2.2.2.1 i.2.2.2.2.2.2.2.2.1 i.2.2.2.2.2.2.2.2.2.1 i.2.2.2.2.2.2.2.2.2.2.1 i.2.2.2.2.2.2.2.2.2.2.2.2.1 i.2.2.2.2.2.2.2.2.2.2.2.2.2 (fun a1 a4 => hk (a1, a4)) v.1 v.2)
theorem spec_GreedyPlan_l1e (a0 : Int) (a1 : List (List Int)) (a2 : List Int) (a3 : List Int) (a4 : Int) (a5 : Int) (a6 : Int) (a7 : Int) (a8 : Int) (a9 : Int) (a10 : Int) (k : Nat) (a11 : List Int) : loopC Try.prog EL47 or47 ((loopsIn (codeOf Try.f47)).getD 1 .skip) (Lspec_GreedyPlan_l1).h (Lspec_GreedyPlan_l1).ho Try.f47.ntmps (k + 1) (sspec_GreedyPlan_l1.out (((), ((), ((), (a0, ())))), ((a1, (a2, (a3, (a4, (a5, (a6, (a7, (a8, ())))))))), ((a9, ((), ())), ((a10, ((), ())), (a11, ())))))) =
    spec_GreedyPlan_l1K a0 a1 a2 a3 a4 a5 a6 a7 a8 a10 (fun a11 => loopC Try.prog EL47 or47 ((loopsIn (codeOf Try.f47)).getD 1 .skip) (Lspec_GreedyPlan_l1).h (Lspec_GreedyPlan_l1).ho Try.f47.ntmps k (sspec_GreedyPlan_l1.out (((), ((), ((), (a0, ())))), ((a1, (a2, (a3, (a4, (a5, (a6, (a7, (a8, ())))))))), ((a9, ((), ())), ((a10, ((), ())), (a11, ()))))))) (fun y => some (XS.out xspec_GreedyPlan_l1 (a0, (a1, (a2, (a3, (a4, (a5, (a6, (a7, (a8, (a9, a10)))))))))) y)) a11 := by kernel_rfl
theorem spec_GreedyPlan_l1o : LoopOk Try.prog EL47 or47 Try.f47.ntmps ((loopsIn (codeOf Try.f47)).getD 1 .skip) (Lspec_GreedyPlan_l1) :=
  loop_lim (hs := sspec_GreedyPlan_l1) (xs := xspec_GreedyPlan_l1) (ι := fun (x : (Unit × Unit × Unit × Int × Unit) × (((List (List Int)) × (List Int) × (List Int) × Int × Int × Int × Int × Int × Unit) × (Int × Unit × Unit) × (Int × Unit × Unit) × (List Int) × Unit)) => (x.1.2.2.2.1, (x.2.1.1, (x.2.1.2.1, (x.2.1.2.2.1, (x.2.1.2.2.2.1, (x.2.1.2.2.2.2.1, (x.2.1.2.2.2.2.2.1, (x.2.1.2.2.2.2.2.2.1, (x.2.1.2.2.2.2.2.2.2.1, (x.2.2.1.1, x.2.2.2.1.1))))))))))) (φ := fun (x : (Unit × Unit × Unit × Int × Unit) × (((List (List Int)) × (List Int) × (List Int) × Int × Int × Int × Int × Int × Unit) × (Int × Unit × Unit) × (Int × Unit × Unit) × (List Int) × Unit)) => x.2.2.2.2.1) (ψ := fun (i : Int × (List (List Int)) × (List Int) × (List Int) × Int × Int × Int × Int × Int × Int × Int) (v : List Int) => (((), ((), ((), (i.1, ())))), ((i.2.1, (i.2.2.1, (i.2.2.2.1, (i.2.2.2.2.1, (i.2.2.2.2.2.1, (i.2.2.2.2.2.2.1, (i.2.2.2.2.2.2.2.1, (i.2.2.2.2.2.2.2.2.1, ())))))))), ((i.2.2.2.2.2.2.2.2.2.1, ((), ())), ((i.2.2.2.2.2.2.2.2.2.2, ((), ())), (v, ())))))) (F := fun (i : Int × (List (List Int)) × (List Int) × (List Int) × Int × Int × Int × Int × Int × Int × Int) => spec_GreedyPlan_l1F i.1 i.2.1 i.2.2.1 i.2.2.2.1 i.2.2.2.2.1 i.2.2.2.2.2.1 i.2.2.2.2.2.2.1 i.2.2.2.2.2.2.2.1 i.2.2.2.2.2.2.2.2.1 i.2.2.2.2.2.2.2.2.2.2) (fun _ => rfl) fun i k hk v => Par.of_eq (spec_GreedyPlan_l1e i.1 i.2.1 i.2.2.1 i.2.2.2.1 i.2.2.2.2.1 i.2.2.2.2.2.1 i.2.2.2.2.2.2.1 i.2.2.2.2.2.2.2.1 i.2.2.2.2.2.2.2.2.1 i.2.2.2.2.2.2.2.2.2.1 i.2.2.2.2.2.2.2.2.2.2 k v) (spec_GreedyPlan_l1p i.1 i.2.1 i.2.2.1 i.2.2.2.1 i.2.2.2.2.1 i.2.2.2.2.2.1 i.2.2.2.2.2.2.1 i.2.2.2.2.2.2.2.1 i.2.2.2.2.2.2.2.2.1 i.2.2.2.2.2.2.2.2.2.2 (fun a11 => hk a11) v)
theorem spec_GreedyPlan_l0e (a1 : List (List Int)) (a2 : List Int) (a3 : List Int) (a4 : Int) (a5 : Int) (a6 : Int) (a7 : Int) (a8 : Int) (a9 : Int) (a10 : Int) (k : Nat) (a0 : Int) (a11 : List Int) : loopC Try.prog EL47 or47 ((loopsIn (codeOf Try.f47)).getD 0 .skip) (Lspec_GreedyPlan_l0).h (Lspec_GreedyPlan_l0).ho Try.f47.ntmps (k + 1) (sspec_GreedyPlan_l0.out (((), ((), ((), (a0, ())))), ((a1, (a2, (a3, (a4, (a5, (a6, (a7, (a8, ())))))))), ((a9, ((), ())), ((a10, ((), ())), (a11, ())))))) =
    spec_GreedyPlan_l0K a1 a2 a3 a4 a5 a6 a7 a8 a10 (fun a0 a11 => loopC Try.prog EL47 or47 ((loopsIn (codeOf Try.f47)).getD 0 .skip) (Lspec_GreedyPlan_l0).h (Lspec_GreedyPlan_l0).ho Try.f47.ntmps k (sspec_GreedyPlan_l0.out (((), ((), ((), (a0, ())))), ((a1, (a2, (a3, (a4, (a5, (a6, (a7, (a8, ())))))))), ((a9, ((), ())), ((a10, ((), ())), (a11, ()))))))) (fun y => some (XS.out xspec_GreedyPlan_l0 (a1, (a2, (a3, (a4, (a5, (a6, (a7, (a8, (a9, a10))))))))) y)) a0 a11 := by kernel_rfl
theorem spec_GreedyPlan_l0o : LoopOk Try.prog EL47 or47 Try.f47.ntmps ((loopsIn (codeOf Try.f47)).getD 0 .skip) (Lspec_GreedyPlan_l0) :=
  loop_lim (hs := sspec_GreedyPlan_l0) (xs := xspec_GreedyPlan_l0) (ι := fun (x : (Unit × Unit × Unit × Int × Unit) × (((List (List Int)) × (List Int) × (List Int) × Int × Int × Int × Int × Int × Unit) × (Int × Unit × Unit) × (Int × Unit × Unit) × (List Int) × Unit)) => (x.2.1.1, (x.2.1.2.1, (x.2.1.2.2.1, (x.2.1.2.2.2.1, (x.2.1.2.2.2.2.1, (x.2.1.2.2.2.2.2.1, (x.2.1.2.2.2.2.2.2.1, (x.2.1.2.2.2.2.2.2.2.1, (x.2.2.1.1, x.2.2.2.1.1)))))))))) (φ := fun (x : (Unit × Unit × Unit × Int × Unit) × (((List (List Int)) × (List Int) × (List Int) × Int × Int × Int × Int × Int × Unit) × (Int × Unit × Unit) × (Int × Unit × Unit) × (List Int) × Unit)) => (x.1.2.2.2.1, x.2.2.2.2.1)) (ψ := fun (i : (List (List Int)) × (List Int) × (List Int) × Int × Int × Int × Int × Int × Int × Int) (v : Int × (List Int)) => (((), ((), ((), (v.1, ())))), ((i.1, (i.2.1, (i.2.2.1, (i.2.2.2.1, (i.2.2.2.2.1, (i.2.2.2.2.2.1, (i.2.2.2.2.2.2.1, (i.2.2.2.2.2.2.2.1, ())))))))), ((i.2.2.2.2.2.2.2.2.1, ((), ())), ((i.2.2.2.2.2.2.2.2.2, ((), ())), (v.2, ())))))) (F := fun (i : (List (List Int)) × (List Int) × (List Int) × Int × Int × Int × Int × Int × Int × Int) => spec_GreedyPlan_l0F i.1 i.2.1 i.2.2.1 i.2.2.2.1 i.2.2.2.2.1 i.2.2.2.2.2.1 i.2.2.2.2.2.2.1 i.2.2.2.2.2.2.2.1 i.2.2.2.2.2.2.2.2.2) (fun _ => rfl) fun i k hk v => Par.of_eq (spec_GreedyPlan_l0e i.1 i.2.1 i.2.2.1 i.2.2.2.1 i.2.2.2.2.1 i.2.2.2.2.2.1 i.2.2.2.2.2.2.1 i.2.2.2.2.2.2.2.1 i.2.2.2.2.2.2.2.2.1 i.2.2.2.2.2.2.2.2.2 k v.1 v.2) (spec_GreedyPlan_l0p i.1 i.2.1 i.2.2.1 i.2.2.2.1 i.2.2.2.2.1 i.2.2.2.2.2.1 i.2.2.2.2.2.2.1 i.2.2.2.2.2.2.2.1 i.2.2.2.2.2.2.2.2.2 (fun a0 a11 => hk (a0, a11)) v.1 v.2)
def c47 : Callee := mkC [.agg [.ro TJob]] 2 [.agg [.ro (.int .i64), .sl (.int .i64)], .one (.ro .bool)] fun x => spec_GreedyPlan x
theorem e47 (x : PK.dens [.agg [.ro TJob]]) : evalFn Try.prog EL47 or47 Try.f47 (PK.outs [.agg [.ro TJob]] x) =
    spec_GreedyPlanK (fun y => some (tupOf ((PK.outs [.agg [.ro (.int .i64), .sl (.int .i64)], .one (.ro .bool)] y).take 2), (PK.outs [.agg [.ro (.int .i64), .sl (.int .i64)], .one (.ro .bool)] y).drop 2)) x := by kernel_rfl
theorem o47 : LoOk Try.prog EL47 or47 Try.f47.ntmps (loopsIn (codeOf Try.f47)) :=
  LoOk.mk (m := 3) (by kernel_rfl) fun i hi => match i, hi with
    | 0, _ => ⟨Lspec_GreedyPlan_l0, by kernel_rfl, spec_GreedyPlan_l0o⟩
    | 1, _ => ⟨Lspec_GreedyPlan_l1, by kernel_rfl, spec_GreedyPlan_l1o⟩
    | 2, _ => ⟨Lspec_GreedyPlan_l2, by kernel_rfl, spec_GreedyPlan_l2o⟩
    | i + 3, hi => absurd hi (by omega)
theorem k47 : CalleeOk Try.prog 47 c47 := callee_mk Try.func47 (code := codeOf Try.f47) (by kernel_rfl) vL47 mixed o47 fun x y h => (e47 x).trans (p47 _ x y h)

/-- impl.GreedyPlan -/
def EL48 : Nat → Option Callee := addE 97 c97 (addE 96 c96 (addE 70 c70 env0))
theorem vL48 : EnvOk Try.prog EL48 := ((EnvOk.nil.add Try.func70 rfl (by kernel_rfl) k70).add Try.func96 rfl (by kernel_rfl) k96).add Try.func97 rfl (by kernel_rfl) k97
def simpl_GreedyPlan_l2 : LS := ⟨[(1, .one (.fix (.ptr 0 0))), (2, .one (.fix (.ptr 1 0))), (4, .one (.fix (.ptr 2 0))), (5, .one (.dat (.int .i64))), (6, .one (.dat (.int .i64))), (22, .one (.fix (.sref 3))), (23, .one (.dat (.int .i64))), (24, .one (.dat (.int .i64)))], [.box [.dat (.slice (.slice (.int .i64))), .dat (.slice (.int .i64)), .dat (.slice (.int .i64)), .dat (.int .i64), .dat (.int .i64), .dat (.int .i64), .dat (.int .i64), .dat (.int .i64)], .box [.dat (.int .i64), .fix .nils], .box [.dat (.int .i64), .fix (.sref 3)], .sl (.int .i64)], []⟩
def simpl_GreedyPlan_l2x0 : LS := ⟨[(1, .one (.fix (.ptr 0 0))), (2, .one (.fix (.ptr 1 0))), (4, .one (.fix (.ptr 2 0))), (5, .one (.dat (.int .i64))), (6, .one (.dat (.int .i64)))], [.box [.dat (.slice (.slice (.int .i64))), .dat (.slice (.int .i64)), .dat (.slice (.int .i64)), .dat (.int .i64), .dat (.int .i64), .dat (.int .i64), .dat (.int .i64), .dat (.int .i64)], .box [.dat (.int .i64), .fix .nils], .box [.dat (.int .i64), .fix (.sref 3)], .sl (.int .i64)], []⟩
def ximpl_GreedyPlan_l2 : List (XS (Int × Int × (List (List Int)) × (List Int) × (List Int) × Int × Int × Int × Int × Int × Int × Int × (List Int))) := [⟨.exit 4, ⟨[1, 2, 4, 5, 6], [.slot 1, .slot 2, .slot 4, .cell 4 1], [], []⟩, simpl_GreedyPlan_l2x0, Int, fun i y => (((), ((), ((), (i.1, (y, ()))))), ((i.2.2.1, (i.2.2.2.1, (i.2.2.2.2.1, (i.2.2.2.2.2.1, (i.2.2.2.2.2.2.1, (i.2.2.2.2.2.2.2.1, (i.2.2.2.2.2.2.2.2.1, (i.2.2.2.2.2.2.2.2.2.1, ())))))))), ((i.2.2.2.2.2.2.2.2.2.2.1, ((), ())), ((i.2.2.2.2.2.2.2.2.2.2.2.1, ((), ())), (i.2.2.2.2.2.2.2.2.2.2.2.2, ())))))⟩]
def impl_GreedyPlan_l2K {R : Type} (a0 : Int) (a2 : Int) (a4 : List (List Int)) (a5 : List Int) (a6 : List Int) (a7 : Int) (a8 : Int) (a9 : Int) (a10 : Int) (a11 : Int) (a13 : Int) (a14 : List Int) (rc : Int → Int → Option R) (fin : Int → Option R) (a1 : Int) (a3 : Int) : Option R :=
  cond (decide (a3 < a2))
  (cond (decide ((0 : Int) ≤ a3) && decide (a3 < (a14.length : Int)))
    (cond (decide ((a14.getD (0 + a3.toNat) 0) < 0))
      (cond (decide (a1 < 0))
        ((impl_fitsIn (a4, (a5, (a6, ((a7, (a8, ())), (a9, (a10, (a11, ()))))))) (a13, (a14, ())) [a3] a0).bind fun y1 =>
          cond (y1)
          (rc a3 (IntKind.i64.wrap (a3 + 1)))
          (rc a1 (IntKind.i64.wrap (a3 + 1))))
        ((lat a6 a3).bind fun e2 =>
          (lat a6 a1).bind fun e3 =>
          cond (decide (e2 > e3))
          ((impl_fitsIn (a4, (a5, (a6, ((a7, (a8, ())), (a9, (a10, (a11, ()))))))) (a13, (a14, ())) [a3] a0).bind fun y4 =>
            cond (y4)
            (rc a3 (IntKind.i64.wrap (a3 + 1)))
            (rc a1 (IntKind.i64.wrap (a3 + 1))))
          (rc a1 (IntKind.i64.wrap (a3 + 1)))))
      (rc a1 (IntKind.i64.wrap (a3 + 1))))
    (none))
  (fin a1)
def impl_GreedyPlan_l2F (a0 : Int) (a2 : Int) (a4 : List (List Int)) (a5 : List Int) (a6 : List Int) (a7 : Int) (a8 : Int) (a9 : Int) (a10 : Int) (a11 : Int) (a13 : Int) (a14 : List Int) (r : (Int × Int) → Option (Int)) (x : Int × Int) : Option (Int) := impl_GreedyPlan_l2K a0 a2 a4 a5 a6 a7 a8 a9 a10 a11 a13 a14 (fun a1 a3 => r (a1, a3)) some x.1 x.2
theorem impl_GreedyPlan_l2c (a0 : Int) (a2 : Int) (a4 : List (List Int)) (a5 : List Int) (a6 : List Int) (a7 : Int) (a8 : Int) (a9 : Int) (a10 : Int) (a11 : Int) (a13 : Int) (a14 : List Int) (x : Int × Int) : Ct fun r => impl_GreedyPlan_l2F a0 a2 a4 a5 a6 a7 a8 a9 a10 a11 a13 a14 r x := by
  unfold impl_GreedyPlan_l2F impl_GreedyPlan_l2K
  repeat' (first | exact Ct.const | exact Ct.call | refine Ct.cond ?_ ?_ | refine Ct.bind ?_ fun _ => ?_ | refine Ct.sum (fun _ => ?_) fun _ => ?_)
def impl_GreedyPlan_l2 (a0 : Int) (a2 : Int) (a4 : List (List Int)) (a5 : List Int) (a6 : List Int) (a7 : Int) (a8 : Int) (a9 : Int) (a10 : Int) (a11 : Int) (a13 : Int) (a14 : List Int) (a1 : Int) (a3 : Int) : Option (Int) := lim (impl_GreedyPlan_l2F a0 a2 a4 a5 a6 a7 a8 a9 a10 a11 a13 a14) (a1, a3)
theorem impl_GreedyPlan_l2_eq (a0 : Int) (a2 : Int) (a4 : List (List Int)) (a5 : List Int) (a6 : List Int) (a7 : Int) (a8 : Int) (a9 : Int) (a10 : Int) (a11 : Int) (a13 : Int) (a14 : List Int) (a1 : Int) (a3 : Int) : impl_GreedyPlan_l2 a0 a2 a4 a5 a6 a7 a8 a9 a10 a11 a13 a14 a1 a3 = impl_GreedyPlan_l2K a0 a2 a4 a5 a6 a7 a8 a9 a10 a11 a13 a14 (impl_GreedyPlan_l2 a0 a2 a4 a5 a6 a7 a8 a9 a10 a11 a13 a14) some a1 a3 := lim_eq (impl_GreedyPlan_l2c a0 a2 a4 a5 a6 a7 a8 a9 a10 a11 a13 a14) (a1, a3)
theorem impl_GreedyPlan_l2p {R : Type} (a0 : Int) (a2 : Int) (a4 : List (List Int)) (a5 : List Int) (a6 : List Int) (a7 : Int) (a8 : Int) (a9 : Int) (a10 : Int) (a11 : Int) (a13 : Int) (a14 : List Int) {rc : Int → Int → Option (Int)} {rc' : Int → Int → Option R} {fin : Int → Option R} (hr : ∀ a1 a3, Par fin (rc a1 a3) (rc' a1 a3)) (a1 : Int) (a3 : Int) : Par fin (impl_GreedyPlan_l2K a0 a2 a4 a5 a6 a7 a8 a9 a10 a11 a13 a14 rc some a1 a3) (impl_GreedyPlan_l2K a0 a2 a4 a5 a6 a7 a8 a9 a10 a11 a13 a14 rc' fin a1 a3) := by
  unfold impl_GreedyPlan_l2K
  repeat' (first | exact .fin | exact .none | exact hr _ _ | refine .cond ?_ ?_ | refine .bind fun _ => ?_ | refine .sum (fun _ => ?_) fun _ => ?_)
def Limpl_GreedyPlan_l2 : Loop := mkL ⟨[1, 2, 4, 5, 6, 22, 23, 24], [.slot 1, .slot 2, .slot 4, .cell 4 1], [], []⟩ simpl_GreedyPlan_l2 ximpl_GreedyPlan_l2 (fun (x : (Unit × Unit × Unit × Int × Int × Unit × Int × Int × Unit) × (((List (List Int)) × (List Int) × (List Int) × Int × Int × Int × Int × Int × Unit) × (Int × Unit × Unit) × (Int × Unit × Unit) × (List Int) × Unit)) => (x.1.2.2.2.1, (x.1.2.2.2.2.2.2.1, (x.2.1.1, (x.2.1.2.1, (x.2.1.2.2.1, (x.2.1.2.2.2.1, (x.2.1.2.2.2.2.1, (x.2.1.2.2.2.2.2.1, (x.2.1.2.2.2.2.2.2.1, (x.2.1.2.2.2.2.2.2.2.1, (x.2.2.1.1, (x.2.2.2.1.1, x.2.2.2.2.1))))))))))))) fun (x : (Unit × Unit × Unit × Int × Int × Unit × Int × Int × Unit) × (((List (List Int)) × (List Int) × (List Int) × Int × Int × Int × Int × Int × Unit) × (Int × Unit × Unit) × (Int × Unit × Unit) × (List Int) × Unit)) => impl_GreedyPlan_l2 x.1.2.2.2.1 x.1.2.2.2.2.2.2.1 x.2.1.1 x.2.1.2.1 x.2.1.2.2.1 x.2.1.2.2.2.1 x.2.1.2.2.2.2.1 x.2.1.2.2.2.2.2.1 x.2.1.2.2.2.2.2.2.1 x.2.1.2.2.2.2.2.2.2.1 x.2.2.2.1.1 x.2.2.2.2.1 x.1.2.2.2.2.1 x.1.2.2.2.2.2.2.2.1
def simpl_GreedyPlan_l1 : LS := ⟨[(1, .one (.fix (.ptr 0 0))), (2, .one (.fix (.ptr 1 0))), (4, .one (.fix (.ptr 2 0))), (5, .one (.dat (.int .i64)))], [.box [.dat (.slice (.slice (.int .i64))), .dat (.slice (.int .i64)), .dat (.slice (.int .i64)), .dat (.int .i64), .dat (.int .i64), .dat (.int .i64), .dat (.int .i64), .dat (.int .i64)], .box [.dat (.int .i64), .fix .nils], .box [.dat (.int .i64), .fix (.sref 3)], .sl (.int .i64)], []⟩
def simpl_GreedyPlan_l1x0 : LS := ⟨[(1, .one (.fix (.ptr 0 0))), (2, .one (.fix (.ptr 1 0))), (4, .one (.fix (.ptr 2 0))), (5, .one (.dat (.int .i64)))], [.box [.dat (.slice (.slice (.int .i64))), .dat (.slice (.int .i64)), .dat (.slice (.int .i64)), .dat (.int .i64), .dat (.int .i64), .dat (.int .i64), .dat (.int .i64), .dat (.int .i64)], .box [.dat (.int .i64), .fix .nils], .box [.dat (.int .i64), .fix (.sref 3)], .sl (.int .i64)], []⟩
def ximpl_GreedyPlan_l1 : List (XS (Int × (List (List Int)) × (List Int) × (List Int) × Int × Int × Int × Int × Int × Int × Int)) := [⟨.exit 2, ⟨[1, 2, 4, 5], [.slot 1, .slot 2, .slot 4, .cell 4 1], [], []⟩, simpl_GreedyPlan_l1x0, List Int, fun i y => (((), ((), ((), (i.1, ())))), ((i.2.1, (i.2.2.1, (i.2.2.2.1, (i.2.2.2.2.1, (i.2.2.2.2.2.1, (i.2.2.2.2.2.2.1, (i.2.2.2.2.2.2.2.1, (i.2.2.2.2.2.2.2.2.1, ())))))))), ((i.2.2.2.2.2.2.2.2.2.1, ((), ())), ((i.2.2.2.2.2.2.2.2.2.2, ((), ())), (y, ())))))⟩]
def impl_GreedyPlan_l1K {R : Type} (a0 : Int) (a1 : List (List Int)) (a2 : List Int) (a3 : List Int) (a4 : Int) (a5 : Int) (a6 : Int) (a7 : Int) (a8 : Int) (a10 : Int) (rc : List Int → Option R) (fin : List Int → Option R) (a11 : List Int) : Option R :=
  (impl_GreedyPlan_l2 a0 (a11.length : Int) a1 a2 a3 a4 a5 a6 a7 a8 a10 a11 (-1) 0).bind fun y5 =>
  cond (decide (y5 < 0))
  (fin a11)
  (cond (decide ((0 : Int) ≤ y5) && decide (y5 < (a11.length : Int)))
    ((some (a11.set (0 + y5.toNat) a0)).bind fun v6 =>
      rc v6)
    (none))
def impl_GreedyPlan_l1F (a0 : Int) (a1 : List (List Int)) (a2 : List Int) (a3 : List Int) (a4 : Int) (a5 : Int) (a6 : Int) (a7 : Int) (a8 : Int) (a10 : Int) (r : List Int → Option (List Int)) (x : List Int) : Option (List Int) := impl_GreedyPlan_l1K a0 a1 a2 a3 a4 a5 a6 a7 a8 a10 (fun a11 => r a11) some x
theorem impl_GreedyPlan_l1c (a0 : Int) (a1 : List (List Int)) (a2 : List Int) (a3 : List Int) (a4 : Int) (a5 : Int) (a6 : Int) (a7 : Int) (a8 : Int) (a10 : Int) (x : List Int) : Ct fun r => impl_GreedyPlan_l1F a0 a1 a2 a3 a4 a5 a6 a7 a8 a10 r x := by
  unfold impl_GreedyPlan_l1F impl_GreedyPlan_l1K
  repeat' (first | exact Ct.const | exact Ct.call | refine Ct.cond ?_ ?_ | refine Ct.bind ?_ fun _ => ?_ | refine Ct.sum (fun _ => ?_) fun _ => ?_)
def impl_GreedyPlan_l1 (a0 : Int) (a1 : List (List Int)) (a2 : List Int) (a3 : List Int) (a4 : Int) (a5 : Int) (a6 : Int) (a7 : Int) (a8 : Int) (a10 : Int) (a11 : List Int) : Option (List Int) := lim (impl_GreedyPlan_l1F a0 a1 a2 a3 a4 a5 a6 a7 a8 a10) a11
theorem impl_GreedyPlan_l1_eq (a0 : Int) (a1 : List (List Int)) (a2 : List Int) (a3 : List Int) (a4 : Int) (a5 : Int) (a6 : Int) (a7 : Int) (a8 : Int) (a10 : Int) (a11 : List Int) : impl_GreedyPlan_l1 a0 a1 a2 a3 a4 a5 a6 a7 a8 a10 a11 = impl_GreedyPlan_l1K a0 a1 a2 a3 a4 a5 a6 a7 a8 a10 (impl_GreedyPlan_l1 a0 a1 a2 a3 a4 a5 a6 a7 a8 a10) some a11 := lim_eq (impl_GreedyPlan_l1c a0 a1 a2 a3 a4 a5 a6 a7 a8 a10) a11
theorem impl_GreedyPlan_l1p {R : Type} (a0 : Int) (a1 : List (List Int)) (a2 : List Int) (a3 : List Int) (a4 : Int) (a5 : Int) (a6 : Int) (a7 : Int) (a8 : Int) (a10 : Int) {rc : List Int → Option (List Int)} {rc' : List Int → Option R} {fin : List Int → Option R} (hr : ∀ a11, Par fin (rc a11) (rc' a11)) (a11 : List Int) : Par fin (impl_GreedyPlan_l1K a0 a1 a2 a3 a4 a5 a6 a7 a8 a10 rc some a11) (impl_GreedyPlan_l1K a0 a1 a2 a3 a4 a5 a6 a7 a8 a10 rc' fin a11) := by
  unfold impl_GreedyPlan_l1K
  repeat' (first | exact .fin | exact .none | exact hr _ | refine .cond ?_ ?_ | refine .bind fun _ => ?_ | refine .sum (fun _ => ?_) fun _ => ?_)
def Limpl_GreedyPlan_l1 : Loop := mkL ⟨[1, 2, 4, 5], [.slot 1, .slot 2, .slot 4, .cell 4 1], [], []⟩ simpl_GreedyPlan_l1 ximpl_GreedyPlan_l1 (fun (x : (Unit × Unit × Unit × Int × Unit) × (((List (List Int)) × (List Int) × (List Int) × Int × Int × Int × Int × Int × Unit) × (Int × Unit × Unit) × (Int × Unit × Unit) × (List Int) × Unit)) => (x.1.2.2.2.1, (x.2.1.1, (x.2.1.2.1, (x.2.1.2.2.1, (x.2.1.2.2.2.1, (x.2.1.2.2.2.2.1, (x.2.1.2.2.2.2.2.1, (x.2.1.2.2.2.2.2.2.1, (x.2.1.2.2.2.2.2.2.2.1, (x.2.2.1.1, x.2.2.2.1.1))))))))))) fun (x : (Unit × Unit × Unit × Int × Unit) × (((List (List Int)) × (List Int) × (List Int) × Int × Int × Int × Int × Int × Unit) × (Int × Unit × Unit) × (Int × Unit × Unit) × (List Int) × Unit)) => impl_GreedyPlan_l1 x.1.2.2.2.1 x.2.1.1 x.2.1.2.1 x.2.1.2.2.1 x.2.1.2.2.2.1 x.2.1.2.2.2.2.1 x.2.1.2.2.2.2.2.1 x.2.1.2.2.2.2.2.2.1 x.2.1.2.2.2.2.2.2.2.1 x.2.2.2.1.1 x.2.2.2.2.1
def simpl_GreedyPlan_l0 : LS := ⟨[(1, .one (.fix (.ptr 0 0))), (2, .one (.fix (.ptr 1 0))), (4, .one (.fix (.ptr 2 0))), (5, .one (.dat (.int .i64)))], [.box [.dat (.slice (.slice (.int .i64))), .dat (.slice (.int .i64)), .dat (.slice (.int .i64)), .dat (.int .i64), .dat (.int .i64), .dat (.int .i64), .dat (.int .i64), .dat (.int .i64)], .box [.dat (.int .i64), .fix .nils], .box [.dat (.int .i64), .fix (.sref 3)], .sl (.int .i64)], []⟩
def simpl_GreedyPlan_l0x0 : LS := ⟨[(2, .one (.fix (.ptr 0 0))), (4, .one (.fix (.ptr 1 0)))], [.box [.dat (.int .i64), .fix .nils], .box [.dat (.int .i64), .fix (.sref 2)], .sl (.int .i64)], []⟩
def ximpl_GreedyPlan_l0 : List (XS ((List (List Int)) × (List Int) × (List Int) × Int × Int × Int × Int × Int × Int × Int)) := [⟨.exit 0, ⟨[2, 4], [.slot 2, .slot 4, .cell 4 1], [], []⟩, simpl_GreedyPlan_l0x0, List Int, fun i y => (((), ((), ())), ((i.2.2.2.2.2.2.2.2.1, ((), ())), ((i.2.2.2.2.2.2.2.2.2, ((), ())), (y, ()))))⟩]
def impl_GreedyPlan_l0K {R : Type} (a1 : List (List Int)) (a2 : List Int) (a3 : List Int) (a4 : Int) (a5 : Int) (a6 : Int) (a7 : Int) (a8 : Int) (a10 : Int) (rc : Int → List Int → Option R) (fin : List Int → Option R) (a0 : Int) (a11 : List Int) : Option R :=
  cond (decide (a0 < a6))
  ((impl_GreedyPlan_l1 a0 a1 a2 a3 a4 a5 a6 a7 a8 a10 a11).bind fun y7 =>
    rc (IntKind.i64.wrap (a0 + 1)) y7)
  (fin a11)
def impl_GreedyPlan_l0F (a1 : List (List Int)) (a2 : List Int) (a3 : List Int) (a4 : Int) (a5 : Int) (a6 : Int) (a7 : Int) (a8 : Int) (a10 : Int) (r : (Int × (List Int)) → Option (List Int)) (x : Int × (List Int)) : Option (List Int) := impl_GreedyPlan_l0K a1 a2 a3 a4 a5 a6 a7 a8 a10 (fun a0 a11 => r (a0, a11)) some x.1 x.2
theorem impl_GreedyPlan_l0c (a1 : List (List Int)) (a2 : List Int) (a3 : List Int) (a4 : Int) (a5 : Int) (a6 : Int) (a7 : Int) (a8 : Int) (a10 : Int) (x : Int × (List Int)) : Ct fun r => impl_GreedyPlan_l0F a1 a2 a3 a4 a5 a6 a7 a8 a10 r x := by
  unfold impl_GreedyPlan_l0F impl_GreedyPlan_l0K
  repeat' (first | exact Ct.const | exact Ct.call | refine Ct.cond ?_ ?_ | refine Ct.bind ?_ fun _ => ?_ | refine Ct.sum (fun _ => ?_) fun _ => ?_)
def impl_GreedyPlan_l0 (a1 : List (List Int)) (a2 : List Int) (a3 : List Int) (a4 : Int) (a5 : Int) (a6 : Int) (a7 : Int) (a8 : Int) (a10 : Int) (a0 : Int) (a11 : List Int) : Option (List Int) := lim (impl_GreedyPlan_l0F a1 a2 a3 a4 a5 a6 a7 a8 a10) (a0, a11)
theorem impl_GreedyPlan_l0_eq (a1 : List (List Int)) (a2 : List Int) (a3 : List Int) (a4 : Int) (a5 : Int) (a6 : Int) (a7 : Int) (a8 : Int) (a10 : Int) (a0 : Int) (a11 : List Int) : impl_GreedyPlan_l0 a1 a2 a3 a4 a5 a6 a7 a8 a10 a0 a11 = impl_GreedyPlan_l0K a1 a2 a3 a4 a5 a6 a7 a8 a10 (impl_GreedyPlan_l0 a1 a2 a3 a4 a5 a6 a7 a8 a10) some a0 a11 := lim_eq (impl_GreedyPlan_l0c a1 a2 a3 a4 a5 a6 a7 a8 a10) (a0, a11)
theorem impl_GreedyPlan_l0p {R : Type} (a1 : List (List Int)) (a2 : List Int) (a3 : List Int) (a4 : Int) (a5 : Int) (a6 : Int) (a7 : Int) (a8 : Int) (a10 : Int) {rc : Int → List Int → Option (List Int)} {rc' : Int → List Int → Option R} {fin : List Int → Option R} (hr : ∀ a0 a11, Par fin (rc a0 a11) (rc' a0 a11)) (a0 : Int) (a11 : List Int) : Par fin (impl_GreedyPlan_l0K a1 a2 a3 a4 a5 a6 a7 a8 a10 rc some a0 a11) (impl_GreedyPlan_l0K a1 a2 a3 a4 a5 a6 a7 a8 a10 rc' fin a0 a11) := by
  unfold impl_GreedyPlan_l0K
  repeat' (first | exact .fin | exact .none | exact hr _ _ | refine .cond ?_ ?_ | refine .bind fun _ => ?_ | refine .sum (fun _ => ?_) fun _ => ?_)
def Limpl_GreedyPlan_l0 : Loop := mkL ⟨[1, 2, 4, 5], [.slot 1, .slot 2, .slot 4, .cell 4 1], [], []⟩ simpl_GreedyPlan_l0 ximpl_GreedyPlan_l0 (fun (x : (Unit × Unit × Unit × Int × Unit) × (((List (List Int)) × (List Int) × (List Int) × Int × Int × Int × Int × Int × Unit) × (Int × Unit × Unit) × (Int × Unit × Unit) × (List Int) × Unit)) => (x.2.1.1, (x.2.1.2.1, (x.2.1.2.2.1, (x.2.1.2.2.2.1, (x.2.1.2.2.2.2.1, (x.2.1.2.2.2.2.2.1, (x.2.1.2.2.2.2.2.2.1, (x.2.1.2.2.2.2.2.2.2.1, (x.2.2.1.1, x.2.2.2.1.1)))))))))) fun (x : (Unit × Unit × Unit × Int × Unit) × (((List (List Int)) × (List Int) × (List Int) × Int × Int × Int × Int × Int × Unit) × (Int × Unit × Unit) × (Int × Unit × Unit) × (List Int) × Unit)) => impl_GreedyPlan_l0 x.2.1.1 x.2.1.2.1 x.2.1.2.2.1 x.2.1.2.2.2.1 x.2.1.2.2.2.2.1 x.2.1.2.2.2.2.2.1 x.2.1.2.2.2.2.2.2.1 x.2.1.2.2.2.2.2.2.2.1 x.2.2.2.1.1 x.1.2.2.2.1 x.2.2.2.2.1
def impl_GreedyPlanK {R : Type} (fin : (Int × (List Int)) × Bool → Option R) (x0 : DJob) : Option R :=
  (impl_IsJob x0).bind fun y1 =>
  cond (!y1)
  (fin ((0, []), false))
  ((impl_emptyPlan x0).bind fun y2 =>
    (impl_GreedyPlan_l0 x0.1 x0.2.1 x0.2.2.1 x0.2.2.2.1.1 x0.2.2.2.1.2.1 x0.2.2.2.2.1 x0.2.2.2.2.2.1 x0.2.2.2.2.2.2.1 y2.1 0 y2.2).bind fun y10 =>
    fin ((y2.1, y10), true))
def impl_GreedyPlan (x0 : DJob) : Option ((Int × (List Int)) × Bool) := impl_GreedyPlanK some x0
theorem p48 {R : Type} (fin : (Int × (List Int)) × Bool → Option R) (x0 : DJob) : Par fin (impl_GreedyPlanK some x0) (impl_GreedyPlanK fin x0) := by
  unfold impl_GreedyPlanK
  repeat' (first | exact .fin | exact .none | refine .cond ?_ ?_ | refine .bind fun _ => ?_ | refine .sum (fun _ => ?_) fun _ => ?_)
def or48 : Ora := { lo := addL 5 (Limpl_GreedyPlan_l0) (addL 7 (Limpl_GreedyPlan_l1) (addL 9 (Limpl_GreedyPlan_l2) lo0)), fin := [.own (.cell 2 1) (.int .i64)] }
theorem impl_GreedyPlan_l2e (a0 : Int) (a2 : Int) (a4 : List (List Int)) (a5 : List Int) (a6 : List Int) (a7 : Int) (a8 : Int) (a9 : Int) (a10 : Int) (a11 : Int) (a12 : Int) (a13 : Int) (a14 : List Int) (k : Nat) (a1 : Int) (a3 : Int) : loopC Try.prog EL48 or48 ((loopsIn (codeOf Try.f48)).getD 2 .skip) (Limpl_GreedyPlan_l2).h (Limpl_GreedyPlan_l2).ho Try.f48.ntmps (k + 1) (simpl_GreedyPlan_l2.out (((), ((), ((), (a0, (a1, ((), (a2, (a3, ())))))))), ((a4, (a5, (a6, (a7, (a8, (a9, (a10, (a11, ())))))))), ((a12, ((), ())), ((a13, ((), ())), (a14, ())))))) =
    impl_GreedyPlan_l2K a0 a2 a4 a5 a6 a7 a8 a9 a10 a11 a13 a14 (fun a1 a3 => loopC Try.prog EL48 or48 ((loopsIn (codeOf Try.f48)).getD 2 .skip) (Limpl_GreedyPlan_l2).h (Limpl_GreedyPlan_l2).ho Try.f48.ntmps k (simpl_GreedyPlan_l2.out (((), ((), ((), (a0, (a1, ((), (a2, (a3, ())))))))), ((a4, (a5, (a6, (a7, (a8, (a9, (a10, (a11, ())))))))), ((a12, ((), ())), ((a13, ((), ())), (a14, ()))))))) (fun y => some (XS.out ximpl_GreedyPlan_l2 (a0, (a2, (a4, (a5, (a6, (a7, (a8, (a9, (a10, (a11, (a12, (a13, a14)))))))))))) y)) a1 a3 := by kernel_rfl
theorem impl_GreedyPlan_l2o : LoopOk Try.prog EL48 or48 Try.f48.ntmps ((loopsIn (codeOf Try.f48)).getD 2 .skip) (Limpl_GreedyPlan_l2) :=
  loop_lim (hs := simpl_GreedyPlan_l2) (xs := ximpl_GreedyPlan_l2) (ι := fun (x : (Unit × Unit × Unit × Int × Int × Unit × Int × Int × Unit) × (((List (List Int)) × (List Int) × (List Int) × Int × Int × Int × Int × Int × Unit) × (Int × Unit × Unit) × (Int × Unit × Unit) × (List Int) × Unit)) => (x.1.2.2.2.1, (x.1.2.2.2.2.2.2.1, (x.2.1.1, (x.2.1.2.1, (x.2.1.2.2.1, (x.2.1.2.2.2.1, (x.2.1.2.2.2.2.1, (x.2.1.2.2.2.2.2.1, (x.2.1.2.2.2.2.2.2.1, (x.2.1.2.2.2.2.2.2.2.1, (x.2.2.1.1, (x.2.2.2.1.1, x.2.2.2.2.1))))))))))))) (φ := fun (x : (Unit × Unit × Unit × Int × Int × Unit × Int × Int × Unit) × (((List (List Int)) × (List Int) × (List Int) × Int × Int × Int × Int × Int × Unit) × (Int × Unit × Unit) × (Int × Unit × Unit) × (List Int) × Unit)) => (x.1.2.2.2.2.1, x.1.2.2.2.2.2.2.2.1)) (ψ := fun (i : Int × Int × (List (List Int)) × (List Int) × (List Int) × Int × Int × Int × Int × Int × Int × Int × (List Int)) (v : Int × Int) => (((), ((), ((), (i.1, (v.1, ((), (i.2.1, (v.2, ())))))))), ((i.2.2.1, (i.2.2.2.1, (i.2.2.2.2.1, (i.2.2.2.2.2.1, (i.2.2.2.2.2.2.1, (i.2.2.2.2.2.2.2.1, (i.2.2.2.2.2.2.2.2.1, (i.2.2.2.2.2.2.2.2.2.1, ())))))))), ((i.2.2.2.2.2.2.2.2.2.2.1, ((), ())), ((i.2.2.2.2.2.2.2.2.2.2.2.1, ((), ())), (i.2.2.2.2.2.2.2.2.2.2.2.2, ())))))) (F := fun (i : Int × Int × (List (List Int)) × (List Int) × (List Int) × Int × Int × Int × Int × Int × Int × Int × (List Int)) => impl_GreedyPlan_l2F i.1 i.2.1 i.2.2.1 i.2.2.2.1 i.2.2.2.2.1 i.2.2.2.2.2.1 i.2.2.2.2.2.2.1 i.2.2.2.2.2.2.2.1 i.2.2.2.2.2.2.2.2.1 i.2.2.2.2.2.2.2.2.2.1 i.2.2.2.2.2.2.2.2.2.2.2.1 i.2.2.2.2.2.2.2.2.2.2.2.2) (fun _ => rfl) fun i k hk v => Par.of_eq (impl_GreedyPlan_l2e i.1 i.2.1 i.2.2.1 i.2.2.2.1 i.2.2.2.2.1 i.2.2.2.2.2.1 i.2.2.2.2.2.2.1 i.2.2.2.2.2.2.2.1 i.2.2.2.2.2.2.2.2.1 i.2.2.2.2.2.2.2.2.2.1 i.2.2.2.2.2.2.2.2.2.2.1 i.2.2.2.2.2.2.2.2.2.2.2.1 i.2.2.2.2.2.2.2.2.2.2.2.2 k v.1 v.2) (impl_GreedyPlan_l2p i.1 i.2.1 i.2.2.1 i.2.2.2.1 i.2.2.2.2.1 i.2.2.2.2.2.1 i.2.2.2.2.2.2.1 i.2.2.2.2.2.2.2.1 i.2.2.2.2.2.2.2.2.1 i.2.2.2.2.2.2.2.2.2.1 i.2.2.2.2.2.2.2.2.2.2.2.1 i.2.2.2.2.2.2.2.2.2.2.2.2 (fun a1 a3 => hk (a1, a3)) v.1 v.2)
theorem impl_GreedyPlan_l1e (a0 : Int) (a1 : List (List Int)) (a2 : List Int) (a3 : List Int) (a4 : Int) (a5 : Int) (a6 : Int) (a7 : Int) (a8 : Int) (a9 : Int) (a10 : Int) (k : Nat) (a11 : List Int) : loopC Try.prog EL48 or48 ((loopsIn (codeOf Try.f48)).getD 1 .skip) (Limpl_GreedyPlan_l1).h (Limpl_GreedyPlan_l1).ho Try.f48.ntmps (k + 1) (simpl_GreedyPlan_l1.out (((), ((), ((), (a0, ())))), ((a1, (a2, (a3, (a4, (a5, (a6, (a7, (a8, ())))))))), ((a9, ((), ())), ((a10, ((), ())), (a11, ())))))) =
    impl_GreedyPlan_l1K a0 a1 a2 a3 a4 a5 a6 a7 a8 a10 (fun a11 => loopC Try.prog EL48 or48 ((loopsIn (codeOf Try.f48)).getD 1 .skip) (Limpl_GreedyPlan_l1).h (Limpl_GreedyPlan_l1).ho Try.f48.ntmps k (simpl_GreedyPlan_l1.out (((), ((), ((), (a0, ())))), ((a1, (a2, (a3, (a4, (a5, (a6, (a7, (a8, ())))))))), ((a9, ((), ())), ((a10, ((), ())), (a11, ()))))))) (fun y => some (XS.out ximpl_GreedyPlan_l1 (a0, (a1, (a2, (a3, (a4, (a5, (a6, (a7, (a8, (a9, a10)))))))))) y)) a11 := by kernel_rfl
theorem impl_GreedyPlan_l1o : LoopOk Try.prog EL48 or48 Try.f48.ntmps ((loopsIn (codeOf Try.f48)).getD 1 .skip) (Limpl_GreedyPlan_l1) :=
  loop_lim (hs := simpl_GreedyPlan_l1) (xs := ximpl_GreedyPlan_l1) (ι := fun (x : (Unit × Unit × Unit × Int × Unit) × (((List (List Int)) × (List Int) × (List Int) × Int × Int × Int × Int × Int × Unit) × (Int × Unit × Unit) × (Int × Unit × Unit) × (List Int) × Unit)) => (x.1.2.2.2.1, (x.2.1.1, (x.2.1.2.1, (x.2.1.2.2.1, (x.2.1.2.2.2.1, (x.2.1.2.2.2.2.1, (x.2.1.2.2.2.2.2.1, (x.2.1.2.2.2.2.2.2.1, (x.2.1.2.2.2.2.2.2.2.1, (x.2.2.1.1, x.2.2.2.1.1))))))))))) (φ := fun (x : (Unit × Unit × Unit × Int × Unit) × (((List (List Int)) × (List Int) × (List Int) × Int × Int × Int × Int × Int × Unit) × (Int × Unit × Unit) × (Int × Unit × Unit) × (List Int) × Unit)) => x.2.2.2.2.1) (ψ := fun (i : Int × (List (List Int)) × (List Int) × (List Int) × Int × Int × Int × Int × Int × Int × Int) (v : List Int) => (((), ((), ((), (i.1, ())))), ((i.2.1, (i.2.2.1, (i.2.2.2.1, (i.2.2.2.2.1, (i.2.2.2.2.2.1, (i.2.2.2.2.2.2.1, (i.2.2.2.2.2.2.2.1, (i.2.2.2.2.2.2.2.2.1, ())))))))), ((i.2.2.2.2.2.2.2.2.2.1, ((), ())), ((i.2.2.2.2.2.2.2.2.2.2, ((), ())), (v, ())))))) (F := fun (i : Int × (List (List Int)) × (List Int) × (List Int) × Int × Int × Int × Int × Int × Int × Int) => impl_GreedyPlan_l1F i.1 i.2.1 i.2.2.1 i.2.2.2.1 i.2.2.2.2.1 i.2.2.2.2.2.1 i.2.2.2.2.2.2.1 i.2.2.2.2.2.2.2.1 i.2.2.2.2.2.2.2.2.1 i.2.2.2.2.2.2.2.2.2.2) (fun _ => rfl) fun i k hk v => Par.of_eq (impl_GreedyPlan_l1e i.1 i.2.1 i.2.2.1 i.2.2.2.1 i.2.2.2.2.1 i.2.2.2.2.2.1 i.2.2.2.2.2.2.1 i.2.2.2.2.2.2.2.1 i.2.2.2.2.2.2.2.2.1 i.2.2.2.2.2.2.2.2.2.1 i.2.2.2.2.2.2.2.2.2.2 k v) (impl_GreedyPlan_l1p i.1 i.2.1 i.2.2.1 i.2.2.2.1 i.2.2.2.2.1 i.2.2.2.2.2.1 i.2.2.2.2.2.2.1 i.2.2.2.2.2.2.2.1 i.2.2.2.2.2.2.2.2.1 i.2.2.2.2.2.2.2.2.2.2 (fun a11 => hk a11) v)
theorem impl_GreedyPlan_l0e (a1 : List (List Int)) (a2 : List Int) (a3 : List Int) (a4 : Int) (a5 : Int) (a6 : Int) (a7 : Int) (a8 : Int) (a9 : Int) (a10 : Int) (k : Nat) (a0 : Int) (a11 : List Int) : loopC Try.prog EL48 or48 ((loopsIn (codeOf Try.f48)).getD 0 .skip) (Limpl_GreedyPlan_l0).h (Limpl_GreedyPlan_l0).ho Try.f48.ntmps (k + 1) (simpl_GreedyPlan_l0.out (((), ((), ((), (a0, ())))), ((a1, (a2, (a3, (a4, (a5, (a6, (a7, (a8, ())))))))), ((a9, ((), ())), ((a10, ((), ())), (a11, ())))))) =
    impl_GreedyPlan_l0K a1 a2 a3 a4 a5 a6 a7 a8 a10 (fun a0 a11 => loopC Try.prog EL48 or48 ((loopsIn (codeOf Try.f48)).getD 0 .skip) (Limpl_GreedyPlan_l0).h (Limpl_GreedyPlan_l0).ho Try.f48.ntmps k (simpl_GreedyPlan_l0.out (((), ((), ((), (a0, ())))), ((a1, (a2, (a3, (a4, (a5, (a6, (a7, (a8, ())))))))), ((a9, ((), ())), ((a10, ((), ())), (a11, ()))))))) (fun y => some (XS.out ximpl_GreedyPlan_l0 (a1, (a2, (a3, (a4, (a5, (a6, (a7, (a8, (a9, a10))))))))) y)) a0 a11 := by kernel_rfl
theorem impl_GreedyPlan_l0o : LoopOk Try.prog EL48 or48 Try.f48.ntmps ((loopsIn (codeOf Try.f48)).getD 0 .skip) (Limpl_GreedyPlan_l0) :=
  loop_lim (hs := simpl_GreedyPlan_l0) (xs := ximpl_GreedyPlan_l0) (ι := fun (x : (Unit × Unit × Unit × Int × Unit) × (((List (List Int)) × (List Int) × (List Int) × Int × Int × Int × Int × Int × Unit) × (Int × Unit × Unit) × (Int × Unit × Unit) × (List Int) × Unit)) => (x.2.1.1, (x.2.1.2.1, (x.2.1.2.2.1, (x.2.1.2.2.2.1, (x.2.1.2.2.2.2.1, (x.2.1.2.2.2.2.2.1, (x.2.1.2.2.2.2.2.2.1, (x.2.1.2.2.2.2.2.2.2.1, (x.2.2.1.1, x.2.2.2.1.1)))))))))) (φ := fun (x : (Unit × Unit × Unit × Int × Unit) × (((List (List Int)) × (List Int) × (List Int) × Int × Int × Int × Int × Int × Unit) × (Int × Unit × Unit) × (Int × Unit × Unit) × (List Int) × Unit)) => (x.1.2.2.2.1, x.2.2.2.2.1)) (ψ := fun (i : (List (List Int)) × (List Int) × (List Int) × Int × Int × Int × Int × Int × Int × Int) (v : Int × (List Int)) => (((), ((), ((), (v.1, ())))), ((i.1, (i.2.1, (i.2.2.1, (i.2.2.2.1, (i.2.2.2.2.1, (i.2.2.2.2.2.1, (i.2.2.2.2.2.2.1, (i.2.2.2.2.2.2.2.1, ())))))))), ((i.2.2.2.2.2.2.2.2.1, ((), ())), ((i.2.2.2.2.2.2.2.2.2, ((), ())), (v.2, ())))))) (F := fun (i : (List (List Int)) × (List Int) × (List Int) × Int × Int × Int × Int × Int × Int × Int) => impl_GreedyPlan_l0F i.1 i.2.1 i.2.2.1 i.2.2.2.1 i.2.2.2.2.1 i.2.2.2.2.2.1 i.2.2.2.2.2.2.1 i.2.2.2.2.2.2.2.1 i.2.2.2.2.2.2.2.2.2) (fun _ => rfl) fun i k hk v => Par.of_eq (impl_GreedyPlan_l0e i.1 i.2.1 i.2.2.1 i.2.2.2.1 i.2.2.2.2.1 i.2.2.2.2.2.1 i.2.2.2.2.2.2.1 i.2.2.2.2.2.2.2.1 i.2.2.2.2.2.2.2.2.1 i.2.2.2.2.2.2.2.2.2 k v.1 v.2) (impl_GreedyPlan_l0p i.1 i.2.1 i.2.2.1 i.2.2.2.1 i.2.2.2.2.1 i.2.2.2.2.2.1 i.2.2.2.2.2.2.1 i.2.2.2.2.2.2.2.1 i.2.2.2.2.2.2.2.2.2 (fun a0 a11 => hk (a0, a11)) v.1 v.2)
def c48 : Callee := mkC [.agg [.ro TJob]] 2 [.agg [.ro (.int .i64), .sl (.int .i64)], .one (.ro .bool)] fun x => impl_GreedyPlan x
theorem e48 (x : PK.dens [.agg [.ro TJob]]) : evalFn Try.prog EL48 or48 Try.f48 (PK.outs [.agg [.ro TJob]] x) =
    impl_GreedyPlanK (fun y => some (tupOf ((PK.outs [.agg [.ro (.int .i64), .sl (.int .i64)], .one (.ro .bool)] y).take 2), (PK.outs [.agg [.ro (.int .i64), .sl (.int .i64)], .one (.ro .bool)] y).drop 2)) x := by kernel_rfl
theorem o48 : LoOk Try.prog EL48 or48 Try.f48.ntmps (loopsIn (codeOf Try.f48)) :=
  LoOk.mk (m := 3) (by kernel_rfl) fun i hi => match i, hi with
    | 0, _ => ⟨Limpl_GreedyPlan_l0, by kernel_rfl, impl_GreedyPlan_l0o⟩
    | 1, _ => ⟨Limpl_GreedyPlan_l1, by kernel_rfl, impl_GreedyPlan_l1o⟩
    | 2, _ => ⟨Limpl_GreedyPlan_l2, by kernel_rfl, impl_GreedyPlan_l2o⟩
    | i + 3, hi => absurd hi (by omega)
theorem k48 : CalleeOk Try.prog 48 c48 := callee_mk Try.func48 (code := codeOf Try.f48) (by kernel_rfl) vL48 mixed o48 fun x y h => (e48 x).trans (p48 _ x y h)

/-- laws.FnExactGreedyPlan -/
def EL11 : Nat → Option Callee := addE 49 c49 (addE 34 c34 (addE 33 c33 (addE 24 c24 (addE 30 c30 (addE 48 c48 (addE 47 c47 (addE 21 c21 (addE 19 c19 env0))))))))
theorem vL11 : EnvOk Try.prog EL11 := ((((((((EnvOk.nil.add Try.func19 rfl (by kernel_rfl) k19).add Try.func21 rfl (by kernel_rfl) k21).add Try.func47 rfl (by kernel_rfl) k47).add Try.func48 rfl (by kernel_rfl) k48).add Try.func30 rfl (by kernel_rfl) k30).add Try.func24 rfl (by kernel_rfl) k24).add Try.func33 rfl (by kernel_rfl) k33).add Try.func34 rfl (by kernel_rfl) k34).add Try.func49 rfl (by kernel_rfl) k49
def laws_FnExactGreedyPlanK {R : Type} (fin : Bool → Option R) (x0 : DJob) : Option R :=
  (laws_szJob x0 1048576).bind fun y1 =>
  cond (decide (y1 < 0))
  (fin true)
  ((laws_toJob x0).bind fun y2 =>
    (spec_GreedyPlan (y2.1, (y2.2.1, (y2.2.2.1, ((y2.2.2.2.1, (y2.2.2.2.2.1, ())), (y2.2.2.2.2.2.1, (y2.2.2.2.2.2.2.1, (y2.2.2.2.2.2.2.2, ())))))))).bind fun y3 =>
    (laws_toJob x0).bind fun y4 =>
    (impl_GreedyPlan (y4.1, (y4.2.1, (y4.2.2.1, ((y4.2.2.2.1, (y4.2.2.2.2.1, ())), (y4.2.2.2.2.2.1, (y4.2.2.2.2.2.2.1, (y4.2.2.2.2.2.2.2, ())))))))).bind fun y5 =>
    (laws_eqPlan (y5.1.1, (y5.1.2, ())) (y3.1.1, (y3.1.2, ()))).bind fun y6 =>
    cond (!y6)
    (fin false)
    (cond (!(y5.2 == y3.2))
      (fin false)
      ((laws_toJob x0).bind fun y7 =>
        (laws_eqJob (y4.1, (y4.2.1, (y4.2.2.1, ((y4.2.2.2.1, (y4.2.2.2.2.1, ())), (y4.2.2.2.2.2.1, (y4.2.2.2.2.2.2.1, (y4.2.2.2.2.2.2.2, ()))))))) (y7.1, (y7.2.1, (y7.2.2.1, ((y7.2.2.2.1, (y7.2.2.2.2.1, ())), (y7.2.2.2.2.2.1, (y7.2.2.2.2.2.2.1, (y7.2.2.2.2.2.2.2, ())))))))).bind fun y8 =>
        cond (!y8)
        (fin false)
        ((laws_markJob y4 1).bind fun y9 =>
          cond (decide (y9.1 < 0))
          (fin false)
          ((laws_eqPlan (y5.1.1, (y5.1.2, ())) (y3.1.1, (y3.1.2, ()))).bind fun y10 =>
            cond (!y10)
            (fin false)
            (cond (!(y5.2 == y3.2))
              (fin false)
              ((laws_markPlan y5.1 1).bind fun y11 =>
                (laws_heldPlan (y5.1.1, (y11.2.2, ())) 1).bind fun y12 =>
                cond (decide (y12 < 0))
                (fin false)
                (cond (y12 != y11.1)
                  (fin false)
                  ((laws_toJob x0).bind fun y13 =>
                    (impl_GreedyPlan (y13.1, (y13.2.1, (y13.2.2.1, ((y13.2.2.2.1, (y13.2.2.2.2.1, ())), (y13.2.2.2.2.2.1, (y13.2.2.2.2.2.2.1, (y13.2.2.2.2.2.2.2, ())))))))).bind fun y14 =>
                    (laws_eqPlan (y14.1.1, (y14.1.2, ())) (y3.1.1, (y3.1.2, ()))).bind fun y15 =>
                    cond (!y15)
                    (fin false)
                    (cond (!(y14.2 == y3.2))
                      (fin false)
                      ((laws_heldPlan (y5.1.1, (y11.2.2, ())) 1).bind fun y16 =>
                        cond (decide (y16 < 0))
                        (fin false)
                        (cond (y16 != y11.1)
                          (fin false)
                          (fin true)))))))))))))
def laws_FnExactGreedyPlan (x0 : DJob) : Option (Bool) := laws_FnExactGreedyPlanK some x0
theorem p11 {R : Type} (fin : Bool → Option R) (x0 : DJob) : Par fin (laws_FnExactGreedyPlanK some x0) (laws_FnExactGreedyPlanK fin x0) := by
  unfold laws_FnExactGreedyPlanK
  repeat' (first | exact .fin | exact .none | refine .cond ?_ ?_ | refine .bind fun _ => ?_ | refine .sum (fun _ => ?_) fun _ => ?_)
def c11 : Callee := mkC [.agg [.ro TJob]] 1 [.one (.ro .bool)] fun x => laws_FnExactGreedyPlan x
theorem e11 (x : PK.dens [.agg [.ro TJob]]) : evalFn Try.prog EL11 or0 Try.f11 (PK.outs [.agg [.ro TJob]] x) =
    laws_FnExactGreedyPlanK (fun y => some (tupOf ((PK.outs [.one (.ro .bool)] y).take 1), (PK.outs [.one (.ro .bool)] y).drop 1)) x := by kernel_rfl
theorem k11 : CalleeOk Try.prog 11 c11 := callee_mk Try.func11 (code := codeOf Try.f11) (by kernel_rfl) vL11 mixed (LoOk.nil (by kernel_rfl)) fun x y h => (e11 x).trans (p11 _ x y h)
end
end Go.OAI
