/- Contracts: GConePlan. -/
import Derived.Test.YtnmeejeedfeolaaGA
import Derived.Test.YtnmeejeedfeolaaGGr
namespace Go.OAI
open Go.Proofs
set_option linter.unusedVariables false
noncomputable section


/-- spec.clMarks -/
def EL136 : Nat → Option Callee := env0
theorem vL136 : EnvOk Try.prog EL136 := EnvOk.nil
def sspec_clMarks_l0 : LS := ⟨[(5, .one (.fix (.sref 0))), (10, .one (.dat (.slice (.int .i64)))), (11, .one (.dat (.int .i64))), (12, .one (.dat (.int .i64)))], [.sl .bool], []⟩
def sspec_clMarks_l0x0 : LS := ⟨[(5, .one (.fix (.sref 0)))], [.sl .bool], []⟩
def xspec_clMarks_l0 : List (XS ((List Int) × Int)) := [⟨.exit 0, ⟨[5], [.slot 5], [], []⟩, sspec_clMarks_l0x0, List Bool, fun i y => (((), ()), (y, ()))⟩]
def spec_clMarks_l0K {R : Type} (a0 : List Int) (a1 : Int) (rc : Int → List Bool → Option R) (fin : List Bool → Option R) (a2 : Int) (a3 : List Bool) : Option R :=
  cond (decide (a2 < a1))
  ((lat a0 a2).bind fun e1 =>
    cond (decide ((0 : Int) ≤ e1) && decide (e1 < (a3.length : Int)))
    ((some (a3.set (0 + e1.toNat) true)).bind fun v2 =>
      rc (IntKind.i64.wrap (a2 + 1)) v2)
    (none))
  (fin a3)
def spec_clMarks_l0F (a0 : List Int) (a1 : Int) (r : (Int × (List Bool)) → Option (List Bool)) (x : Int × (List Bool)) : Option (List Bool) := spec_clMarks_l0K a0 a1 (fun a2 a3 => r (a2, a3)) some x.1 x.2
theorem spec_clMarks_l0c (a0 : List Int) (a1 : Int) (x : Int × (List Bool)) : Ct fun r => spec_clMarks_l0F a0 a1 r x := by
  unfold spec_clMarks_l0F spec_clMarks_l0K
  repeat' (first | exact Ct.const | exact Ct.call | refine Ct.cond ?_ ?_ | refine Ct.bind ?_ fun _ => ?_ | refine Ct.sum (fun _ => ?_) fun _ => ?_)
def spec_clMarks_l0 (a0 : List Int) (a1 : Int) (a2 : Int) (a3 : List Bool) : Option (List Bool) := lim (spec_clMarks_l0F a0 a1) (a2, a3)
theorem spec_clMarks_l0_eq (a0 : List Int) (a1 : Int) (a2 : Int) (a3 : List Bool) : spec_clMarks_l0 a0 a1 a2 a3 = spec_clMarks_l0K a0 a1 (spec_clMarks_l0 a0 a1) some a2 a3 := lim_eq (spec_clMarks_l0c a0 a1) (a2, a3)
theorem spec_clMarks_l0p {R : Type} (a0 : List Int) (a1 : Int) {rc : Int → List Bool → Option (List Bool)} {rc' : Int → List Bool → Option R} {fin : List Bool → Option R} (hr : ∀ a2 a3, Par fin (rc a2 a3) (rc' a2 a3)) (a2 : Int) (a3 : List Bool) : Par fin (spec_clMarks_l0K a0 a1 rc some a2 a3) (spec_clMarks_l0K a0 a1 rc' fin a2 a3) := by
  unfold spec_clMarks_l0K
  repeat' (first | exact .fin | exact .none | exact hr _ _ | refine .cond ?_ ?_ | refine .bind fun _ => ?_ | refine .sum (fun _ => ?_) fun _ => ?_)
def Lspec_clMarks_l0 : Loop := mkL ⟨[5, 10, 11, 12], [.slot 5], [], []⟩ sspec_clMarks_l0 xspec_clMarks_l0 (fun (x : (Unit × (List Int) × Int × Int × Unit) × ((List Bool) × Unit)) => (x.1.2.1, x.1.2.2.1)) fun (x : (Unit × (List Int) × Int × Int × Unit) × ((List Bool) × Unit)) => spec_clMarks_l0 x.1.2.1 x.1.2.2.1 x.1.2.2.2.1 x.2.1
def spec_clMarksK {R : Type} (fin : List Bool → Option R) (x0 : Int) (x1 : List Int) : Option R :=
  cond (decide ((0 : Int) ≤ x0) && (decide (x0 ≤ x0) && decide (x0 ≤ 1099511627776)))
  ((some ((List.replicate x0.toNat false : List Bool))).bind fun v1 =>
    (spec_clMarks_l0 x1 (x1.length : Int) 0 v1).bind fun y4 =>
    fin y4)
  (none)
def spec_clMarks (x0 : Int) (x1 : List Int) : Option (List Bool) := spec_clMarksK some x0 x1
theorem p136 {R : Type} (fin : List Bool → Option R) (x0 : Int) (x1 : List Int) : Par fin (spec_clMarksK some x0 x1) (spec_clMarksK fin x0 x1) := by
  unfold spec_clMarksK
  repeat' (first | exact .fin | exact .none | refine .cond ?_ ?_ | refine .bind fun _ => ?_ | refine .sum (fun _ => ?_) fun _ => ?_)
def or136 : Ora := { lo := addL 3 (Lspec_clMarks_l0) lo0, fin := [] }
theorem spec_clMarks_l0e (a0 : List Int) (a1 : Int) (k : Nat) (a2 : Int) (a3 : List Bool) : loopC Try.prog EL136 or136 ((loopsIn (codeOf Try.f136)).getD 0 .skip) (Lspec_clMarks_l0).h (Lspec_clMarks_l0).ho Try.f136.ntmps (k + 1) (sspec_clMarks_l0.out (((), (a0, (a1, (a2, ())))), (a3, ()))) =
    spec_clMarks_l0K a0 a1 (fun a2 a3 => loopC Try.prog EL136 or136 ((loopsIn (codeOf Try.f136)).getD 0 .skip) (Lspec_clMarks_l0).h (Lspec_clMarks_l0).ho Try.f136.ntmps k (sspec_clMarks_l0.out (((), (a0, (a1, (a2, ())))), (a3, ())))) (fun y => some (XS.out xspec_clMarks_l0 (a0, a1) y)) a2 a3 := by kernel_rfl
theorem spec_clMarks_l0o : LoopOk Try.prog EL136 or136 Try.f136.ntmps ((loopsIn (codeOf Try.f136)).getD 0 .skip) (Lspec_clMarks_l0) :=
  loop_lim (hs := sspec_clMarks_l0) (xs := xspec_clMarks_l0) (ι := fun (x : (Unit × (List Int) × Int × Int × Unit) × ((List Bool) × Unit)) => (x.1.2.1, x.1.2.2.1)) (φ := fun (x : (Unit × (List Int) × Int × Int × Unit) × ((List Bool) × Unit)) => (x.1.2.2.2.1, x.2.1)) (ψ := fun (i : (List Int) × Int) (v : Int × (List Bool)) => (((), (i.1, (i.2, (v.1, ())))), (v.2, ()))) (F := fun (i : (List Int) × Int) => spec_clMarks_l0F i.1 i.2) (fun _ => rfl) fun i k hk v => Par.of_eq (spec_clMarks_l0e i.1 i.2 k v.1 v.2) (spec_clMarks_l0p i.1 i.2 (fun a2 a3 => hk (a2, a3)) v.1 v.2)
def c136 : Callee := mkC [.one (.ro (.int .i64)), .one (.ro (.slice (.int .i64)))] 1 [.one (.sl .bool)] fun x => spec_clMarks x.1 x.2
theorem e136 (x : PK.dens [.one (.ro (.int .i64)), .one (.ro (.slice (.int .i64)))]) : evalFn Try.prog EL136 or136 Try.f136 (PK.outs [.one (.ro (.int .i64)), .one (.ro (.slice (.int .i64)))] x) =
    spec_clMarksK (fun y => some (tupOf ((PK.outs [.one (.sl .bool)] y).take 1), (PK.outs [.one (.sl .bool)] y).drop 1)) x.1 x.2 := by kernel_rfl
theorem o136 : LoOk Try.prog EL136 or136 Try.f136.ntmps (loopsIn (codeOf Try.f136)) :=
  LoOk.mk (m := 1) (by kernel_rfl) fun i hi => match i, hi with
    | 0, _ => ⟨Lspec_clMarks_l0, by kernel_rfl, spec_clMarks_l0o⟩
    | i + 1, hi => absurd hi (by omega)
theorem k136 : CalleeOk Try.prog 136 c136 := callee_mk Try.func136 (code := codeOf Try.f136) (by kernel_rfl) vL136 mixed o136 fun x y h => (e136 x).trans (p136 _ x.1 x.2 y h)

/-- spec.clList -/
def EL137 : Nat → Option Callee := env0
theorem vL137 : EnvOk Try.prog EL137 := EnvOk.nil
def sspec_clList_l0 : LS := ⟨[(3, .one (.fix (.sref 0))), (6, .one (.dat (.slice .bool))), (7, .one (.dat (.int .i64))), (8, .one (.dat (.int .i64)))], [.sl (.int .i64)], []⟩
def sspec_clList_l0x0 : LS := ⟨[(3, .one (.fix (.sref 0)))], [.sl (.int .i64)], []⟩
def xspec_clList_l0 : List (XS ((List Bool) × Int)) := [⟨.exit 0, ⟨[3], [.slot 3], [], []⟩, sspec_clList_l0x0, List Int, fun i y => (((), ()), (y, ()))⟩]
def spec_clList_l0K {R : Type} (a0 : List Bool) (a1 : Int) (rc : Int → List Int → Option R) (fin : List Int → Option R) (a2 : Int) (a3 : List Int) : Option R :=
  cond (decide (a2 < a1))
  ((lat a0 a2).bind fun e1 =>
    cond (e1)
    (cond (decide (a3.length + [a2].length ≤ 1099511627776))
      (rc (IntKind.i64.wrap (a2 + 1)) (a3 ++ [a2]))
      (none))
    (rc (IntKind.i64.wrap (a2 + 1)) a3))
  (fin a3)
def spec_clList_l0F (a0 : List Bool) (a1 : Int) (r : (Int × (List Int)) → Option (List Int)) (x : Int × (List Int)) : Option (List Int) := spec_clList_l0K a0 a1 (fun a2 a3 => r (a2, a3)) some x.1 x.2
theorem spec_clList_l0c (a0 : List Bool) (a1 : Int) (x : Int × (List Int)) : Ct fun r => spec_clList_l0F a0 a1 r x := by
  unfold spec_clList_l0F spec_clList_l0K
  repeat' (first | exact Ct.const | exact Ct.call | refine Ct.cond ?_ ?_ | refine Ct.bind ?_ fun _ => ?_ | refine Ct.sum (fun _ => ?_) fun _ => ?_)
def spec_clList_l0 (a0 : List Bool) (a1 : Int) (a2 : Int) (a3 : List Int) : Option (List Int) := lim (spec_clList_l0F a0 a1) (a2, a3)
theorem spec_clList_l0_eq (a0 : List Bool) (a1 : Int) (a2 : Int) (a3 : List Int) : spec_clList_l0 a0 a1 a2 a3 = spec_clList_l0K a0 a1 (spec_clList_l0 a0 a1) some a2 a3 := lim_eq (spec_clList_l0c a0 a1) (a2, a3)
theorem spec_clList_l0p {R : Type} (a0 : List Bool) (a1 : Int) {rc : Int → List Int → Option (List Int)} {rc' : Int → List Int → Option R} {fin : List Int → Option R} (hr : ∀ a2 a3, Par fin (rc a2 a3) (rc' a2 a3)) (a2 : Int) (a3 : List Int) : Par fin (spec_clList_l0K a0 a1 rc some a2 a3) (spec_clList_l0K a0 a1 rc' fin a2 a3) := by
  unfold spec_clList_l0K
  repeat' (first | exact .fin | exact .none | exact hr _ _ | refine .cond ?_ ?_ | refine .bind fun _ => ?_ | refine .sum (fun _ => ?_) fun _ => ?_)
def Lspec_clList_l0 : Loop := mkL ⟨[3, 6, 7, 8], [.slot 3], [], [.own (.slot 3) (.int .i64)]⟩ sspec_clList_l0 xspec_clList_l0 (fun (x : (Unit × (List Bool) × Int × Int × Unit) × ((List Int) × Unit)) => (x.1.2.1, x.1.2.2.1)) fun (x : (Unit × (List Bool) × Int × Int × Unit) × ((List Int) × Unit)) => spec_clList_l0 x.1.2.1 x.1.2.2.1 x.1.2.2.2.1 x.2.1
def spec_clListK {R : Type} (fin : List Int → Option R) (x0 : List Bool) : Option R :=
  (spec_clList_l0 x0 (x0.length : Int) 0 []).bind fun y3 =>
  fin y3
def spec_clList (x0 : List Bool) : Option (List Int) := spec_clListK some x0
theorem p137 {R : Type} (fin : List Int → Option R) (x0 : List Bool) : Par fin (spec_clListK some x0) (spec_clListK fin x0) := by
  unfold spec_clListK
  repeat' (first | exact .fin | exact .none | refine .cond ?_ ?_ | refine .bind fun _ => ?_ | refine .sum (fun _ => ?_) fun _ => ?_)
def or137 : Ora := { lo := addL 3 (Lspec_clList_l0) lo0, fin := [] }
theorem spec_clList_l0e (a0 : List Bool) (a1 : Int) (k : Nat) (a2 : Int) (a3 : List Int) : loopC Try.prog EL137 or137 ((loopsIn (codeOf Try.f137)).getD 0 .skip) (Lspec_clList_l0).h (Lspec_clList_l0).ho Try.f137.ntmps (k + 1) (sspec_clList_l0.out (((), (a0, (a1, (a2, ())))), (a3, ()))) =
    spec_clList_l0K a0 a1 (fun a2 a3 => loopC Try.prog EL137 or137 ((loopsIn (codeOf Try.f137)).getD 0 .skip) (Lspec_clList_l0).h (Lspec_clList_l0).ho Try.f137.ntmps k (sspec_clList_l0.out (((), (a0, (a1, (a2, ())))), (a3, ())))) (fun y => some (XS.out xspec_clList_l0 (a0, a1) y)) a2 a3 := by kernel_rfl
theorem spec_clList_l0o : LoopOk Try.prog EL137 or137 Try.f137.ntmps ((loopsIn (codeOf Try.f137)).getD 0 .skip) (Lspec_clList_l0) :=
  loop_lim (hs := sspec_clList_l0) (xs := xspec_clList_l0) (ι := fun (x : (Unit × (List Bool) × Int × Int × Unit) × ((List Int) × Unit)) => (x.1.2.1, x.1.2.2.1)) (φ := fun (x : (Unit × (List Bool) × Int × Int × Unit) × ((List Int) × Unit)) => (x.1.2.2.2.1, x.2.1)) (ψ := fun (i : (List Bool) × Int) (v : Int × (List Int)) => (((), (i.1, (i.2, (v.1, ())))), (v.2, ()))) (F := fun (i : (List Bool) × Int) => spec_clList_l0F i.1 i.2) (fun _ => rfl) fun i k hk v => Par.of_eq (spec_clList_l0e i.1 i.2 k v.1 v.2) (spec_clList_l0p i.1 i.2 (fun a2 a3 => hk (a2, a3)) v.1 v.2)
def c137 : Callee := mkC [.one (.ro (.slice .bool))] 1 [.one (.sl (.int .i64))] fun x => spec_clList x
theorem e137 (x : PK.dens [.one (.ro (.slice .bool))]) : evalFn Try.prog EL137 or137 Try.f137 (PK.outs [.one (.ro (.slice .bool))] x) =
    spec_clListK (fun y => some (tupOf ((PK.outs [.one (.sl (.int .i64))] y).take 1), (PK.outs [.one (.sl (.int .i64))] y).drop 1)) x := by kernel_rfl
theorem o137 : LoOk Try.prog EL137 or137 Try.f137.ntmps (loopsIn (codeOf Try.f137)) :=
  LoOk.mk (m := 1) (by kernel_rfl) fun i hi => match i, hi with
    | 0, _ => ⟨Lspec_clList_l0, by kernel_rfl, spec_clList_l0o⟩
    | i + 1, hi => absurd hi (by omega)
theorem k137 : CalleeOk Try.prog 137 c137 := callee_mk Try.func137 (code := codeOf Try.f137) (by kernel_rfl) vL137 mixed o137 fun x y h => (e137 x).trans (p137 _ x y h)

/-- spec.clLeast -/
def EL133 : Nat → Option Callee := addE 137 c137 (addE 136 c136 env0)
theorem vL133 : EnvOk Try.prog EL133 := (EnvOk.nil.add Try.func136 rfl (by kernel_rfl) k136).add Try.func137 rfl (by kernel_rfl) k137
def sspec_clLeast_l1 : LS := ⟨[(0, .one (.dat (.slice (.slice (.int .i64))))), (5, .one (.fix (.sref 0))), (6, .one (.dat (.int .i64))), (27, .one (.dat (.slice (.int .i64)))), (28, .one (.dat (.int .i64))), (29, .one (.dat (.int .i64)))], [.sl .bool], []⟩
def sspec_clLeast_l1x0 : LS := ⟨[(0, .one (.dat (.slice (.slice (.int .i64))))), (5, .one (.fix (.sref 0))), (6, .one (.dat (.int .i64)))], [.sl .bool], []⟩
def xspec_clLeast_l1 : List (XS ((List (List Int)) × Int × (List Int) × Int)) := [⟨.exit 2, ⟨[0, 5, 6], [.slot 5], [], []⟩, sspec_clLeast_l1x0, List Bool, fun i y => ((i.1, ((), (i.2.1, ()))), (y, ()))⟩]
def spec_clLeast_l1K {R : Type} (a2 : List Int) (a3 : Int) (rc : Int → List Bool → Option R) (fin : List Bool → Option R) (a4 : Int) (a5 : List Bool) : Option R :=
  cond (decide (a4 < a3))
  ((lat a2 a4).bind fun e1 =>
    cond (decide ((0 : Int) ≤ e1) && decide (e1 < (a5.length : Int)))
    ((some (a5.set (0 + e1.toNat) true)).bind fun v2 =>
      rc (IntKind.i64.wrap (a4 + 1)) v2)
    (none))
  (fin a5)
def spec_clLeast_l1F (a2 : List Int) (a3 : Int) (r : (Int × (List Bool)) → Option (List Bool)) (x : Int × (List Bool)) : Option (List Bool) := spec_clLeast_l1K a2 a3 (fun a4 a5 => r (a4, a5)) some x.1 x.2
theorem spec_clLeast_l1c (a2 : List Int) (a3 : Int) (x : Int × (List Bool)) : Ct fun r => spec_clLeast_l1F a2 a3 r x := by
  unfold spec_clLeast_l1F spec_clLeast_l1K
  repeat' (first | exact Ct.const | exact Ct.call | refine Ct.cond ?_ ?_ | refine Ct.bind ?_ fun _ => ?_ | refine Ct.sum (fun _ => ?_) fun _ => ?_)
def spec_clLeast_l1 (a2 : List Int) (a3 : Int) (a4 : Int) (a5 : List Bool) : Option (List Bool) := lim (spec_clLeast_l1F a2 a3) (a4, a5)
theorem spec_clLeast_l1_eq (a2 : List Int) (a3 : Int) (a4 : Int) (a5 : List Bool) : spec_clLeast_l1 a2 a3 a4 a5 = spec_clLeast_l1K a2 a3 (spec_clLeast_l1 a2 a3) some a4 a5 := lim_eq (spec_clLeast_l1c a2 a3) (a4, a5)
theorem spec_clLeast_l1p {R : Type} (a2 : List Int) (a3 : Int) {rc : Int → List Bool → Option (List Bool)} {rc' : Int → List Bool → Option R} {fin : List Bool → Option R} (hr : ∀ a4 a5, Par fin (rc a4 a5) (rc' a4 a5)) (a4 : Int) (a5 : List Bool) : Par fin (spec_clLeast_l1K a2 a3 rc some a4 a5) (spec_clLeast_l1K a2 a3 rc' fin a4 a5) := by
  unfold spec_clLeast_l1K
  repeat' (first | exact .fin | exact .none | exact hr _ _ | refine .cond ?_ ?_ | refine .bind fun _ => ?_ | refine .sum (fun _ => ?_) fun _ => ?_)
def Lspec_clLeast_l1 : Loop := mkL ⟨[0, 5, 6, 27, 28, 29], [.slot 5], [], []⟩ sspec_clLeast_l1 xspec_clLeast_l1 (fun (x : ((List (List Int)) × Unit × Int × (List Int) × Int × Int × Unit) × ((List Bool) × Unit)) => (x.1.1, (x.1.2.2.1, (x.1.2.2.2.1, x.1.2.2.2.2.1)))) fun (x : ((List (List Int)) × Unit × Int × (List Int) × Int × Int × Unit) × ((List Bool) × Unit)) => spec_clLeast_l1 x.1.2.2.2.1 x.1.2.2.2.2.1 x.1.2.2.2.2.2.1 x.2.1
def sspec_clLeast_l0 : LS := ⟨[(0, .one (.dat (.slice (.slice (.int .i64))))), (5, .one (.fix (.sref 0))), (6, .one (.dat (.int .i64)))], [.sl .bool], []⟩
def sspec_clLeast_l0x0 : LS := ⟨[(5, .one (.fix (.sref 0)))], [.sl .bool], []⟩
def xspec_clLeast_l0 : List (XS (List (List Int))) := [⟨.exit 0, ⟨[5], [.slot 5], [], []⟩, sspec_clLeast_l0x0, List Bool, fun i y => (((), ()), (y, ()))⟩]
def spec_clLeast_l0K {R : Type} (a0 : List (List Int)) (rc : Int → List Bool → Option R) (fin : List Bool → Option R) (a1 : Int) (a2 : List Bool) : Option R :=
  cond (decide (a1 ≥ 0))
  (cond (decide ((0 : Int) ≤ a1) && decide (a1 < (a2.length : Int)))
    (cond (a2.getD (0 + a1.toNat) false)
      ((lat a0 a1).bind fun e1 =>
        (spec_clLeast_l1 e1 (e1.length : Int) 0 a2).bind fun y4 =>
        rc (IntKind.i64.wrap (a1 - 1)) y4)
      (rc (IntKind.i64.wrap (a1 - 1)) a2))
    (none))
  (fin a2)
def spec_clLeast_l0F (a0 : List (List Int)) (r : (Int × (List Bool)) → Option (List Bool)) (x : Int × (List Bool)) : Option (List Bool) := spec_clLeast_l0K a0 (fun a1 a2 => r (a1, a2)) some x.1 x.2
theorem spec_clLeast_l0c (a0 : List (List Int)) (x : Int × (List Bool)) : Ct fun r => spec_clLeast_l0F a0 r x := by
  unfold spec_clLeast_l0F spec_clLeast_l0K
  repeat' (first | exact Ct.const | exact Ct.call | refine Ct.cond ?_ ?_ | refine Ct.bind ?_ fun _ => ?_ | refine Ct.sum (fun _ => ?_) fun _ => ?_)
def spec_clLeast_l0 (a0 : List (List Int)) (a1 : Int) (a2 : List Bool) : Option (List Bool) := lim (spec_clLeast_l0F a0) (a1, a2)
theorem spec_clLeast_l0_eq (a0 : List (List Int)) (a1 : Int) (a2 : List Bool) : spec_clLeast_l0 a0 a1 a2 = spec_clLeast_l0K a0 (spec_clLeast_l0 a0) some a1 a2 := lim_eq (spec_clLeast_l0c a0) (a1, a2)
theorem spec_clLeast_l0p {R : Type} (a0 : List (List Int)) {rc : Int → List Bool → Option (List Bool)} {rc' : Int → List Bool → Option R} {fin : List Bool → Option R} (hr : ∀ a1 a2, Par fin (rc a1 a2) (rc' a1 a2)) (a1 : Int) (a2 : List Bool) : Par fin (spec_clLeast_l0K a0 rc some a1 a2) (spec_clLeast_l0K a0 rc' fin a1 a2) := by
  unfold spec_clLeast_l0K
  repeat' (first | exact .fin | exact .none | exact hr _ _ | refine .cond ?_ ?_ | refine .bind fun _ => ?_ | refine .sum (fun _ => ?_) fun _ => ?_)
def Lspec_clLeast_l0 : Loop := mkL ⟨[0, 5, 6], [.slot 5], [], []⟩ sspec_clLeast_l0 xspec_clLeast_l0 (fun (x : ((List (List Int)) × Unit × Int × Unit) × ((List Bool) × Unit)) => x.1.1) fun (x : ((List (List Int)) × Unit × Int × Unit) × ((List Bool) × Unit)) => spec_clLeast_l0 x.1.1 x.1.2.2.1 x.2.1
def spec_clLeastK {R : Type} (fin : List Int → Option R) (x0 : List (List Int)) (x1 : List Int) : Option R :=
  (spec_clMarks (x0.length : Int) x1).bind fun y1 =>
  (spec_clLeast_l0 x0 (IntKind.i64.wrap ((x0.length : Int) - 1)) y1).bind fun y6 =>
  (spec_clList y6).bind fun y7 =>
  fin y7
def spec_clLeast (x0 : List (List Int)) (x1 : List Int) : Option (List Int) := spec_clLeastK some x0 x1
theorem p133 {R : Type} (fin : List Int → Option R) (x0 : List (List Int)) (x1 : List Int) : Par fin (spec_clLeastK some x0 x1) (spec_clLeastK fin x0 x1) := by
  unfold spec_clLeastK
  repeat' (first | exact .fin | exact .none | refine .cond ?_ ?_ | refine .bind fun _ => ?_ | refine .sum (fun _ => ?_) fun _ => ?_)
def or133 : Ora := { lo := addL 3 (Lspec_clLeast_l0) (addL 7 (Lspec_clLeast_l1) lo0), fin := [] }
theorem spec_clLeast_l1e (a0 : List (List Int)) (a1 : Int) (a2 : List Int) (a3 : Int) (k : Nat) (a4 : Int) (a5 : List Bool) : loopC Try.prog EL133 or133 ((loopsIn (codeOf Try.f133)).getD 1 .skip) (Lspec_clLeast_l1).h (Lspec_clLeast_l1).ho Try.f133.ntmps (k + 1) (sspec_clLeast_l1.out ((a0, ((), (a1, (a2, (a3, (a4, ())))))), (a5, ()))) =
    spec_clLeast_l1K a2 a3 (fun a4 a5 => loopC Try.prog EL133 or133 ((loopsIn (codeOf Try.f133)).getD 1 .skip) (Lspec_clLeast_l1).h (Lspec_clLeast_l1).ho Try.f133.ntmps k (sspec_clLeast_l1.out ((a0, ((), (a1, (a2, (a3, (a4, ())))))), (a5, ())))) (fun y => some (XS.out xspec_clLeast_l1 (a0, (a1, (a2, a3))) y)) a4 a5 := by kernel_rfl
theorem spec_clLeast_l1o : LoopOk Try.prog EL133 or133 Try.f133.ntmps ((loopsIn (codeOf Try.f133)).getD 1 .skip) (Lspec_clLeast_l1) :=
  loop_lim (hs := sspec_clLeast_l1) (xs := xspec_clLeast_l1) (ι := fun (x : ((List (List Int)) × Unit × Int × (List Int) × Int × Int × Unit) × ((List Bool) × Unit)) => (x.1.1, (x.1.2.2.1, (x.1.2.2.2.1, x.1.2.2.2.2.1)))) (φ := fun (x : ((List (List Int)) × Unit × Int × (List Int) × Int × Int × Unit) × ((List Bool) × Unit)) => (x.1.2.2.2.2.2.1, x.2.1)) (ψ := fun (i : (List (List Int)) × Int × (List Int) × Int) (v : Int × (List Bool)) => ((i.1, ((), (i.2.1, (i.2.2.1, (i.2.2.2, (v.1, ())))))), (v.2, ()))) (F := fun (i : (List (List Int)) × Int × (List Int) × Int) => spec_clLeast_l1F i.2.2.1 i.2.2.2) (fun _ => rfl) fun i k hk v => Par.of_eq (spec_clLeast_l1e i.1 i.2.1 i.2.2.1 i.2.2.2 k v.1 v.2) (spec_clLeast_l1p i.2.2.1 i.2.2.2 (fun a4 a5 => hk (a4, a5)) v.1 v.2)
theorem spec_clLeast_l0e (a0 : List (List Int)) (k : Nat) (a1 : Int) (a2 : List Bool) : loopC Try.prog EL133 or133 ((loopsIn (codeOf Try.f133)).getD 0 .skip) (Lspec_clLeast_l0).h (Lspec_clLeast_l0).ho Try.f133.ntmps (k + 1) (sspec_clLeast_l0.out ((a0, ((), (a1, ()))), (a2, ()))) =
    spec_clLeast_l0K a0 (fun a1 a2 => loopC Try.prog EL133 or133 ((loopsIn (codeOf Try.f133)).getD 0 .skip) (Lspec_clLeast_l0).h (Lspec_clLeast_l0).ho Try.f133.ntmps k (sspec_clLeast_l0.out ((a0, ((), (a1, ()))), (a2, ())))) (fun y => some (XS.out xspec_clLeast_l0 a0 y)) a1 a2 := by kernel_rfl
theorem spec_clLeast_l0o : LoopOk Try.prog EL133 or133 Try.f133.ntmps ((loopsIn (codeOf Try.f133)).getD 0 .skip) (Lspec_clLeast_l0) :=
  loop_lim (hs := sspec_clLeast_l0) (xs := xspec_clLeast_l0) (ι := fun (x : ((List (List Int)) × Unit × Int × Unit) × ((List Bool) × Unit)) => x.1.1) (φ := fun (x : ((List (List Int)) × Unit × Int × Unit) × ((List Bool) × Unit)) => (x.1.2.2.1, x.2.1)) (ψ := fun (i : List (List Int)) (v : Int × (List Bool)) => ((i, ((), (v.1, ()))), (v.2, ()))) (F := fun (i : List (List Int)) => spec_clLeast_l0F i) (fun _ => rfl) fun i k hk v => Par.of_eq (spec_clLeast_l0e i k v.1 v.2) (spec_clLeast_l0p i (fun a1 a2 => hk (a1, a2)) v.1 v.2)
def c133 : Callee := mkC [.one (.ro (.slice (.slice (.int .i64)))), .one (.ro (.slice (.int .i64)))] 1 [.one (.sl (.int .i64))] fun x => spec_clLeast x.1 x.2
theorem e133 (x : PK.dens [.one (.ro (.slice (.slice (.int .i64)))), .one (.ro (.slice (.int .i64)))]) : evalFn Try.prog EL133 or133 Try.f133 (PK.outs [.one (.ro (.slice (.slice (.int .i64)))), .one (.ro (.slice (.int .i64)))] x) =
    spec_clLeastK (fun y => some (tupOf ((PK.outs [.one (.sl (.int .i64))] y).take 1), (PK.outs [.one (.sl (.int .i64))] y).drop 1)) x.1 x.2 := by kernel_rfl
theorem o133 : LoOk Try.prog EL133 or133 Try.f133.ntmps (loopsIn (codeOf Try.f133)) :=
  LoOk.mk (m := 2) (by kernel_rfl) fun i hi => match i, hi with
    | 0, _ => ⟨Lspec_clLeast_l0, by kernel_rfl, spec_clLeast_l0o⟩
    | 1, _ => ⟨Lspec_clLeast_l1, by kernel_rfl, spec_clLeast_l1o⟩
    | i + 2, hi => absurd hi (by omega)
theorem k133 : CalleeOk Try.prog 133 c133 := callee_mk Try.func133 (code := codeOf Try.f133) (by kernel_rfl) vL133 mixed o133 fun x y h => (e133 x).trans (p133 _ x.1 x.2 y h)

/-- spec.clUp -/
def EL126 : Nat → Option Callee := addE 133 c133 env0
theorem vL126 : EnvOk Try.prog EL126 := EnvOk.nil.add Try.func133 rfl (by kernel_rfl) k133
def spec_clUpK {R : Type} (fin : List Int → Option R) (x0 : List (List Int)) (x1 : Int) : Option R :=
  (spec_clLeast x0 [x1]).bind fun y1 =>
  fin y1
def spec_clUp (x0 : List (List Int)) (x1 : Int) : Option (List Int) := spec_clUpK some x0 x1
theorem p126 {R : Type} (fin : List Int → Option R) (x0 : List (List Int)) (x1 : Int) : Par fin (spec_clUpK some x0 x1) (spec_clUpK fin x0 x1) := by
  unfold spec_clUpK
  repeat' (first | exact .fin | exact .none | refine .cond ?_ ?_ | refine .bind fun _ => ?_ | refine .sum (fun _ => ?_) fun _ => ?_)
def c126 : Callee := mkC [.one (.ro (.slice (.slice (.int .i64)))), .one (.ro (.int .i64))] 1 [.one (.sl (.int .i64))] fun x => spec_clUp x.1 x.2
theorem e126 (x : PK.dens [.one (.ro (.slice (.slice (.int .i64)))), .one (.ro (.int .i64))]) : evalFn Try.prog EL126 or0 Try.f126 (PK.outs [.one (.ro (.slice (.slice (.int .i64)))), .one (.ro (.int .i64))] x) =
    spec_clUpK (fun y => some (tupOf ((PK.outs [.one (.sl (.int .i64))] y).take 1), (PK.outs [.one (.sl (.int .i64))] y).drop 1)) x.1 x.2 := by kernel_rfl
theorem k126 : CalleeOk Try.prog 126 c126 := callee_mk Try.func126 (code := codeOf Try.f126) (by kernel_rfl) vL126 mixed (LoOk.nil (by kernel_rfl)) fun x y h => (e126 x).trans (p126 _ x.1 x.2 y h)

/-- spec.wiCone -/
def EL108 : Nat → Option Callee := addE 126 c126 env0
theorem vL108 : EnvOk Try.prog EL108 := EnvOk.nil.add Try.func126 rfl (by kernel_rfl) k126
def sspec_wiCone_l0 : LS := ⟨[(4, .one (.fix (.ptr 0 0))), (7, .one (.fix (.sref 1))), (13, .one (.fix (.sref 2))), (14, .one (.dat (.int .i64))), (15, .one (.dat (.int .i64)))], [.box [.dat (.int .i64), .dat (.slice (.int .i64))], .sl (.int .i64), .sl (.int .i64)], []⟩
def sspec_wiCone_l0x0 : LS := ⟨[(7, .one (.fix (.sref 0)))], [.sl (.int .i64)], []⟩
def xspec_wiCone_l0 : List (XS (Int × Int × (List Int) × (List Int))) := [⟨.exit 0, ⟨[7], [.slot 7], [], []⟩, sspec_wiCone_l0x0, List Int, fun i y => (((), ()), (y, ()))⟩]
def spec_wiCone_l0K {R : Type} (a0 : Int) (a3 : List Int) (a5 : List Int) (rc : Int → List Int → Option R) (fin : List Int → Option R) (a1 : Int) (a4 : List Int) : Option R :=
  cond (decide (a1 < a0))
  (cond (decide ((0 : Int) ≤ a1) && decide (a1 < (a5.length : Int)))
    ((lat a3 (a5.getD (0 + a1.toNat) 0)).bind fun e1 =>
      cond (decide (e1 < 0))
      (cond (decide (a4.length + [a5.getD (0 + a1.toNat) 0].length ≤ 1099511627776))
        ((some (a4 ++ [a5.getD (0 + a1.toNat) 0])).bind fun v2 =>
          rc (IntKind.i64.wrap (a1 + 1)) v2)
        (none))
      (rc (IntKind.i64.wrap (a1 + 1)) a4))
    (none))
  (fin a4)
def spec_wiCone_l0F (a0 : Int) (a3 : List Int) (a5 : List Int) (r : (Int × (List Int)) → Option (List Int)) (x : Int × (List Int)) : Option (List Int) := spec_wiCone_l0K a0 a3 a5 (fun a1 a4 => r (a1, a4)) some x.1 x.2
theorem spec_wiCone_l0c (a0 : Int) (a3 : List Int) (a5 : List Int) (x : Int × (List Int)) : Ct fun r => spec_wiCone_l0F a0 a3 a5 r x := by
  unfold spec_wiCone_l0F spec_wiCone_l0K
  repeat' (first | exact Ct.const | exact Ct.call | refine Ct.cond ?_ ?_ | refine Ct.bind ?_ fun _ => ?_ | refine Ct.sum (fun _ => ?_) fun _ => ?_)
def spec_wiCone_l0 (a0 : Int) (a3 : List Int) (a5 : List Int) (a1 : Int) (a4 : List Int) : Option (List Int) := lim (spec_wiCone_l0F a0 a3 a5) (a1, a4)
theorem spec_wiCone_l0_eq (a0 : Int) (a3 : List Int) (a5 : List Int) (a1 : Int) (a4 : List Int) : spec_wiCone_l0 a0 a3 a5 a1 a4 = spec_wiCone_l0K a0 a3 a5 (spec_wiCone_l0 a0 a3 a5) some a1 a4 := lim_eq (spec_wiCone_l0c a0 a3 a5) (a1, a4)
theorem spec_wiCone_l0p {R : Type} (a0 : Int) (a3 : List Int) (a5 : List Int) {rc : Int → List Int → Option (List Int)} {rc' : Int → List Int → Option R} {fin : List Int → Option R} (hr : ∀ a1 a4, Par fin (rc a1 a4) (rc' a1 a4)) (a1 : Int) (a4 : List Int) : Par fin (spec_wiCone_l0K a0 a3 a5 rc some a1 a4) (spec_wiCone_l0K a0 a3 a5 rc' fin a1 a4) := by
  unfold spec_wiCone_l0K
  repeat' (first | exact .fin | exact .none | exact hr _ _ | refine .cond ?_ ?_ | refine .bind fun _ => ?_ | refine .sum (fun _ => ?_) fun _ => ?_)
def Lspec_wiCone_l0 : Loop := mkL ⟨[4, 7, 13, 14, 15], [.slot 4, .slot 7, .slot 13], [], [.own (.slot 7) (.int .i64)]⟩ sspec_wiCone_l0 xspec_wiCone_l0 (fun (x : (Unit × Unit × Unit × Int × Int × Unit) × ((Int × (List Int) × Unit) × (List Int) × (List Int) × Unit)) => (x.1.2.2.2.1, (x.2.1.1, (x.2.1.2.1, x.2.2.2.1)))) fun (x : (Unit × Unit × Unit × Int × Int × Unit) × ((Int × (List Int) × Unit) × (List Int) × (List Int) × Unit)) => spec_wiCone_l0 x.1.2.2.2.1 x.2.1.2.1 x.2.2.2.1 x.1.2.2.2.2.1 x.2.2.1
def spec_wiConeK {R : Type} (fin : List Int → Option R) (x0 : DJob) (x1 : DPlan) (x2 : Int) : Option R :=
  (spec_clUp x0.1 x2).bind fun y1 =>
  (spec_wiCone_l0 (y1.length : Int) x1.2.1 y1 0 []).bind fun y6 =>
  fin y6
def spec_wiCone (x0 : DJob) (x1 : DPlan) (x2 : Int) : Option (List Int) := spec_wiConeK some x0 x1 x2
theorem p108 {R : Type} (fin : List Int → Option R) (x0 : DJob) (x1 : DPlan) (x2 : Int) : Par fin (spec_wiConeK some x0 x1 x2) (spec_wiConeK fin x0 x1 x2) := by
  unfold spec_wiConeK
  repeat' (first | exact .fin | exact .none | refine .cond ?_ ?_ | refine .bind fun _ => ?_ | refine .sum (fun _ => ?_) fun _ => ?_)
def or108 : Ora := { lo := addL 3 (Lspec_wiCone_l0) lo0, fin := [] }
theorem spec_wiCone_l0e (a0 : Int) (a2 : Int) (a3 : List Int) (a5 : List Int) (k : Nat) (a1 : Int) (a4 : List Int) : loopC Try.prog EL108 or108 ((loopsIn (codeOf Try.f108)).getD 0 .skip) (Lspec_wiCone_l0).h (Lspec_wiCone_l0).ho Try.f108.ntmps (k + 1) (sspec_wiCone_l0.out (((), ((), ((), (a0, (a1, ()))))), ((a2, (a3, ())), (a4, (a5, ()))))) =
    spec_wiCone_l0K a0 a3 a5 (fun a1 a4 => loopC Try.prog EL108 or108 ((loopsIn (codeOf Try.f108)).getD 0 .skip) (Lspec_wiCone_l0).h (Lspec_wiCone_l0).ho Try.f108.ntmps k (sspec_wiCone_l0.out (((), ((), ((), (a0, (a1, ()))))), ((a2, (a3, ())), (a4, (a5, ())))))) (fun y => some (XS.out xspec_wiCone_l0 (a0, (a2, (a3, a5))) y)) a1 a4 := by kernel_rfl
theorem spec_wiCone_l0o : LoopOk Try.prog EL108 or108 Try.f108.ntmps ((loopsIn (codeOf Try.f108)).getD 0 .skip) (Lspec_wiCone_l0) :=
  loop_lim (hs := sspec_wiCone_l0) (xs := xspec_wiCone_l0) (ι := fun (x : (Unit × Unit × Unit × Int × Int × Unit) × ((Int × (List Int) × Unit) × (List Int) × (List Int) × Unit)) => (x.1.2.2.2.1, (x.2.1.1, (x.2.1.2.1, x.2.2.2.1)))) (φ := fun (x : (Unit × Unit × Unit × Int × Int × Unit) × ((Int × (List Int) × Unit) × (List Int) × (List Int) × Unit)) => (x.1.2.2.2.2.1, x.2.2.1)) (ψ := fun (i : Int × Int × (List Int) × (List Int)) (v : Int × (List Int)) => (((), ((), ((), (i.1, (v.1, ()))))), ((i.2.1, (i.2.2.1, ())), (v.2, (i.2.2.2, ()))))) (F := fun (i : Int × Int × (List Int) × (List Int)) => spec_wiCone_l0F i.1 i.2.2.1 i.2.2.2) (fun _ => rfl) fun i k hk v => Par.of_eq (spec_wiCone_l0e i.1 i.2.1 i.2.2.1 i.2.2.2 k v.1 v.2) (spec_wiCone_l0p i.1 i.2.2.1 i.2.2.2 (fun a1 a4 => hk (a1, a4)) v.1 v.2)
def c108 : Callee := mkC [.agg [.ro TJob], .agg [.ro TPlan], .one (.ro (.int .i64))] 1 [.one (.sl (.int .i64))] fun x => spec_wiCone x.1 x.2.1 x.2.2
theorem e108 (x : PK.dens [.agg [.ro TJob], .agg [.ro TPlan], .one (.ro (.int .i64))]) : evalFn Try.prog EL108 or108 Try.f108 (PK.outs [.agg [.ro TJob], .agg [.ro TPlan], .one (.ro (.int .i64))] x) =
    spec_wiConeK (fun y => some (tupOf ((PK.outs [.one (.sl (.int .i64))] y).take 1), (PK.outs [.one (.sl (.int .i64))] y).drop 1)) x.1 x.2.1 x.2.2 := by kernel_rfl
theorem o108 : LoOk Try.prog EL108 or108 Try.f108.ntmps (loopsIn (codeOf Try.f108)) :=
  LoOk.mk (m := 1) (by kernel_rfl) fun i hi => match i, hi with
    | 0, _ => ⟨Lspec_wiCone_l0, by kernel_rfl, spec_wiCone_l0o⟩
    | i + 1, hi => absurd hi (by omega)
theorem k108 : CalleeOk Try.prog 108 c108 := callee_mk Try.func108 (code := codeOf Try.f108) (by kernel_rfl) vL108 mixed o108 fun x y h => (e108 x).trans (p108 _ x.1 x.2.1 x.2.2 y h)

/-- spec.vaSum -/
def EL109 : Nat → Option Callee := env0
theorem vL109 : EnvOk Try.prog EL109 := EnvOk.nil
def sspec_vaSum_l0 : LS := ⟨[(0, .one (.dat (.slice (.int .i64)))), (5, .one (.dat (.int .i64))), (8, .one (.dat (.slice (.int .i64)))), (9, .one (.dat (.int .i64))), (10, .one (.dat (.int .i64)))], [], []⟩
def sspec_vaSum_l0x0 : LS := ⟨[(5, .one (.dat (.int .i64)))], [], []⟩
def xspec_vaSum_l0 : List (XS ((List Int) × (List Int) × Int)) := [⟨.exit 0, ⟨[5], [], [], []⟩, sspec_vaSum_l0x0, Int, fun i y => ((y, ()), ())⟩]
def spec_vaSum_l0K {R : Type} (a0 : List Int) (a2 : List Int) (a3 : Int) (rc : Int → Int → Option R) (fin : Int → Option R) (a1 : Int) (a4 : Int) : Option R :=
  cond (decide (a4 < a3))
  ((lat a2 a4).bind fun e1 =>
    (lat a0 e1).bind fun e2 =>
    rc (IntKind.i64.wrap (a1 + e2)) (IntKind.i64.wrap (a4 + 1)))
  (fin a1)
def spec_vaSum_l0F (a0 : List Int) (a2 : List Int) (a3 : Int) (r : (Int × Int) → Option (Int)) (x : Int × Int) : Option (Int) := spec_vaSum_l0K a0 a2 a3 (fun a1 a4 => r (a1, a4)) some x.1 x.2
theorem spec_vaSum_l0c (a0 : List Int) (a2 : List Int) (a3 : Int) (x : Int × Int) : Ct fun r => spec_vaSum_l0F a0 a2 a3 r x := by
  unfold spec_vaSum_l0F spec_vaSum_l0K
  repeat' (first | exact Ct.const | exact Ct.call | refine Ct.cond ?_ ?_ | refine Ct.bind ?_ fun _ => ?_ | refine Ct.sum (fun _ => ?_) fun _ => ?_)
def spec_vaSum_l0 (a0 : List Int) (a2 : List Int) (a3 : Int) (a1 : Int) (a4 : Int) : Option (Int) := lim (spec_vaSum_l0F a0 a2 a3) (a1, a4)
theorem spec_vaSum_l0_eq (a0 : List Int) (a2 : List Int) (a3 : Int) (a1 : Int) (a4 : Int) : spec_vaSum_l0 a0 a2 a3 a1 a4 = spec_vaSum_l0K a0 a2 a3 (spec_vaSum_l0 a0 a2 a3) some a1 a4 := lim_eq (spec_vaSum_l0c a0 a2 a3) (a1, a4)
theorem spec_vaSum_l0p {R : Type} (a0 : List Int) (a2 : List Int) (a3 : Int) {rc : Int → Int → Option (Int)} {rc' : Int → Int → Option R} {fin : Int → Option R} (hr : ∀ a1 a4, Par fin (rc a1 a4) (rc' a1 a4)) (a1 : Int) (a4 : Int) : Par fin (spec_vaSum_l0K a0 a2 a3 rc some a1 a4) (spec_vaSum_l0K a0 a2 a3 rc' fin a1 a4) := by
  unfold spec_vaSum_l0K
  repeat' (first | exact .fin | exact .none | exact hr _ _ | refine .cond ?_ ?_ | refine .bind fun _ => ?_ | refine .sum (fun _ => ?_) fun _ => ?_)
def Lspec_vaSum_l0 : Loop := mkL ⟨[0, 5, 8, 9, 10], [], [], []⟩ sspec_vaSum_l0 xspec_vaSum_l0 (fun (x : ((List Int) × Int × (List Int) × Int × Int × Unit) × (Unit)) => (x.1.1, (x.1.2.2.1, x.1.2.2.2.1))) fun (x : ((List Int) × Int × (List Int) × Int × Int × Unit) × (Unit)) => spec_vaSum_l0 x.1.1 x.1.2.2.1 x.1.2.2.2.1 x.1.2.1 x.1.2.2.2.2.1
def spec_vaSumK {R : Type} (fin : Int → Option R) (x0 : List Int) (x1 : List Int) : Option R :=
  (spec_vaSum_l0 x0 x1 (x1.length : Int) 0 0).bind fun y3 =>
  fin y3
def spec_vaSum (x0 : List Int) (x1 : List Int) : Option (Int) := spec_vaSumK some x0 x1
theorem p109 {R : Type} (fin : Int → Option R) (x0 : List Int) (x1 : List Int) : Par fin (spec_vaSumK some x0 x1) (spec_vaSumK fin x0 x1) := by
  unfold spec_vaSumK
  repeat' (first | exact .fin | exact .none | refine .cond ?_ ?_ | refine .bind fun _ => ?_ | refine .sum (fun _ => ?_) fun _ => ?_)
def or109 : Ora := { lo := addL 3 (Lspec_vaSum_l0) lo0, fin := [] }
theorem spec_vaSum_l0e (a0 : List Int) (a2 : List Int) (a3 : Int) (k : Nat) (a1 : Int) (a4 : Int) : loopC Try.prog EL109 or109 ((loopsIn (codeOf Try.f109)).getD 0 .skip) (Lspec_vaSum_l0).h (Lspec_vaSum_l0).ho Try.f109.ntmps (k + 1) (sspec_vaSum_l0.out ((a0, (a1, (a2, (a3, (a4, ()))))), ())) =
    spec_vaSum_l0K a0 a2 a3 (fun a1 a4 => loopC Try.prog EL109 or109 ((loopsIn (codeOf Try.f109)).getD 0 .skip) (Lspec_vaSum_l0).h (Lspec_vaSum_l0).ho Try.f109.ntmps k (sspec_vaSum_l0.out ((a0, (a1, (a2, (a3, (a4, ()))))), ()))) (fun y => some (XS.out xspec_vaSum_l0 (a0, (a2, a3)) y)) a1 a4 := by kernel_rfl
theorem spec_vaSum_l0o : LoopOk Try.prog EL109 or109 Try.f109.ntmps ((loopsIn (codeOf Try.f109)).getD 0 .skip) (Lspec_vaSum_l0) :=
  loop_lim (hs := sspec_vaSum_l0) (xs := xspec_vaSum_l0) (ι := fun (x : ((List Int) × Int × (List Int) × Int × Int × Unit) × (Unit)) => (x.1.1, (x.1.2.2.1, x.1.2.2.2.1))) (φ := fun (x : ((List Int) × Int × (List Int) × Int × Int × Unit) × (Unit)) => (x.1.2.1, x.1.2.2.2.2.1)) (ψ := fun (i : (List Int) × (List Int) × Int) (v : Int × Int) => ((i.1, (v.1, (i.2.1, (i.2.2, (v.2, ()))))), ())) (F := fun (i : (List Int) × (List Int) × Int) => spec_vaSum_l0F i.1 i.2.1 i.2.2) (fun _ => rfl) fun i k hk v => Par.of_eq (spec_vaSum_l0e i.1 i.2.1 i.2.2 k v.1 v.2) (spec_vaSum_l0p i.1 i.2.1 i.2.2 (fun a1 a4 => hk (a1, a4)) v.1 v.2)
def c109 : Callee := mkC [.one (.ro (.slice (.int .i64))), .one (.ro (.slice (.int .i64)))] 1 [.one (.ro (.int .i64))] fun x => spec_vaSum x.1 x.2
theorem e109 (x : PK.dens [.one (.ro (.slice (.int .i64))), .one (.ro (.slice (.int .i64)))]) : evalFn Try.prog EL109 or109 Try.f109 (PK.outs [.one (.ro (.slice (.int .i64))), .one (.ro (.slice (.int .i64)))] x) =
    spec_vaSumK (fun y => some (tupOf ((PK.outs [.one (.ro (.int .i64))] y).take 1), (PK.outs [.one (.ro (.int .i64))] y).drop 1)) x.1 x.2 := by kernel_rfl
theorem o109 : LoOk Try.prog EL109 or109 Try.f109.ntmps (loopsIn (codeOf Try.f109)) :=
  LoOk.mk (m := 1) (by kernel_rfl) fun i hi => match i, hi with
    | 0, _ => ⟨Lspec_vaSum_l0, by kernel_rfl, spec_vaSum_l0o⟩
    | i + 1, hi => absurd hi (by omega)
theorem k109 : CalleeOk Try.prog 109 c109 := callee_mk Try.func109 (code := codeOf Try.f109) (by kernel_rfl) vL109 mixed o109 fun x y h => (e109 x).trans (p109 _ x.1 x.2 y h)

/-- spec.ConePlan -/
def EL62 : Nat → Option Callee := addE 95 c95 (addE 109 c109 (addE 108 c108 (addE 93 c93 (addE 66 c66 env0))))
theorem vL62 : EnvOk Try.prog EL62 := ((((EnvOk.nil.add Try.func66 rfl (by kernel_rfl) k66).add Try.func93 rfl (by kernel_rfl) k93).add Try.func108 rfl (by kernel_rfl) k108).add Try.func109 rfl (by kernel_rfl) k109).add Try.func95 rfl (by kernel_rfl) k95
def sspec_ConePlan_l2 : LS := ⟨[(1, .one (.fix (.ptr 0 0))), (2, .one (.fix (.ptr 1 0))), (4, .one (.fix (.ptr 2 0))), (5, .one (.dat (.int .i64))), (6, .one (.fix (.sref 4))), (7, .one (.dat (.int .i64))), (27, .one (.dat (.int .i64))), (28, .one (.dat (.int .i64)))], [.box [.dat (.slice (.slice (.int .i64))), .dat (.slice (.int .i64)), .dat (.slice (.int .i64)), .dat (.int .i64), .dat (.int .i64), .dat (.int .i64), .dat (.int .i64), .dat (.int .i64)], .box [.dat (.int .i64), .fix .nils], .box [.dat (.int .i64), .fix (.sref 3)], .sl (.int .i64), .sl (.int .i64)], []⟩
def sspec_ConePlan_l2x0 : LS := ⟨[(1, .one (.fix (.ptr 0 0))), (2, .one (.fix (.ptr 1 0))), (4, .one (.fix (.ptr 2 0))), (5, .one (.dat (.int .i64))), (6, .one (.fix (.sref 4)))], [.box [.dat (.slice (.slice (.int .i64))), .dat (.slice (.int .i64)), .dat (.slice (.int .i64)), .dat (.int .i64), .dat (.int .i64), .dat (.int .i64), .dat (.int .i64), .dat (.int .i64)], .box [.dat (.int .i64), .fix .nils], .box [.dat (.int .i64), .fix (.sref 3)], .sl (.int .i64), .sl (.int .i64)], []⟩
def xspec_ConePlan_l2 : List (XS (Int × Int × (List (List Int)) × (List Int) × (List Int) × Int × Int × Int × Int × Int × Int × Int × (List Int))) := [⟨.exit 4, ⟨[1, 2, 4, 5, 6], [.slot 1, .slot 2, .slot 4, .cell 4 1, .slot 6], [], []⟩, sspec_ConePlan_l2x0, List Int, fun i y => (((), ((), ((), (i.1, ((), ()))))), ((i.2.2.1, (i.2.2.2.1, (i.2.2.2.2.1, (i.2.2.2.2.2.1, (i.2.2.2.2.2.2.1, (i.2.2.2.2.2.2.2.1, (i.2.2.2.2.2.2.2.2.1, (i.2.2.2.2.2.2.2.2.2.1, ())))))))), ((i.2.2.2.2.2.2.2.2.2.2.1, ((), ())), ((i.2.2.2.2.2.2.2.2.2.2.2.1, ((), ())), (i.2.2.2.2.2.2.2.2.2.2.2.2, (y, ()))))))⟩]
def spec_ConePlan_l2K {R : Type} (a0 : Int) (a2 : Int) (a4 : List (List Int)) (a5 : List Int) (a6 : List Int) (a7 : Int) (a8 : Int) (a9 : Int) (a10 : Int) (a11 : Int) (a13 : Int) (a14 : List Int) (rc : Int → Int → List Int → Option R) (fin : List Int → Option R) (a1 : Int) (a3 : Int) (a15 : List Int) : Option R :=
  cond (decide (a3 < a2))
  (cond (decide ((0 : Int) ≤ a3) && decide (a3 < (a14.length : Int)))
    (cond (decide ((a14.getD (0 + a3.toNat) 0) ≥ 0))
      (rc a1 (IntKind.i64.wrap (a3 + 1)) a15)
      ((spec_wiCone (a4, (a5, (a6, ((a7, (a8, ())), (a9, (a10, (a11, ()))))))) (a13, (a14, ())) a3).bind fun y1 =>
        (spec_vaSum a6 y1).bind fun y2 =>
        cond (decide (y2 > a1))
        ((spec_wiRoom (a4, (a5, (a6, ((a7, (a8, ())), (a9, (a10, (a11, ()))))))) (a13, (a14, ())) a0 y1).bind fun y3 =>
          cond (y3)
          (rc y2 (IntKind.i64.wrap (a3 + 1)) y1)
          (rc a1 (IntKind.i64.wrap (a3 + 1)) a15))
        (rc a1 (IntKind.i64.wrap (a3 + 1)) a15)))
    (none))
  (fin a15)
def spec_ConePlan_l2F (a0 : Int) (a2 : Int) (a4 : List (List Int)) (a5 : List Int) (a6 : List Int) (a7 : Int) (a8 : Int) (a9 : Int) (a10 : Int) (a11 : Int) (a13 : Int) (a14 : List Int) (r : (Int × Int × (List Int)) → Option (List Int)) (x : Int × Int × (List Int)) : Option (List Int) := spec_ConePlan_l2K a0 a2 a4 a5 a6 a7 a8 a9 a10 a11 a13 a14 (fun a1 a3 a15 => r (a1, (a3, a15))) some x.1 x.2.1 x.2.2
theorem spec_ConePlan_l2c (a0 : Int) (a2 : Int) (a4 : List (List Int)) (a5 : List Int) (a6 : List Int) (a7 : Int) (a8 : Int) (a9 : Int) (a10 : Int) (a11 : Int) (a13 : Int) (a14 : List Int) (x : Int × Int × (List Int)) : Ct fun r => spec_ConePlan_l2F a0 a2 a4 a5 a6 a7 a8 a9 a10 a11 a13 a14 r x := by
  unfold spec_ConePlan_l2F spec_ConePlan_l2K
  repeat' (first | exact Ct.const | exact Ct.call | refine Ct.cond ?_ ?_ | refine Ct.bind ?_ fun _ => ?_ | refine Ct.sum (fun _ => ?_) fun _ => ?_)
def spec_ConePlan_l2 (a0 : Int) (a2 : Int) (a4 : List (List Int)) (a5 : List Int) (a6 : List Int) (a7 : Int) (a8 : Int) (a9 : Int) (a10 : Int) (a11 : Int) (a13 : Int) (a14 : List Int) (a1 : Int) (a3 : Int) (a15 : List Int) : Option (List Int) := lim (spec_ConePlan_l2F a0 a2 a4 a5 a6 a7 a8 a9 a10 a11 a13 a14) (a1, (a3, a15))
theorem spec_ConePlan_l2_eq (a0 : Int) (a2 : Int) (a4 : List (List Int)) (a5 : List Int) (a6 : List Int) (a7 : Int) (a8 : Int) (a9 : Int) (a10 : Int) (a11 : Int) (a13 : Int) (a14 : List Int) (a1 : Int) (a3 : Int) (a15 : List Int) : spec_ConePlan_l2 a0 a2 a4 a5 a6 a7 a8 a9 a10 a11 a13 a14 a1 a3 a15 = spec_ConePlan_l2K a0 a2 a4 a5 a6 a7 a8 a9 a10 a11 a13 a14 (spec_ConePlan_l2 a0 a2 a4 a5 a6 a7 a8 a9 a10 a11 a13 a14) some a1 a3 a15 := lim_eq (spec_ConePlan_l2c a0 a2 a4 a5 a6 a7 a8 a9 a10 a11 a13 a14) (a1, (a3, a15))
theorem spec_ConePlan_l2p {R : Type} (a0 : Int) (a2 : Int) (a4 : List (List Int)) (a5 : List Int) (a6 : List Int) (a7 : Int) (a8 : Int) (a9 : Int) (a10 : Int) (a11 : Int) (a13 : Int) (a14 : List Int) {rc : Int → Int → List Int → Option (List Int)} {rc' : Int → Int → List Int → Option R} {fin : List Int → Option R} (hr : ∀ a1 a3 a15, Par fin (rc a1 a3 a15) (rc' a1 a3 a15)) (a1 : Int) (a3 : Int) (a15 : List Int) : Par fin (spec_ConePlan_l2K a0 a2 a4 a5 a6 a7 a8 a9 a10 a11 a13 a14 rc some a1 a3 a15) (spec_ConePlan_l2K a0 a2 a4 a5 a6 a7 a8 a9 a10 a11 a13 a14 rc' fin a1 a3 a15) := by
  unfold spec_ConePlan_l2K
  repeat' (first | exact .fin | exact .none | exact hr _ _ _ | refine .cond ?_ ?_ | refine .bind fun _ => ?_ | refine .sum (fun _ => ?_) fun _ => ?_)
def Lspec_ConePlan_l2 : Loop := mkL ⟨[1, 2, 4, 5, 6, 7, 27, 28], [.slot 1, .slot 2, .slot 4, .cell 4 1, .slot 6], [], [.own (.slot 6) (.int .i64)]⟩ sspec_ConePlan_l2 xspec_ConePlan_l2 (fun (x : (Unit × Unit × Unit × Int × Unit × Int × Int × Int × Unit) × (((List (List Int)) × (List Int) × (List Int) × Int × Int × Int × Int × Int × Unit) × (Int × Unit × Unit) × (Int × Unit × Unit) × (List Int) × (List Int) × Unit)) => (x.1.2.2.2.1, (x.1.2.2.2.2.2.2.1, (x.2.1.1, (x.2.1.2.1, (x.2.1.2.2.1, (x.2.1.2.2.2.1, (x.2.1.2.2.2.2.1, (x.2.1.2.2.2.2.2.1, (x.2.1.2.2.2.2.2.2.1, (x.2.1.2.2.2.2.2.2.2.1, (x.2.2.1.1, (x.2.2.2.1.1, x.2.2.2.2.1))))))))))))) fun (x : (Unit × Unit × Unit × Int × Unit × Int × Int × Int × Unit) × (((List (List Int)) × (List Int) × (List Int) × Int × Int × Int × Int × Int × Unit) × (Int × Unit × Unit) × (Int × Unit × Unit) × (List Int) × (List Int) × Unit)) => spec_ConePlan_l2 x.1.2.2.2.1 x.1.2.2.2.2.2.2.1 x.2.1.1 x.2.1.2.1 x.2.1.2.2.1 x.2.1.2.2.2.1 x.2.1.2.2.2.2.1 x.2.1.2.2.2.2.2.1 x.2.1.2.2.2.2.2.2.1 x.2.1.2.2.2.2.2.2.2.1 x.2.2.2.1.1 x.2.2.2.2.1 x.1.2.2.2.2.2.1 x.1.2.2.2.2.2.2.2.1 x.2.2.2.2.2.1
def sspec_ConePlan_l3 : LS := ⟨[(1, .one (.fix (.ptr 0 0))), (2, .one (.fix (.ptr 1 0))), (4, .one (.fix (.ptr 2 0))), (5, .one (.dat (.int .i64))), (61, .one (.fix (.sref 4))), (62, .one (.dat (.int .i64))), (63, .one (.dat (.int .i64)))], [.box [.dat (.slice (.slice (.int .i64))), .dat (.slice (.int .i64)), .dat (.slice (.int .i64)), .dat (.int .i64), .dat (.int .i64), .dat (.int .i64), .dat (.int .i64), .dat (.int .i64)], .box [.dat (.int .i64), .fix .nils], .box [.dat (.int .i64), .fix (.sref 3)], .sl (.int .i64), .sl (.int .i64)], []⟩
def sspec_ConePlan_l3x0 : LS := ⟨[(1, .one (.fix (.ptr 0 0))), (2, .one (.fix (.ptr 1 0))), (4, .one (.fix (.ptr 2 0))), (5, .one (.dat (.int .i64)))], [.box [.dat (.slice (.slice (.int .i64))), .dat (.slice (.int .i64)), .dat (.slice (.int .i64)), .dat (.int .i64), .dat (.int .i64), .dat (.int .i64), .dat (.int .i64), .dat (.int .i64)], .box [.dat (.int .i64), .fix .nils], .box [.dat (.int .i64), .fix (.sref 3)], .sl (.int .i64)], []⟩
def xspec_ConePlan_l3 : List (XS (Int × Int × (List (List Int)) × (List Int) × (List Int) × Int × Int × Int × Int × Int × Int × Int × (List Int))) := [⟨.exit 6, ⟨[1, 2, 4, 5], [.slot 1, .slot 2, .slot 4, .cell 4 1], [], []⟩, sspec_ConePlan_l3x0, List Int, fun i y => (((), ((), ((), (i.1, ())))), ((i.2.2.1, (i.2.2.2.1, (i.2.2.2.2.1, (i.2.2.2.2.2.1, (i.2.2.2.2.2.2.1, (i.2.2.2.2.2.2.2.1, (i.2.2.2.2.2.2.2.2.1, (i.2.2.2.2.2.2.2.2.2.1, ())))))))), ((i.2.2.2.2.2.2.2.2.2.2.1, ((), ())), ((i.2.2.2.2.2.2.2.2.2.2.2.1, ((), ())), (y, ())))))⟩]
def spec_ConePlan_l3K {R : Type} (a0 : Int) (a1 : Int) (a14 : List Int) (rc : Int → List Int → Option R) (fin : List Int → Option R) (a2 : Int) (a13 : List Int) : Option R :=
  cond (decide (a2 < a1))
  (cond (decide ((0 : Int) ≤ a2) && decide (a2 < (a14.length : Int)))
    (cond (decide ((0 : Int) ≤ a14.getD (0 + a2.toNat) 0) && decide (a14.getD (0 + a2.toNat) 0 < (a13.length : Int)))
      ((some (a13.set (0 + (a14.getD (0 + a2.toNat) 0).toNat) a0)).bind fun v1 =>
        rc (IntKind.i64.wrap (a2 + 1)) v1)
      (none))
    (none))
  (fin a13)
def spec_ConePlan_l3F (a0 : Int) (a1 : Int) (a14 : List Int) (r : (Int × (List Int)) → Option (List Int)) (x : Int × (List Int)) : Option (List Int) := spec_ConePlan_l3K a0 a1 a14 (fun a2 a13 => r (a2, a13)) some x.1 x.2
theorem spec_ConePlan_l3c (a0 : Int) (a1 : Int) (a14 : List Int) (x : Int × (List Int)) : Ct fun r => spec_ConePlan_l3F a0 a1 a14 r x := by
  unfold spec_ConePlan_l3F spec_ConePlan_l3K
  repeat' (first | exact Ct.const | exact Ct.call | refine Ct.cond ?_ ?_ | refine Ct.bind ?_ fun _ => ?_ | refine Ct.sum (fun _ => ?_) fun _ => ?_)
def spec_ConePlan_l3 (a0 : Int) (a1 : Int) (a14 : List Int) (a2 : Int) (a13 : List Int) : Option (List Int) := lim (spec_ConePlan_l3F a0 a1 a14) (a2, a13)
theorem spec_ConePlan_l3_eq (a0 : Int) (a1 : Int) (a14 : List Int) (a2 : Int) (a13 : List Int) : spec_ConePlan_l3 a0 a1 a14 a2 a13 = spec_ConePlan_l3K a0 a1 a14 (spec_ConePlan_l3 a0 a1 a14) some a2 a13 := lim_eq (spec_ConePlan_l3c a0 a1 a14) (a2, a13)
theorem spec_ConePlan_l3p {R : Type} (a0 : Int) (a1 : Int) (a14 : List Int) {rc : Int → List Int → Option (List Int)} {rc' : Int → List Int → Option R} {fin : List Int → Option R} (hr : ∀ a2 a13, Par fin (rc a2 a13) (rc' a2 a13)) (a2 : Int) (a13 : List Int) : Par fin (spec_ConePlan_l3K a0 a1 a14 rc some a2 a13) (spec_ConePlan_l3K a0 a1 a14 rc' fin a2 a13) := by
  unfold spec_ConePlan_l3K
  repeat' (first | exact .fin | exact .none | exact hr _ _ | refine .cond ?_ ?_ | refine .bind fun _ => ?_ | refine .sum (fun _ => ?_) fun _ => ?_)
def Lspec_ConePlan_l3 : Loop := mkL ⟨[1, 2, 4, 5, 61, 62, 63], [.slot 1, .slot 2, .slot 4, .cell 4 1, .slot 61], [], []⟩ sspec_ConePlan_l3 xspec_ConePlan_l3 (fun (x : (Unit × Unit × Unit × Int × Unit × Int × Int × Unit) × (((List (List Int)) × (List Int) × (List Int) × Int × Int × Int × Int × Int × Unit) × (Int × Unit × Unit) × (Int × Unit × Unit) × (List Int) × (List Int) × Unit)) => (x.1.2.2.2.1, (x.1.2.2.2.2.2.1, (x.2.1.1, (x.2.1.2.1, (x.2.1.2.2.1, (x.2.1.2.2.2.1, (x.2.1.2.2.2.2.1, (x.2.1.2.2.2.2.2.1, (x.2.1.2.2.2.2.2.2.1, (x.2.1.2.2.2.2.2.2.2.1, (x.2.2.1.1, (x.2.2.2.1.1, x.2.2.2.2.2.1))))))))))))) fun (x : (Unit × Unit × Unit × Int × Unit × Int × Int × Unit) × (((List (List Int)) × (List Int) × (List Int) × Int × Int × Int × Int × Int × Unit) × (Int × Unit × Unit) × (Int × Unit × Unit) × (List Int) × (List Int) × Unit)) => spec_ConePlan_l3 x.1.2.2.2.1 x.1.2.2.2.2.2.1 x.2.2.2.2.2.1 x.1.2.2.2.2.2.2.1 x.2.2.2.2.1
def sspec_ConePlan_l1 : LS := ⟨[(1, .one (.fix (.ptr 0 0))), (2, .one (.fix (.ptr 1 0))), (4, .one (.fix (.ptr 2 0))), (5, .one (.dat (.int .i64)))], [.box [.dat (.slice (.slice (.int .i64))), .dat (.slice (.int .i64)), .dat (.slice (.int .i64)), .dat (.int .i64), .dat (.int .i64), .dat (.int .i64), .dat (.int .i64), .dat (.int .i64)], .box [.dat (.int .i64), .fix .nils], .box [.dat (.int .i64), .fix (.sref 3)], .sl (.int .i64)], []⟩
def sspec_ConePlan_l1x0 : LS := ⟨[(1, .one (.fix (.ptr 0 0))), (2, .one (.fix (.ptr 1 0))), (4, .one (.fix (.ptr 2 0))), (5, .one (.dat (.int .i64)))], [.box [.dat (.slice (.slice (.int .i64))), .dat (.slice (.int .i64)), .dat (.slice (.int .i64)), .dat (.int .i64), .dat (.int .i64), .dat (.int .i64), .dat (.int .i64), .dat (.int .i64)], .box [.dat (.int .i64), .fix .nils], .box [.dat (.int .i64), .fix (.sref 3)], .sl (.int .i64)], []⟩
def xspec_ConePlan_l1 : List (XS (Int × (List (List Int)) × (List Int) × (List Int) × Int × Int × Int × Int × Int × Int × Int)) := [⟨.exit 2, ⟨[1, 2, 4, 5], [.slot 1, .slot 2, .slot 4, .cell 4 1], [], []⟩, sspec_ConePlan_l1x0, List Int, fun i y => (((), ((), ((), (i.1, ())))), ((i.2.1, (i.2.2.1, (i.2.2.2.1, (i.2.2.2.2.1, (i.2.2.2.2.2.1, (i.2.2.2.2.2.2.1, (i.2.2.2.2.2.2.2.1, (i.2.2.2.2.2.2.2.2.1, ())))))))), ((i.2.2.2.2.2.2.2.2.2.1, ((), ())), ((i.2.2.2.2.2.2.2.2.2.2, ((), ())), (y, ())))))⟩]
def spec_ConePlan_l1K {R : Type} (a0 : Int) (a1 : List (List Int)) (a2 : List Int) (a3 : List Int) (a4 : Int) (a5 : Int) (a6 : Int) (a7 : Int) (a8 : Int) (a10 : Int) (rc : List Int → Option R) (fin : List Int → Option R) (a11 : List Int) : Option R :=
  (spec_ConePlan_l2 a0 (a3.length : Int) a1 a2 a3 a4 a5 a6 a7 a8 a10 a11 0 0 []).bind fun y7 =>
  cond ((y7.length : Int) == 0)
  (fin a11)
  ((spec_ConePlan_l3 a0 (y7.length : Int) y7 0 a11).bind fun y9 =>
    rc y9)
def spec_ConePlan_l1F (a0 : Int) (a1 : List (List Int)) (a2 : List Int) (a3 : List Int) (a4 : Int) (a5 : Int) (a6 : Int) (a7 : Int) (a8 : Int) (a10 : Int) (r : List Int → Option (List Int)) (x : List Int) : Option (List Int) := spec_ConePlan_l1K a0 a1 a2 a3 a4 a5 a6 a7 a8 a10 (fun a11 => r a11) some x
theorem spec_ConePlan_l1c (a0 : Int) (a1 : List (List Int)) (a2 : List Int) (a3 : List Int) (a4 : Int) (a5 : Int) (a6 : Int) (a7 : Int) (a8 : Int) (a10 : Int) (x : List Int) : Ct fun r => spec_ConePlan_l1F a0 a1 a2 a3 a4 a5 a6 a7 a8 a10 r x := by
  unfold spec_ConePlan_l1F spec_ConePlan_l1K
  repeat' (first | exact Ct.const | exact Ct.call | refine Ct.cond ?_ ?_ | refine Ct.bind ?_ fun _ => ?_ | refine Ct.sum (fun _ => ?_) fun _ => ?_)
def spec_ConePlan_l1 (a0 : Int) (a1 : List (List Int)) (a2 : List Int) (a3 : List Int) (a4 : Int) (a5 : Int) (a6 : Int) (a7 : Int) (a8 : Int) (a10 : Int) (a11 : List Int) : Option (List Int) := lim (spec_ConePlan_l1F a0 a1 a2 a3 a4 a5 a6 a7 a8 a10) a11
theorem spec_ConePlan_l1_eq (a0 : Int) (a1 : List (List Int)) (a2 : List Int) (a3 : List Int) (a4 : Int) (a5 : Int) (a6 : Int) (a7 : Int) (a8 : Int) (a10 : Int) (a11 : List Int) : spec_ConePlan_l1 a0 a1 a2 a3 a4 a5 a6 a7 a8 a10 a11 = spec_ConePlan_l1K a0 a1 a2 a3 a4 a5 a6 a7 a8 a10 (spec_ConePlan_l1 a0 a1 a2 a3 a4 a5 a6 a7 a8 a10) some a11 := lim_eq (spec_ConePlan_l1c a0 a1 a2 a3 a4 a5 a6 a7 a8 a10) a11
theorem spec_ConePlan_l1p {R : Type} (a0 : Int) (a1 : List (List Int)) (a2 : List Int) (a3 : List Int) (a4 : Int) (a5 : Int) (a6 : Int) (a7 : Int) (a8 : Int) (a10 : Int) {rc : List Int → Option (List Int)} {rc' : List Int → Option R} {fin : List Int → Option R} (hr : ∀ a11, Par fin (rc a11) (rc' a11)) (a11 : List Int) : Par fin (spec_ConePlan_l1K a0 a1 a2 a3 a4 a5 a6 a7 a8 a10 rc some a11) (spec_ConePlan_l1K a0 a1 a2 a3 a4 a5 a6 a7 a8 a10 rc' fin a11) := by
  unfold spec_ConePlan_l1K
  repeat' (first | exact .fin | exact .none | exact hr _ | refine .cond ?_ ?_ | refine .bind fun _ => ?_ | refine .sum (fun _ => ?_) fun _ => ?_)
def Lspec_ConePlan_l1 : Loop := mkL ⟨[1, 2, 4, 5], [.slot 1, .slot 2, .slot 4, .cell 4 1], [], []⟩ sspec_ConePlan_l1 xspec_ConePlan_l1 (fun (x : (Unit × Unit × Unit × Int × Unit) × (((List (List Int)) × (List Int) × (List Int) × Int × Int × Int × Int × Int × Unit) × (Int × Unit × Unit) × (Int × Unit × Unit) × (List Int) × Unit)) => (x.1.2.2.2.1, (x.2.1.1, (x.2.1.2.1, (x.2.1.2.2.1, (x.2.1.2.2.2.1, (x.2.1.2.2.2.2.1, (x.2.1.2.2.2.2.2.1, (x.2.1.2.2.2.2.2.2.1, (x.2.1.2.2.2.2.2.2.2.1, (x.2.2.1.1, x.2.2.2.1.1))))))))))) fun (x : (Unit × Unit × Unit × Int × Unit) × (((List (List Int)) × (List Int) × (List Int) × Int × Int × Int × Int × Int × Unit) × (Int × Unit × Unit) × (Int × Unit × Unit) × (List Int) × Unit)) => spec_ConePlan_l1 x.1.2.2.2.1 x.2.1.1 x.2.1.2.1 x.2.1.2.2.1 x.2.1.2.2.2.1 x.2.1.2.2.2.2.1 x.2.1.2.2.2.2.2.1 x.2.1.2.2.2.2.2.2.1 x.2.1.2.2.2.2.2.2.2.1 x.2.2.2.1.1 x.2.2.2.2.1
def sspec_ConePlan_l0 : LS := ⟨[(1, .one (.fix (.ptr 0 0))), (2, .one (.fix (.ptr 1 0))), (4, .one (.fix (.ptr 2 0))), (5, .one (.dat (.int .i64)))], [.box [.dat (.slice (.slice (.int .i64))), .dat (.slice (.int .i64)), .dat (.slice (.int .i64)), .dat (.int .i64), .dat (.int .i64), .dat (.int .i64), .dat (.int .i64), .dat (.int .i64)], .box [.dat (.int .i64), .fix .nils], .box [.dat (.int .i64), .fix (.sref 3)], .sl (.int .i64)], []⟩
def sspec_ConePlan_l0x0 : LS := ⟨[(2, .one (.fix (.ptr 0 0))), (4, .one (.fix (.ptr 1 0)))], [.box [.dat (.int .i64), .fix .nils], .box [.dat (.int .i64), .fix (.sref 2)], .sl (.int .i64)], []⟩
def xspec_ConePlan_l0 : List (XS ((List (List Int)) × (List Int) × (List Int) × Int × Int × Int × Int × Int × Int × Int)) := [⟨.exit 0, ⟨[2, 4], [.slot 2, .slot 4, .cell 4 1], [], []⟩, sspec_ConePlan_l0x0, List Int, fun i y => (((), ((), ())), ((i.2.2.2.2.2.2.2.2.1, ((), ())), ((i.2.2.2.2.2.2.2.2.2, ((), ())), (y, ()))))⟩]
def spec_ConePlan_l0K {R : Type} (a1 : List (List Int)) (a2 : List Int) (a3 : List Int) (a4 : Int) (a5 : Int) (a6 : Int) (a7 : Int) (a8 : Int) (a10 : Int) (rc : Int → List Int → Option R) (fin : List Int → Option R) (a0 : Int) (a11 : List Int) : Option R :=
  cond (decide (a0 < a6))
  ((spec_ConePlan_l1 a0 a1 a2 a3 a4 a5 a6 a7 a8 a10 a11).bind fun y10 =>
    rc (IntKind.i64.wrap (a0 + 1)) y10)
  (fin a11)
def spec_ConePlan_l0F (a1 : List (List Int)) (a2 : List Int) (a3 : List Int) (a4 : Int) (a5 : Int) (a6 : Int) (a7 : Int) (a8 : Int) (a10 : Int) (r : (Int × (List Int)) → Option (List Int)) (x : Int × (List Int)) : Option (List Int) := spec_ConePlan_l0K a1 a2 a3 a4 a5 a6 a7 a8 a10 (fun a0 a11 => r (a0, a11)) some x.1 x.2
theorem spec_ConePlan_l0c (a1 : List (List Int)) (a2 : List Int) (a3 : List Int) (a4 : Int) (a5 : Int) (a6 : Int) (a7 : Int) (a8 : Int) (a10 : Int) (x : Int × (List Int)) : Ct fun r => spec_ConePlan_l0F a1 a2 a3 a4 a5 a6 a7 a8 a10 r x := by
  unfold spec_ConePlan_l0F spec_ConePlan_l0K
  repeat' (first | exact Ct.const | exact Ct.call | refine Ct.cond ?_ ?_ | refine Ct.bind ?_ fun _ => ?_ | refine Ct.sum (fun _ => ?_) fun _ => ?_)
def spec_ConePlan_l0 (a1 : List (List Int)) (a2 : List Int) (a3 : List Int) (a4 : Int) (a5 : Int) (a6 : Int) (a7 : Int) (a8 : Int) (a10 : Int) (a0 : Int) (a11 : List Int) : Option (List Int) := lim (spec_ConePlan_l0F a1 a2 a3 a4 a5 a6 a7 a8 a10) (a0, a11)
theorem spec_ConePlan_l0_eq (a1 : List (List Int)) (a2 : List Int) (a3 : List Int) (a4 : Int) (a5 : Int) (a6 : Int) (a7 : Int) (a8 : Int) (a10 : Int) (a0 : Int) (a11 : List Int) : spec_ConePlan_l0 a1 a2 a3 a4 a5 a6 a7 a8 a10 a0 a11 = spec_ConePlan_l0K a1 a2 a3 a4 a5 a6 a7 a8 a10 (spec_ConePlan_l0 a1 a2 a3 a4 a5 a6 a7 a8 a10) some a0 a11 := lim_eq (spec_ConePlan_l0c a1 a2 a3 a4 a5 a6 a7 a8 a10) (a0, a11)
theorem spec_ConePlan_l0p {R : Type} (a1 : List (List Int)) (a2 : List Int) (a3 : List Int) (a4 : Int) (a5 : Int) (a6 : Int) (a7 : Int) (a8 : Int) (a10 : Int) {rc : Int → List Int → Option (List Int)} {rc' : Int → List Int → Option R} {fin : List Int → Option R} (hr : ∀ a0 a11, Par fin (rc a0 a11) (rc' a0 a11)) (a0 : Int) (a11 : List Int) : Par fin (spec_ConePlan_l0K a1 a2 a3 a4 a5 a6 a7 a8 a10 rc some a0 a11) (spec_ConePlan_l0K a1 a2 a3 a4 a5 a6 a7 a8 a10 rc' fin a0 a11) := by
  unfold spec_ConePlan_l0K
  repeat' (first | exact .fin | exact .none | exact hr _ _ | refine .cond ?_ ?_ | refine .bind fun _ => ?_ | refine .sum (fun _ => ?_) fun _ => ?_)
def Lspec_ConePlan_l0 : Loop := mkL ⟨[1, 2, 4, 5], [.slot 1, .slot 2, .slot 4, .cell 4 1], [], []⟩ sspec_ConePlan_l0 xspec_ConePlan_l0 (fun (x : (Unit × Unit × Unit × Int × Unit) × (((List (List Int)) × (List Int) × (List Int) × Int × Int × Int × Int × Int × Unit) × (Int × Unit × Unit) × (Int × Unit × Unit) × (List Int) × Unit)) => (x.2.1.1, (x.2.1.2.1, (x.2.1.2.2.1, (x.2.1.2.2.2.1, (x.2.1.2.2.2.2.1, (x.2.1.2.2.2.2.2.1, (x.2.1.2.2.2.2.2.2.1, (x.2.1.2.2.2.2.2.2.2.1, (x.2.2.1.1, x.2.2.2.1.1)))))))))) fun (x : (Unit × Unit × Unit × Int × Unit) × (((List (List Int)) × (List Int) × (List Int) × Int × Int × Int × Int × Int × Unit) × (Int × Unit × Unit) × (Int × Unit × Unit) × (List Int) × Unit)) => spec_ConePlan_l0 x.2.1.1 x.2.1.2.1 x.2.1.2.2.1 x.2.1.2.2.2.1 x.2.1.2.2.2.2.1 x.2.1.2.2.2.2.2.1 x.2.1.2.2.2.2.2.2.1 x.2.1.2.2.2.2.2.2.2.1 x.2.2.2.1.1 x.1.2.2.2.1 x.2.2.2.2.1
def spec_ConePlanK {R : Type} (fin : (Int × (List Int)) × Bool → Option R) (x0 : DJob) : Option R :=
  (spec_plJob x0).bind fun y1 =>
  cond (!y1)
  (fin ((0, []), false))
  ((spec_wiEmpty x0).bind fun y2 =>
    (spec_ConePlan_l0 x0.1 x0.2.1 x0.2.2.1 x0.2.2.2.1.1 x0.2.2.2.1.2.1 x0.2.2.2.2.1 x0.2.2.2.2.2.1 x0.2.2.2.2.2.2.1 y2.1 0 y2.2).bind fun y13 =>
    fin ((y2.1, y13), true))
def spec_ConePlan (x0 : DJob) : Option ((Int × (List Int)) × Bool) := spec_ConePlanK some x0
theorem p62 {R : Type} (fin : (Int × (List Int)) × Bool → Option R) (x0 : DJob) : Par fin (spec_ConePlanK some x0) (spec_ConePlanK fin x0) := by
  unfold spec_ConePlanK
  repeat' (first | exact .fin | exact .none | refine .cond ?_ ?_ | refine .bind fun _ => ?_ | refine .sum (fun _ => ?_) fun _ => ?_)
def or62 : Ora := { lo := addL 5 (Lspec_ConePlan_l0) (addL 7 (Lspec_ConePlan_l1) (addL 21 (Lspec_ConePlan_l3) (addL 10 (Lspec_ConePlan_l2) lo0))), fin := [.own (.cell 2 1) (.int .i64)] }
theorem spec_ConePlan_l2e (a0 : Int) (a2 : Int) (a4 : List (List Int)) (a5 : List Int) (a6 : List Int) (a7 : Int) (a8 : Int) (a9 : Int) (a10 : Int) (a11 : Int) (a12 : Int) (a13 : Int) (a14 : List Int) (k : Nat) (a1 : Int) (a3 : Int) (a15 : List Int) : loopC Try.prog EL62 or62 ((loopsIn (codeOf Try.f62)).getD 2 .skip) (Lspec_ConePlan_l2).h (Lspec_ConePlan_l2).ho Try.f62.ntmps (k + 1) (sspec_ConePlan_l2.out (((), ((), ((), (a0, ((), (a1, (a2, (a3, ())))))))), ((a4, (a5, (a6, (a7, (a8, (a9, (a10, (a11, ())))))))), ((a12, ((), ())), ((a13, ((), ())), (a14, (a15, ()))))))) =
    spec_ConePlan_l2K a0 a2 a4 a5 a6 a7 a8 a9 a10 a11 a13 a14 (fun a1 a3 a15 => loopC Try.prog EL62 or62 ((loopsIn (codeOf Try.f62)).getD 2 .skip) (Lspec_ConePlan_l2).h (Lspec_ConePlan_l2).ho Try.f62.ntmps k (sspec_ConePlan_l2.out (((), ((), ((), (a0, ((), (a1, (a2, (a3, ())))))))), ((a4, (a5, (a6, (a7, (a8, (a9, (a10, (a11, ())))))))), ((a12, ((), ())), ((a13, ((), ())), (a14, (a15, ())))))))) (fun y => some (XS.out xspec_ConePlan_l2 (a0, (a2, (a4, (a5, (a6, (a7, (a8, (a9, (a10, (a11, (a12, (a13, a14)))))))))))) y)) a1 a3 a15 := by kernel_rfl
theorem spec_ConePlan_l2o : LoopOk Try.prog EL62 or62 Try.f62.ntmps ((loopsIn (codeOf Try.f62)).getD 2 .skip) (Lspec_ConePlan_l2) :=
  loop_lim (hs := sspec_ConePlan_l2) (xs := xspec_ConePlan_l2) (ι := fun (x : (Unit × Unit × Unit × Int × Unit × Int × Int × Int × Unit) × (((List (List Int)) × (List Int) × (List Int) × Int × Int × Int × Int × Int × Unit) × (Int × Unit × Unit) × (Int × Unit × Unit) × (List Int) × (List Int) × Unit)) => (x.1.2.2.2.1, (x.1.2.2.2.2.2.2.1, (x.2.1.1, (x.2.1.2.1, (x.2.1.2.2.1, (x.2.1.2.2.2.1, (x.2.1.2.2.2.2.1, (x.2.1.2.2.2.2.2.1, (x.2.1.2.2.2.2.2.2.1, (x.2.1.2.2.2.2.2.2.2.1, (x.2.2.1.1, (x.2.2.2.1.1, x.2.2.2.2.1))))))))))))) (φ := fun (x : (Unit × Unit × Unit × Int × Unit × Int × Int × Int × Unit) × (((List (List Int)) × (List Int) × (List Int) × Int × Int × Int × Int × Int × Unit) × (Int × Unit × Unit) × (Int × Unit × Unit) × (List Int) × (List Int) × Unit)) => (x.1.2.2.2.2.2.1, (x.1.2.2.2.2.2.2.2.1, x.2.2.2.2.2.1))) (ψ := fun (i : Int × Int × (List (List Int)) × (List Int) × (List Int) × Int × Int × Int × Int × Int × Int × Int × (List Int)) (v : Int × Int × (List Int)) => (((), ((), ((), (i.1, ((), (v.1, (i.2.1, (v.2.1, ())))))))), ((i.2.2.1, (i.2.2.2.1, (i.2.2.2.2.1, (i.2.2.2.2.2.1, (i.2.2.2.2.2.2.1, (i.2.2.2.2.2.2.2.1, (i.2.2.2.2.2.2.2.2.1, (i.2.2.2.2.2.2.2.2.2.1, ())))))))), ((i.2.2.2.2.2.2.2.2.2.2.1, ((), ())), ((i.2.2.2.2.2.2.2.2.2.2.2.1, ((), ())), (i.2.2.2.2.2.2.2.2.2.2.2.2, (v.2.2, ()))))))) (F := fun (i : Int × Int × (List (List Int)) × (List Int) × (List Int) × Int × Int × Int × Int × Int × Int × Int × (List Int)) => spec_ConePlan_l2F i.1 i.2.1 i.2.2.1 i.2.2.2.1 i.2.2.2.2.1 i.2.2.2.2.2.1 i.2.2.2.2.2.2.1 i.2.2.2.2.2.2.2.1 i.2.2.2.2.2.2.2.2.1 i.2.2.2.2.2.2.2.2.2.1 i.2.2.2.2.2.2.2.2.2.2.2.1 i.2.2.2.2.2.2.2.2.2.2.2.2) (fun _ => rfl) fun i k hk v => Par.of_eq (spec_ConePlan_l2e i.1 i.2.1 i.2.2.1 i.2.2.2.1 i.2.2.2.2.1 i.2.2.2.2.2.1 i.2.2.2.2.2.2.1 i.2.2.2.2.2.2.2.1 i.2.2.2.2.2.2.2.2.1 i.2.2.2.2.2.2.2.2.2.1 i.2.2.2.2.2.2.2.2.2.2.1 i.2.2.2.2.2.2.2.2.2.2.2.1 i.2.2.2.2.2.2.2.2.2.2.2.2 k v.1 v.2.1 v.2.2) (spec_ConePlan_l2p i.1 i.2.1 i.2.2.1 i.2.2.2.1 i.2.2.2.2.1 i.2.2.2.2.2.1 i.2.2.2.2.2.2.1 i.2.2.2.2.2.2.2.1 i.2.2.2.2.2.2.2.2.1 i.2.2.2.2.2.2.2.2.2.1 i.2.2.2.2.2.2.2.2.2.2.2.1 i.2.2.2.2.2.2.2.2.2.2.2.2 (fun a1 a3 a15 => hk (a1, (a3, a15))) v.1 v.2.1 v.2.2)
theorem spec_ConePlan_l3e (a0 : Int) (a1 : Int) (a3 : List (List Int)) (a4 : List Int) (a5 : List Int) (a6 : Int) (a7 : Int) (a8 : Int) (a9 : Int) (a10 : Int) (a11 : Int) (a12 : Int) (a14 : List Int) (k : Nat) (a2 : Int) (a13 : List Int) : loopC Try.prog EL62 or62 ((loopsIn (codeOf Try.f62)).getD 3 .skip) (Lspec_ConePlan_l3).h (Lspec_ConePlan_l3).ho Try.f62.ntmps (k + 1) (sspec_ConePlan_l3.out (((), ((), ((), (a0, ((), (a1, (a2, ()))))))), ((a3, (a4, (a5, (a6, (a7, (a8, (a9, (a10, ())))))))), ((a11, ((), ())), ((a12, ((), ())), (a13, (a14, ()))))))) =
    spec_ConePlan_l3K a0 a1 a14 (fun a2 a13 => loopC Try.prog EL62 or62 ((loopsIn (codeOf Try.f62)).getD 3 .skip) (Lspec_ConePlan_l3).h (Lspec_ConePlan_l3).ho Try.f62.ntmps k (sspec_ConePlan_l3.out (((), ((), ((), (a0, ((), (a1, (a2, ()))))))), ((a3, (a4, (a5, (a6, (a7, (a8, (a9, (a10, ())))))))), ((a11, ((), ())), ((a12, ((), ())), (a13, (a14, ())))))))) (fun y => some (XS.out xspec_ConePlan_l3 (a0, (a1, (a3, (a4, (a5, (a6, (a7, (a8, (a9, (a10, (a11, (a12, a14)))))))))))) y)) a2 a13 := by kernel_rfl
theorem spec_ConePlan_l3o : LoopOk Try.prog EL62 or62 Try.f62.ntmps ((loopsIn (codeOf Try.f62)).getD 3 .skip) (Lspec_ConePlan_l3) :=
  loop_lim (hs := sspec_ConePlan_l3) (xs := xspec_ConePlan_l3) (ι := fun (x : (Unit × Unit × Unit × Int × Unit × Int × Int × Unit) × (((List (List Int)) × (List Int) × (List Int) × Int × Int × Int × Int × Int × Unit) × (Int × Unit × Unit) × (Int × Unit × Unit) × (List Int) × (List Int) × Unit)) => (x.1.2.2.2.1, (x.1.2.2.2.2.2.1, (x.2.1.1, (x.2.1.2.1, (x.2.1.2.2.1, (x.2.1.2.2.2.1, (x.2.1.2.2.2.2.1, (x.2.1.2.2.2.2.2.1, (x.2.1.2.2.2.2.2.2.1, (x.2.1.2.2.2.2.2.2.2.1, (x.2.2.1.1, (x.2.2.2.1.1, x.2.2.2.2.2.1))))))))))))) (φ := fun (x : (Unit × Unit × Unit × Int × Unit × Int × Int × Unit) × (((List (List Int)) × (List Int) × (List Int) × Int × Int × Int × Int × Int × Unit) × (Int × Unit × Unit) × (Int × Unit × Unit) × (List Int) × (List Int) × Unit)) => (x.1.2.2.2.2.2.2.1, x.2.2.2.2.1)) (ψ := fun (i : Int × Int × (List (List Int)) × (List Int) × (List Int) × Int × Int × Int × Int × Int × Int × Int × (List Int)) (v : Int × (List Int)) => (((), ((), ((), (i.1, ((), (i.2.1, (v.1, ()))))))), ((i.2.2.1, (i.2.2.2.1, (i.2.2.2.2.1, (i.2.2.2.2.2.1, (i.2.2.2.2.2.2.1, (i.2.2.2.2.2.2.2.1, (i.2.2.2.2.2.2.2.2.1, (i.2.2.2.2.2.2.2.2.2.1, ())))))))), ((i.2.2.2.2.2.2.2.2.2.2.1, ((), ())), ((i.2.2.2.2.2.2.2.2.2.2.2.1, ((), ())), (v.2, (i.2.2.2.2.2.2.2.2.2.2.2.2, ()))))))) (F := fun (i : Int × Int × (List (List Int)) × (List Int) × (List Int) × Int × Int × Int × Int × Int × Int × Int × (List Int)) => spec_ConePlan_l3F i.1 i.2.1 i.2.2.2.2.2.2.2.2.2.2.2.2) (fun _ => rfl) fun i k hk v => Par.of_eq (spec_ConePlan_l3e i.1 i.2.1 i.2.2.1 i.2.2.2.1 i.2.2.2.2.1 i.2.2.2.2.2.1 i.2.2.2.2.2.2.1 i.2.2.2.2.2.2.2.1 i.2.2.2.2.2.2.2.2.1 i.2.2.2.2.2.2.2.2.2.1 i.2.2.2.2.2.2.2.2.2.2.1 i.2.2.2.2.2.2.2.2.2.2.2.1 i.2.2.2.2.2.2.2.2.2.2.2.2 k v.1 v.2) (spec_ConePlan_l3p i.1 i.2.1 i.2.2.2.2.2.2.2.2.2.2.2.2 (fun a2 a13 => hk (a2, a13)) v.1 v.2)
theorem spec_ConePlan_l1e (a0 : Int) (a1 : List (List Int)) (a2 : List Int) (a3 : List Int) (a4 : Int) (a5 : Int) (a6 : Int) (a7 : Int) (a8 : Int) (a9 : Int) (a10 : Int) (k : Nat) (a11 : List Int) : loopC Try.prog EL62 or62 ((loopsIn (codeOf Try.f62)).getD 1 .skip) (Lspec_ConePlan_l1).h (Lspec_ConePlan_l1).ho Try.f62.ntmps (k + 1) (sspec_ConePlan_l1.out (((), ((), ((), (a0, ())))), ((a1, (a2, (a3, (a4, (a5, (a6, (a7, (a8, ())))))))), ((a9, ((), ())), ((a10, ((), ())), (a11, ())))))) =
    spec_ConePlan_l1K a0 a1 a2 a3 a4 a5 a6 a7 a8 a10 (fun a11 => loopC Try.prog EL62 or62 ((loopsIn (codeOf Try.f62)).getD 1 .skip) (Lspec_ConePlan_l1).h (Lspec_ConePlan_l1).ho Try.f62.ntmps k (sspec_ConePlan_l1.out (((), ((), ((), (a0, ())))), ((a1, (a2, (a3, (a4, (a5, (a6, (a7, (a8, ())))))))), ((a9, ((), ())), ((a10, ((), ())), (a11, ()))))))) (fun y => some (XS.out xspec_ConePlan_l1 (a0, (a1, (a2, (a3, (a4, (a5, (a6, (a7, (a8, (a9, a10)))))))))) y)) a11 := by kernel_rfl
theorem spec_ConePlan_l1o : LoopOk Try.prog EL62 or62 Try.f62.ntmps ((loopsIn (codeOf Try.f62)).getD 1 .skip) (Lspec_ConePlan_l1) :=
  loop_lim (hs := sspec_ConePlan_l1) (xs := xspec_ConePlan_l1) (ι := fun (x : (Unit × Unit × Unit × Int × Unit) × (((List (List Int)) × (List Int) × (List Int) × Int × Int × Int × Int × Int × Unit) × (Int × Unit × Unit) × (Int × Unit × Unit) × (List Int) × Unit)) => (x.1.2.2.2.1, (x.2.1.1, (x.2.1.2.1, (x.2.1.2.2.1, (x.2.1.2.2.2.1, (x.2.1.2.2.2.2.1, (x.2.1.2.2.2.2.2.1, (x.2.1.2.2.2.2.2.2.1, (x.2.1.2.2.2.2.2.2.2.1, (x.2.2.1.1, x.2.2.2.1.1))))))))))) (φ := fun (x : (Unit × Unit × Unit × Int × Unit) × (((List (List Int)) × (List Int) × (List Int) × Int × Int × Int × Int × Int × Unit) × (Int × Unit × Unit) × (Int × Unit × Unit) × (List Int) × Unit)) => x.2.2.2.2.1) (ψ := fun (i : Int × (List (List Int)) × (List Int) × (List Int) × Int × Int × Int × Int × Int × Int × Int) (v : List Int) => (((), ((), ((), (i.1, ())))), ((i.2.1, (i.2.2.1, (i.2.2.2.1, (i.2.2.2.2.1, (i.2.2.2.2.2.1, (i.2.2.2.2.2.2.1, (i.2.2.2.2.2.2.2.1, (i.2.2.2.2.2.2.2.2.1, ())))))))), ((i.2.2.2.2.2.2.2.2.2.1, ((), ())), ((i.2.2.2.2.2.2.2.2.2.2, ((), ())), (v, ())))))) (F := fun (i : Int × (List (List Int)) × (List Int) × (List Int) × Int × Int × Int × Int × Int × Int × Int) => spec_ConePlan_l1F i.1 i.2.1 i.2.2.1 i.2.2.2.1 i.2.2.2.2.1 i.2.2.2.2.2.1 i.2.2.2.2.2.2.1 i.2.2.2.2.2.2.2.1 i.2.2.2.2.2.2.2.2.1 i.2.2.2.2.2.2.2.2.2.2) (fun _ => rfl) fun i k hk v => Par.of_eq (spec_ConePlan_l1e i.1 i.2.1 i.2.2.1 i.2.2.2.1 i.2.2.2.2.1 i.2.2.2.2.2.1 i.2.2.2.2.2.2.1 i.2.2.2.2.2.2.2.1 i.2.2.2.2.2.2.2.2.1 i.2.2.2.2.2.2.2.2.2.1 i.2.2.2.2.2.2.2.2.2.2 k v) (spec_ConePlan_l1p i.1 i.2.1 i.2.2.1 i.2.2.2.1 i.2.2.2.2.1 i.2.2.2.2.2.1 i.2.2.2.2.2.2.1 i.2.2.2.2.2.2.2.1 i.2.2.2.2.2.2.2.2.1 i.2.2.2.2.2.2.2.2.2.2 (fun a11 => hk a11) v)
theorem spec_ConePlan_l0e (a1 : List (List Int)) (a2 : List Int) (a3 : List Int) (a4 : Int) (a5 : Int) (a6 : Int) (a7 : Int) (a8 : Int) (a9 : Int) (a10 : Int) (k : Nat) (a0 : Int) (a11 : List Int) : loopC Try.prog EL62 or62 ((loopsIn (codeOf Try.f62)).getD 0 .skip) (Lspec_ConePlan_l0).h (Lspec_ConePlan_l0).ho Try.f62.ntmps (k + 1) (sspec_ConePlan_l0.out (((), ((), ((), (a0, ())))), ((a1, (a2, (a3, (a4, (a5, (a6, (a7, (a8, ())))))))), ((a9, ((), ())), ((a10, ((), ())), (a11, ())))))) =
    spec_ConePlan_l0K a1 a2 a3 a4 a5 a6 a7 a8 a10 (fun a0 a11 => loopC Try.prog EL62 or62 ((loopsIn (codeOf Try.f62)).getD 0 .skip) (Lspec_ConePlan_l0).h (Lspec_ConePlan_l0).ho Try.f62.ntmps k (sspec_ConePlan_l0.out (((), ((), ((), (a0, ())))), ((a1, (a2, (a3, (a4, (a5, (a6, (a7, (a8, ())))))))), ((a9, ((), ())), ((a10, ((), ())), (a11, ()))))))) (fun y => some (XS.out xspec_ConePlan_l0 (a1, (a2, (a3, (a4, (a5, (a6, (a7, (a8, (a9, a10))))))))) y)) a0 a11 := by kernel_rfl
theorem spec_ConePlan_l0o : LoopOk Try.prog EL62 or62 Try.f62.ntmps ((loopsIn (codeOf Try.f62)).getD 0 .skip) (Lspec_ConePlan_l0) :=
  loop_lim (hs := sspec_ConePlan_l0) (xs := xspec_ConePlan_l0) (ι := fun (x : (Unit × Unit × Unit × Int × Unit) × (((List (List Int)) × (List Int) × (List Int) × Int × Int × Int × Int × Int × Unit) × (Int × Unit × Unit) × (Int × Unit × Unit) × (List Int) × Unit)) => (x.2.1.1, (x.2.1.2.1, (x.2.1.2.2.1, (x.2.1.2.2.2.1, (x.2.1.2.2.2.2.1, (x.2.1.2.2.2.2.2.1, (x.2.1.2.2.2.2.2.2.1, (x.2.1.2.2.2.2.2.2.2.1, (x.2.2.1.1, x.2.2.2.1.1)))))))))) (φ := fun (x : (Unit × Unit × Unit × Int × Unit) × (((List (List Int)) × (List Int) × (List Int) × Int × Int × Int × Int × Int × Unit) × (Int × Unit × Unit) × (Int × Unit × Unit) × (List Int) × Unit)) => (x.1.2.2.2.1, x.2.2.2.2.1)) (ψ := fun (i : (List (List Int)) × (List Int) × (List Int) × Int × Int × Int × Int × Int × Int × Int) (v : Int × (List Int)) => (((), ((), ((), (v.1, ())))), ((i.1, (i.2.1, (i.2.2.1, (i.2.2.2.1, (i.2.2.2.2.1, (i.2.2.2.2.2.1, (i.2.2.2.2.2.2.1, (i.2.2.2.2.2.2.2.1, ())))))))), ((i.2.2.2.2.2.2.2.2.1, ((), ())), ((i.2.2.2.2.2.2.2.2.2, ((), ())), (v.2, ())))))) (F := fun (i : (List (List Int)) × (List Int) × (List Int) × Int × Int × Int × Int × Int × Int × Int) => spec_ConePlan_l0F i.1 i.2.1 i.2.2.1 i.2.2.2.1 i.2.2.2.2.1 i.2.2.2.2.2.1 i.2.2.2.2.2.2.1 i.2.2.2.2.2.2.2.1 i.2.2.2.2.2.2.2.2.2) (fun _ => rfl) fun i k hk v => Par.of_eq (spec_ConePlan_l0e i.1 i.2.1 i.2.2.1 i.2.2.2.1 i.2.2.2.2.1 i.2.2.2.2.2.1 i.2.2.2.2.2.2.1 i.2.2.2.2.2.2.2.1 i.2.2.2.2.2.2.2.2.1 i.2.2.2.2.2.2.2.2.2 k v.1 v.2) (spec_ConePlan_l0p i.1 i.2.1 i.2.2.1 i.2.2.2.1 i.2.2.2.2.1 i.2.2.2.2.2.1 i.2.2.2.2.2.2.1 i.2.2.2.2.2.2.2.1 i.2.2.2.2.2.2.2.2.2 (fun a0 a11 => hk (a0, a11)) v.1 v.2)
def c62 : Callee := mkC [.agg [.ro TJob]] 2 [.agg [.ro (.int .i64), .sl (.int .i64)], .one (.ro .bool)] fun x => spec_ConePlan x
theorem e62 (x : PK.dens [.agg [.ro TJob]]) : evalFn Try.prog EL62 or62 Try.f62 (PK.outs [.agg [.ro TJob]] x) =
    spec_ConePlanK (fun y => some (tupOf ((PK.outs [.agg [.ro (.int .i64), .sl (.int .i64)], .one (.ro .bool)] y).take 2), (PK.outs [.agg [.ro (.int .i64), .sl (.int .i64)], .one (.ro .bool)] y).drop 2)) x := by kernel_rfl
theorem o62 : LoOk Try.prog EL62 or62 Try.f62.ntmps (loopsIn (codeOf Try.f62)) :=
  LoOk.mk (m := 4) (by kernel_rfl) fun i hi => match i, hi with
    | 0, _ => ⟨Lspec_ConePlan_l0, by kernel_rfl, spec_ConePlan_l0o⟩
    | 1, _ => ⟨Lspec_ConePlan_l1, by kernel_rfl, spec_ConePlan_l1o⟩
    | 2, _ => ⟨Lspec_ConePlan_l2, by kernel_rfl, spec_ConePlan_l2o⟩
    | 3, _ => ⟨Lspec_ConePlan_l3, by kernel_rfl, spec_ConePlan_l3o⟩
    | i + 4, hi => absurd hi (by omega)
theorem k62 : CalleeOk Try.prog 62 c62 := callee_mk Try.func62 (code := codeOf Try.f62) (by kernel_rfl) vL62 mixed o62 fun x y h => (e62 x).trans (p62 _ x y h)

/-- impl.markOf -/
def EL134 : Nat → Option Callee := env0
theorem vL134 : EnvOk Try.prog EL134 := EnvOk.nil
def simpl_markOf_l0 : LS := ⟨[(5, .one (.fix (.sref 0))), (10, .one (.dat (.slice (.int .i64)))), (11, .one (.dat (.int .i64))), (12, .one (.dat (.int .i64)))], [.sl .bool], []⟩
def simpl_markOf_l0x0 : LS := ⟨[(5, .one (.fix (.sref 0)))], [.sl .bool], []⟩
def ximpl_markOf_l0 : List (XS ((List Int) × Int)) := [⟨.exit 0, ⟨[5], [.slot 5], [], []⟩, simpl_markOf_l0x0, List Bool, fun i y => (((), ()), (y, ()))⟩]
def impl_markOf_l0K {R : Type} (a0 : List Int) (a1 : Int) (rc : Int → List Bool → Option R) (fin : List Bool → Option R) (a2 : Int) (a3 : List Bool) : Option R :=
  cond (decide (a2 < a1))
  ((lat a0 a2).bind fun e1 =>
    cond (decide ((0 : Int) ≤ e1) && decide (e1 < (a3.length : Int)))
    ((some (a3.set (0 + e1.toNat) true)).bind fun v2 =>
      rc (IntKind.i64.wrap (a2 + 1)) v2)
    (none))
  (fin a3)
def impl_markOf_l0F (a0 : List Int) (a1 : Int) (r : (Int × (List Bool)) → Option (List Bool)) (x : Int × (List Bool)) : Option (List Bool) := impl_markOf_l0K a0 a1 (fun a2 a3 => r (a2, a3)) some x.1 x.2
theorem impl_markOf_l0c (a0 : List Int) (a1 : Int) (x : Int × (List Bool)) : Ct fun r => impl_markOf_l0F a0 a1 r x := by
  unfold impl_markOf_l0F impl_markOf_l0K
  repeat' (first | exact Ct.const | exact Ct.call | refine Ct.cond ?_ ?_ | refine Ct.bind ?_ fun _ => ?_ | refine Ct.sum (fun _ => ?_) fun _ => ?_)
def impl_markOf_l0 (a0 : List Int) (a1 : Int) (a2 : Int) (a3 : List Bool) : Option (List Bool) := lim (impl_markOf_l0F a0 a1) (a2, a3)
theorem impl_markOf_l0_eq (a0 : List Int) (a1 : Int) (a2 : Int) (a3 : List Bool) : impl_markOf_l0 a0 a1 a2 a3 = impl_markOf_l0K a0 a1 (impl_markOf_l0 a0 a1) some a2 a3 := lim_eq (impl_markOf_l0c a0 a1) (a2, a3)
theorem impl_markOf_l0p {R : Type} (a0 : List Int) (a1 : Int) {rc : Int → List Bool → Option (List Bool)} {rc' : Int → List Bool → Option R} {fin : List Bool → Option R} (hr : ∀ a2 a3, Par fin (rc a2 a3) (rc' a2 a3)) (a2 : Int) (a3 : List Bool) : Par fin (impl_markOf_l0K a0 a1 rc some a2 a3) (impl_markOf_l0K a0 a1 rc' fin a2 a3) := by
  unfold impl_markOf_l0K
  repeat' (first | exact .fin | exact .none | exact hr _ _ | refine .cond ?_ ?_ | refine .bind fun _ => ?_ | refine .sum (fun _ => ?_) fun _ => ?_)
def Limpl_markOf_l0 : Loop := mkL ⟨[5, 10, 11, 12], [.slot 5], [], []⟩ simpl_markOf_l0 ximpl_markOf_l0 (fun (x : (Unit × (List Int) × Int × Int × Unit) × ((List Bool) × Unit)) => (x.1.2.1, x.1.2.2.1)) fun (x : (Unit × (List Int) × Int × Int × Unit) × ((List Bool) × Unit)) => impl_markOf_l0 x.1.2.1 x.1.2.2.1 x.1.2.2.2.1 x.2.1
def impl_markOfK {R : Type} (fin : List Bool → Option R) (x0 : Int) (x1 : List Int) : Option R :=
  cond (decide ((0 : Int) ≤ x0) && (decide (x0 ≤ x0) && decide (x0 ≤ 1099511627776)))
  ((some ((List.replicate x0.toNat false : List Bool))).bind fun v1 =>
    (impl_markOf_l0 x1 (x1.length : Int) 0 v1).bind fun y4 =>
    fin y4)
  (none)
def impl_markOf (x0 : Int) (x1 : List Int) : Option (List Bool) := impl_markOfK some x0 x1
theorem p134 {R : Type} (fin : List Bool → Option R) (x0 : Int) (x1 : List Int) : Par fin (impl_markOfK some x0 x1) (impl_markOfK fin x0 x1) := by
  unfold impl_markOfK
  repeat' (first | exact .fin | exact .none | refine .cond ?_ ?_ | refine .bind fun _ => ?_ | refine .sum (fun _ => ?_) fun _ => ?_)
def or134 : Ora := { lo := addL 3 (Limpl_markOf_l0) lo0, fin := [] }
theorem impl_markOf_l0e (a0 : List Int) (a1 : Int) (k : Nat) (a2 : Int) (a3 : List Bool) : loopC Try.prog EL134 or134 ((loopsIn (codeOf Try.f134)).getD 0 .skip) (Limpl_markOf_l0).h (Limpl_markOf_l0).ho Try.f134.ntmps (k + 1) (simpl_markOf_l0.out (((), (a0, (a1, (a2, ())))), (a3, ()))) =
    impl_markOf_l0K a0 a1 (fun a2 a3 => loopC Try.prog EL134 or134 ((loopsIn (codeOf Try.f134)).getD 0 .skip) (Limpl_markOf_l0).h (Limpl_markOf_l0).ho Try.f134.ntmps k (simpl_markOf_l0.out (((), (a0, (a1, (a2, ())))), (a3, ())))) (fun y => some (XS.out ximpl_markOf_l0 (a0, a1) y)) a2 a3 := by kernel_rfl
theorem impl_markOf_l0o : LoopOk Try.prog EL134 or134 Try.f134.ntmps ((loopsIn (codeOf Try.f134)).getD 0 .skip) (Limpl_markOf_l0) :=
  loop_lim (hs := simpl_markOf_l0) (xs := ximpl_markOf_l0) (ι := fun (x : (Unit × (List Int) × Int × Int × Unit) × ((List Bool) × Unit)) => (x.1.2.1, x.1.2.2.1)) (φ := fun (x : (Unit × (List Int) × Int × Int × Unit) × ((List Bool) × Unit)) => (x.1.2.2.2.1, x.2.1)) (ψ := fun (i : (List Int) × Int) (v : Int × (List Bool)) => (((), (i.1, (i.2, (v.1, ())))), (v.2, ()))) (F := fun (i : (List Int) × Int) => impl_markOf_l0F i.1 i.2) (fun _ => rfl) fun i k hk v => Par.of_eq (impl_markOf_l0e i.1 i.2 k v.1 v.2) (impl_markOf_l0p i.1 i.2 (fun a2 a3 => hk (a2, a3)) v.1 v.2)
def c134 : Callee := mkC [.one (.ro (.int .i64)), .one (.ro (.slice (.int .i64)))] 1 [.one (.sl .bool)] fun x => impl_markOf x.1 x.2
theorem e134 (x : PK.dens [.one (.ro (.int .i64)), .one (.ro (.slice (.int .i64)))]) : evalFn Try.prog EL134 or134 Try.f134 (PK.outs [.one (.ro (.int .i64)), .one (.ro (.slice (.int .i64)))] x) =
    impl_markOfK (fun y => some (tupOf ((PK.outs [.one (.sl .bool)] y).take 1), (PK.outs [.one (.sl .bool)] y).drop 1)) x.1 x.2 := by kernel_rfl
theorem o134 : LoOk Try.prog EL134 or134 Try.f134.ntmps (loopsIn (codeOf Try.f134)) :=
  LoOk.mk (m := 1) (by kernel_rfl) fun i hi => match i, hi with
    | 0, _ => ⟨Limpl_markOf_l0, by kernel_rfl, impl_markOf_l0o⟩
    | i + 1, hi => absurd hi (by omega)
theorem k134 : CalleeOk Try.prog 134 c134 := callee_mk Try.func134 (code := codeOf Try.f134) (by kernel_rfl) vL134 mixed o134 fun x y h => (e134 x).trans (p134 _ x.1 x.2 y h)

/-- impl.closureOf -/
def EL128 : Nat → Option Callee := addE 134 c134 env0
theorem vL128 : EnvOk Try.prog EL128 := EnvOk.nil.add Try.func134 rfl (by kernel_rfl) k134
def simpl_closureOf_l1 : LS := ⟨[(0, .one (.dat (.slice (.slice (.int .i64))))), (5, .one (.fix (.sref 0))), (6, .one (.dat (.int .i64))), (28, .one (.dat (.slice (.int .i64)))), (29, .one (.dat (.int .i64))), (30, .one (.dat (.int .i64)))], [.sl .bool], []⟩
def simpl_closureOf_l1x0 : LS := ⟨[(0, .one (.dat (.slice (.slice (.int .i64))))), (5, .one (.fix (.sref 0))), (6, .one (.dat (.int .i64)))], [.sl .bool], []⟩
def ximpl_closureOf_l1 : List (XS ((List (List Int)) × Int × (List Int) × Int)) := [⟨.exit 2, ⟨[0, 5, 6], [.slot 5], [], []⟩, simpl_closureOf_l1x0, List Bool, fun i y => ((i.1, ((), (i.2.1, ()))), (y, ()))⟩]
def impl_closureOf_l1K {R : Type} (a2 : List Int) (a3 : Int) (rc : Int → List Bool → Option R) (fin : List Bool → Option R) (a4 : Int) (a5 : List Bool) : Option R :=
  cond (decide (a4 < a3))
  ((lat a2 a4).bind fun e1 =>
    cond (decide ((0 : Int) ≤ e1) && decide (e1 < (a5.length : Int)))
    ((some (a5.set (0 + e1.toNat) true)).bind fun v2 =>
      rc (IntKind.i64.wrap (a4 + 1)) v2)
    (none))
  (fin a5)
def impl_closureOf_l1F (a2 : List Int) (a3 : Int) (r : (Int × (List Bool)) → Option (List Bool)) (x : Int × (List Bool)) : Option (List Bool) := impl_closureOf_l1K a2 a3 (fun a4 a5 => r (a4, a5)) some x.1 x.2
theorem impl_closureOf_l1c (a2 : List Int) (a3 : Int) (x : Int × (List Bool)) : Ct fun r => impl_closureOf_l1F a2 a3 r x := by
  unfold impl_closureOf_l1F impl_closureOf_l1K
  repeat' (first | exact Ct.const | exact Ct.call | refine Ct.cond ?_ ?_ | refine Ct.bind ?_ fun _ => ?_ | refine Ct.sum (fun _ => ?_) fun _ => ?_)
def impl_closureOf_l1 (a2 : List Int) (a3 : Int) (a4 : Int) (a5 : List Bool) : Option (List Bool) := lim (impl_closureOf_l1F a2 a3) (a4, a5)
theorem impl_closureOf_l1_eq (a2 : List Int) (a3 : Int) (a4 : Int) (a5 : List Bool) : impl_closureOf_l1 a2 a3 a4 a5 = impl_closureOf_l1K a2 a3 (impl_closureOf_l1 a2 a3) some a4 a5 := lim_eq (impl_closureOf_l1c a2 a3) (a4, a5)
theorem impl_closureOf_l1p {R : Type} (a2 : List Int) (a3 : Int) {rc : Int → List Bool → Option (List Bool)} {rc' : Int → List Bool → Option R} {fin : List Bool → Option R} (hr : ∀ a4 a5, Par fin (rc a4 a5) (rc' a4 a5)) (a4 : Int) (a5 : List Bool) : Par fin (impl_closureOf_l1K a2 a3 rc some a4 a5) (impl_closureOf_l1K a2 a3 rc' fin a4 a5) := by
  unfold impl_closureOf_l1K
  repeat' (first | exact .fin | exact .none | exact hr _ _ | refine .cond ?_ ?_ | refine .bind fun _ => ?_ | refine .sum (fun _ => ?_) fun _ => ?_)
def Limpl_closureOf_l1 : Loop := mkL ⟨[0, 5, 6, 28, 29, 30], [.slot 5], [], []⟩ simpl_closureOf_l1 ximpl_closureOf_l1 (fun (x : ((List (List Int)) × Unit × Int × (List Int) × Int × Int × Unit) × ((List Bool) × Unit)) => (x.1.1, (x.1.2.2.1, (x.1.2.2.2.1, x.1.2.2.2.2.1)))) fun (x : ((List (List Int)) × Unit × Int × (List Int) × Int × Int × Unit) × ((List Bool) × Unit)) => impl_closureOf_l1 x.1.2.2.2.1 x.1.2.2.2.2.1 x.1.2.2.2.2.2.1 x.2.1
def simpl_closureOf_l0 : LS := ⟨[(0, .one (.dat (.slice (.slice (.int .i64))))), (5, .one (.fix (.sref 0))), (6, .one (.dat (.int .i64)))], [.sl .bool], []⟩
def simpl_closureOf_l0x0 : LS := ⟨[(5, .one (.fix (.sref 0)))], [.sl .bool], []⟩
def ximpl_closureOf_l0 : List (XS (List (List Int))) := [⟨.exit 0, ⟨[5], [.slot 5], [], []⟩, simpl_closureOf_l0x0, List Bool, fun i y => (((), ()), (y, ()))⟩]
def impl_closureOf_l0K {R : Type} (a0 : List (List Int)) (rc : Int → List Bool → Option R) (fin : List Bool → Option R) (a1 : Int) (a2 : List Bool) : Option R :=
  cond (decide (a1 ≥ 0))
  (cond (decide ((0 : Int) ≤ a1) && decide (a1 < (a2.length : Int)))
    (cond (!(a2.getD (0 + a1.toNat) false))
      (rc (IntKind.i64.wrap (a1 - 1)) a2)
      ((lat a0 a1).bind fun e1 =>
        (impl_closureOf_l1 e1 (e1.length : Int) 0 a2).bind fun y4 =>
        rc (IntKind.i64.wrap (a1 - 1)) y4))
    (none))
  (fin a2)
def impl_closureOf_l0F (a0 : List (List Int)) (r : (Int × (List Bool)) → Option (List Bool)) (x : Int × (List Bool)) : Option (List Bool) := impl_closureOf_l0K a0 (fun a1 a2 => r (a1, a2)) some x.1 x.2
theorem impl_closureOf_l0c (a0 : List (List Int)) (x : Int × (List Bool)) : Ct fun r => impl_closureOf_l0F a0 r x := by
  unfold impl_closureOf_l0F impl_closureOf_l0K
  repeat' (first | exact Ct.const | exact Ct.call | refine Ct.cond ?_ ?_ | refine Ct.bind ?_ fun _ => ?_ | refine Ct.sum (fun _ => ?_) fun _ => ?_)
def impl_closureOf_l0 (a0 : List (List Int)) (a1 : Int) (a2 : List Bool) : Option (List Bool) := lim (impl_closureOf_l0F a0) (a1, a2)
theorem impl_closureOf_l0_eq (a0 : List (List Int)) (a1 : Int) (a2 : List Bool) : impl_closureOf_l0 a0 a1 a2 = impl_closureOf_l0K a0 (impl_closureOf_l0 a0) some a1 a2 := lim_eq (impl_closureOf_l0c a0) (a1, a2)
theorem impl_closureOf_l0p {R : Type} (a0 : List (List Int)) {rc : Int → List Bool → Option (List Bool)} {rc' : Int → List Bool → Option R} {fin : List Bool → Option R} (hr : ∀ a1 a2, Par fin (rc a1 a2) (rc' a1 a2)) (a1 : Int) (a2 : List Bool) : Par fin (impl_closureOf_l0K a0 rc some a1 a2) (impl_closureOf_l0K a0 rc' fin a1 a2) := by
  unfold impl_closureOf_l0K
  repeat' (first | exact .fin | exact .none | exact hr _ _ | refine .cond ?_ ?_ | refine .bind fun _ => ?_ | refine .sum (fun _ => ?_) fun _ => ?_)
def Limpl_closureOf_l0 : Loop := mkL ⟨[0, 5, 6], [.slot 5], [], []⟩ simpl_closureOf_l0 ximpl_closureOf_l0 (fun (x : ((List (List Int)) × Unit × Int × Unit) × ((List Bool) × Unit)) => x.1.1) fun (x : ((List (List Int)) × Unit × Int × Unit) × ((List Bool) × Unit)) => impl_closureOf_l0 x.1.1 x.1.2.2.1 x.2.1
def impl_closureOfK {R : Type} (fin : List Bool → Option R) (x0 : List (List Int)) (x1 : List Int) : Option R :=
  (impl_markOf (x0.length : Int) x1).bind fun y1 =>
  (impl_closureOf_l0 x0 (IntKind.i64.wrap ((x0.length : Int) - 1)) y1).bind fun y6 =>
  fin y6
def impl_closureOf (x0 : List (List Int)) (x1 : List Int) : Option (List Bool) := impl_closureOfK some x0 x1
theorem p128 {R : Type} (fin : List Bool → Option R) (x0 : List (List Int)) (x1 : List Int) : Par fin (impl_closureOfK some x0 x1) (impl_closureOfK fin x0 x1) := by
  unfold impl_closureOfK
  repeat' (first | exact .fin | exact .none | refine .cond ?_ ?_ | refine .bind fun _ => ?_ | refine .sum (fun _ => ?_) fun _ => ?_)
def or128 : Ora := { lo := addL 3 (Limpl_closureOf_l0) (addL 7 (Limpl_closureOf_l1) lo0), fin := [] }
theorem impl_closureOf_l1e (a0 : List (List Int)) (a1 : Int) (a2 : List Int) (a3 : Int) (k : Nat) (a4 : Int) (a5 : List Bool) : loopC Try.prog EL128 or128 ((loopsIn (codeOf Try.f128)).getD 1 .skip) (Limpl_closureOf_l1).h (Limpl_closureOf_l1).ho Try.f128.ntmps (k + 1) (simpl_closureOf_l1.out ((a0, ((), (a1, (a2, (a3, (a4, ())))))), (a5, ()))) =
    impl_closureOf_l1K a2 a3 (fun a4 a5 => loopC Try.prog EL128 or128 ((loopsIn (codeOf Try.f128)).getD 1 .skip) (Limpl_closureOf_l1).h (Limpl_closureOf_l1).ho Try.f128.ntmps k (simpl_closureOf_l1.out ((a0, ((), (a1, (a2, (a3, (a4, ())))))), (a5, ())))) (fun y => some (XS.out ximpl_closureOf_l1 (a0, (a1, (a2, a3))) y)) a4 a5 := by kernel_rfl
theorem impl_closureOf_l1o : LoopOk Try.prog EL128 or128 Try.f128.ntmps ((loopsIn (codeOf Try.f128)).getD 1 .skip) (Limpl_closureOf_l1) :=
  loop_lim (hs := simpl_closureOf_l1) (xs := ximpl_closureOf_l1) (ι := fun (x : ((List (List Int)) × Unit × Int × (List Int) × Int × Int × Unit) × ((List Bool) × Unit)) => (x.1.1, (x.1.2.2.1, (x.1.2.2.2.1, x.1.2.2.2.2.1)))) (φ := fun (x : ((List (List Int)) × Unit × Int × (List Int) × Int × Int × Unit) × ((List Bool) × Unit)) => (x.1.2.2.2.2.2.1, x.2.1)) (ψ := fun (i : (List (List Int)) × Int × (List Int) × Int) (v : Int × (List Bool)) => ((i.1, ((), (i.2.1, (i.2.2.1, (i.2.2.2, (v.1, ())))))), (v.2, ()))) (F := fun (i : (List (List Int)) × Int × (List Int) × Int) => impl_closureOf_l1F i.2.2.1 i.2.2.2) (fun _ => rfl) fun i k hk v => Par.of_eq (impl_closureOf_l1e i.1 i.2.1 i.2.2.1 i.2.2.2 k v.1 v.2) (impl_closureOf_l1p i.2.2.1 i.2.2.2 (fun a4 a5 => hk (a4, a5)) v.1 v.2)
theorem impl_closureOf_l0e (a0 : List (List Int)) (k : Nat) (a1 : Int) (a2 : List Bool) : loopC Try.prog EL128 or128 ((loopsIn (codeOf Try.f128)).getD 0 .skip) (Limpl_closureOf_l0).h (Limpl_closureOf_l0).ho Try.f128.ntmps (k + 1) (simpl_closureOf_l0.out ((a0, ((), (a1, ()))), (a2, ()))) =
    impl_closureOf_l0K a0 (fun a1 a2 => loopC Try.prog EL128 or128 ((loopsIn (codeOf Try.f128)).getD 0 .skip) (Limpl_closureOf_l0).h (Limpl_closureOf_l0).ho Try.f128.ntmps k (simpl_closureOf_l0.out ((a0, ((), (a1, ()))), (a2, ())))) (fun y => some (XS.out ximpl_closureOf_l0 a0 y)) a1 a2 := by kernel_rfl
theorem impl_closureOf_l0o : LoopOk Try.prog EL128 or128 Try.f128.ntmps ((loopsIn (codeOf Try.f128)).getD 0 .skip) (Limpl_closureOf_l0) :=
  loop_lim (hs := simpl_closureOf_l0) (xs := ximpl_closureOf_l0) (ι := fun (x : ((List (List Int)) × Unit × Int × Unit) × ((List Bool) × Unit)) => x.1.1) (φ := fun (x : ((List (List Int)) × Unit × Int × Unit) × ((List Bool) × Unit)) => (x.1.2.2.1, x.2.1)) (ψ := fun (i : List (List Int)) (v : Int × (List Bool)) => ((i, ((), (v.1, ()))), (v.2, ()))) (F := fun (i : List (List Int)) => impl_closureOf_l0F i) (fun _ => rfl) fun i k hk v => Par.of_eq (impl_closureOf_l0e i k v.1 v.2) (impl_closureOf_l0p i (fun a1 a2 => hk (a1, a2)) v.1 v.2)
def c128 : Callee := mkC [.one (.ro (.slice (.slice (.int .i64)))), .one (.ro (.slice (.int .i64)))] 1 [.one (.sl .bool)] fun x => impl_closureOf x.1 x.2
theorem e128 (x : PK.dens [.one (.ro (.slice (.slice (.int .i64)))), .one (.ro (.slice (.int .i64)))]) : evalFn Try.prog EL128 or128 Try.f128 (PK.outs [.one (.ro (.slice (.slice (.int .i64)))), .one (.ro (.slice (.int .i64)))] x) =
    impl_closureOfK (fun y => some (tupOf ((PK.outs [.one (.sl .bool)] y).take 1), (PK.outs [.one (.sl .bool)] y).drop 1)) x.1 x.2 := by kernel_rfl
theorem o128 : LoOk Try.prog EL128 or128 Try.f128.ntmps (loopsIn (codeOf Try.f128)) :=
  LoOk.mk (m := 2) (by kernel_rfl) fun i hi => match i, hi with
    | 0, _ => ⟨Limpl_closureOf_l0, by kernel_rfl, impl_closureOf_l0o⟩
    | 1, _ => ⟨Limpl_closureOf_l1, by kernel_rfl, impl_closureOf_l1o⟩
    | i + 2, hi => absurd hi (by omega)
theorem k128 : CalleeOk Try.prog 128 c128 := callee_mk Try.func128 (code := codeOf Try.f128) (by kernel_rfl) vL128 mixed o128 fun x y h => (e128 x).trans (p128 _ x.1 x.2 y h)

/-- impl.listOf -/
def EL127 : Nat → Option Callee := env0
theorem vL127 : EnvOk Try.prog EL127 := EnvOk.nil
def simpl_listOf_l0 : LS := ⟨[(3, .one (.fix (.sref 0))), (7, .one (.dat (.slice .bool))), (8, .one (.dat (.int .i64))), (9, .one (.dat (.int .i64)))], [.sl (.int .i64)], []⟩
def simpl_listOf_l0x0 : LS := ⟨[(3, .one (.fix (.sref 0)))], [.sl (.int .i64)], []⟩
def ximpl_listOf_l0 : List (XS ((List Bool) × Int)) := [⟨.exit 0, ⟨[3], [.slot 3], [], []⟩, simpl_listOf_l0x0, List Int, fun i y => (((), ()), (y, ()))⟩]
def impl_listOf_l0K {R : Type} (a0 : List Bool) (a1 : Int) (rc : Int → List Int → Option R) (fin : List Int → Option R) (a2 : Int) (a3 : List Int) : Option R :=
  cond (decide (a2 < a1))
  ((lat a0 a2).bind fun e1 =>
    cond (e1)
    (cond (decide (a3.length + [a2].length ≤ 1099511627776))
      (rc (IntKind.i64.wrap (a2 + 1)) (a3 ++ [a2]))
      (none))
    (rc (IntKind.i64.wrap (a2 + 1)) a3))
  (fin a3)
def impl_listOf_l0F (a0 : List Bool) (a1 : Int) (r : (Int × (List Int)) → Option (List Int)) (x : Int × (List Int)) : Option (List Int) := impl_listOf_l0K a0 a1 (fun a2 a3 => r (a2, a3)) some x.1 x.2
theorem impl_listOf_l0c (a0 : List Bool) (a1 : Int) (x : Int × (List Int)) : Ct fun r => impl_listOf_l0F a0 a1 r x := by
  unfold impl_listOf_l0F impl_listOf_l0K
  repeat' (first | exact Ct.const | exact Ct.call | refine Ct.cond ?_ ?_ | refine Ct.bind ?_ fun _ => ?_ | refine Ct.sum (fun _ => ?_) fun _ => ?_)
def impl_listOf_l0 (a0 : List Bool) (a1 : Int) (a2 : Int) (a3 : List Int) : Option (List Int) := lim (impl_listOf_l0F a0 a1) (a2, a3)
theorem impl_listOf_l0_eq (a0 : List Bool) (a1 : Int) (a2 : Int) (a3 : List Int) : impl_listOf_l0 a0 a1 a2 a3 = impl_listOf_l0K a0 a1 (impl_listOf_l0 a0 a1) some a2 a3 := lim_eq (impl_listOf_l0c a0 a1) (a2, a3)
theorem impl_listOf_l0p {R : Type} (a0 : List Bool) (a1 : Int) {rc : Int → List Int → Option (List Int)} {rc' : Int → List Int → Option R} {fin : List Int → Option R} (hr : ∀ a2 a3, Par fin (rc a2 a3) (rc' a2 a3)) (a2 : Int) (a3 : List Int) : Par fin (impl_listOf_l0K a0 a1 rc some a2 a3) (impl_listOf_l0K a0 a1 rc' fin a2 a3) := by
  unfold impl_listOf_l0K
  repeat' (first | exact .fin | exact .none | exact hr _ _ | refine .cond ?_ ?_ | refine .bind fun _ => ?_ | refine .sum (fun _ => ?_) fun _ => ?_)
def Limpl_listOf_l0 : Loop := mkL ⟨[3, 7, 8, 9], [.slot 3], [], []⟩ simpl_listOf_l0 ximpl_listOf_l0 (fun (x : (Unit × (List Bool) × Int × Int × Unit) × ((List Int) × Unit)) => (x.1.2.1, x.1.2.2.1)) fun (x : (Unit × (List Bool) × Int × Int × Unit) × ((List Int) × Unit)) => impl_listOf_l0 x.1.2.1 x.1.2.2.1 x.1.2.2.2.1 x.2.1
def impl_listOfK {R : Type} (fin : List Int → Option R) (x0 : List Bool) : Option R :=
  (impl_listOf_l0 x0 (x0.length : Int) 0 []).bind fun y2 =>
  fin y2
def impl_listOf (x0 : List Bool) : Option (List Int) := impl_listOfK some x0
theorem p127 {R : Type} (fin : List Int → Option R) (x0 : List Bool) : Par fin (impl_listOfK some x0) (impl_listOfK fin x0) := by
  unfold impl_listOfK
  repeat' (first | exact .fin | exact .none | refine .cond ?_ ?_ | refine .bind fun _ => ?_ | refine .sum (fun _ => ?_) fun _ => ?_)
def or127 : Ora := { lo := addL 3 (Limpl_listOf_l0) lo0, fin := [] }
theorem impl_listOf_l0e (a0 : List Bool) (a1 : Int) (k : Nat) (a2 : Int) (a3 : List Int) : loopC Try.prog EL127 or127 ((loopsIn (codeOf Try.f127)).getD 0 .skip) (Limpl_listOf_l0).h (Limpl_listOf_l0).ho Try.f127.ntmps (k + 1) (simpl_listOf_l0.out (((), (a0, (a1, (a2, ())))), (a3, ()))) =
    impl_listOf_l0K a0 a1 (fun a2 a3 => loopC Try.prog EL127 or127 ((loopsIn (codeOf Try.f127)).getD 0 .skip) (Limpl_listOf_l0).h (Limpl_listOf_l0).ho Try.f127.ntmps k (simpl_listOf_l0.out (((), (a0, (a1, (a2, ())))), (a3, ())))) (fun y => some (XS.out ximpl_listOf_l0 (a0, a1) y)) a2 a3 := by kernel_rfl
theorem impl_listOf_l0o : LoopOk Try.prog EL127 or127 Try.f127.ntmps ((loopsIn (codeOf Try.f127)).getD 0 .skip) (Limpl_listOf_l0) :=
  loop_lim (hs := simpl_listOf_l0) (xs := ximpl_listOf_l0) (ι := fun (x : (Unit × (List Bool) × Int × Int × Unit) × ((List Int) × Unit)) => (x.1.2.1, x.1.2.2.1)) (φ := fun (x : (Unit × (List Bool) × Int × Int × Unit) × ((List Int) × Unit)) => (x.1.2.2.2.1, x.2.1)) (ψ := fun (i : (List Bool) × Int) (v : Int × (List Int)) => (((), (i.1, (i.2, (v.1, ())))), (v.2, ()))) (F := fun (i : (List Bool) × Int) => impl_listOf_l0F i.1 i.2) (fun _ => rfl) fun i k hk v => Par.of_eq (impl_listOf_l0e i.1 i.2 k v.1 v.2) (impl_listOf_l0p i.1 i.2 (fun a2 a3 => hk (a2, a3)) v.1 v.2)
def c127 : Callee := mkC [.one (.ro (.slice .bool))] 1 [.one (.sl (.int .i64))] fun x => impl_listOf x
theorem e127 (x : PK.dens [.one (.ro (.slice .bool))]) : evalFn Try.prog EL127 or127 Try.f127 (PK.outs [.one (.ro (.slice .bool))] x) =
    impl_listOfK (fun y => some (tupOf ((PK.outs [.one (.sl (.int .i64))] y).take 1), (PK.outs [.one (.sl (.int .i64))] y).drop 1)) x := by kernel_rfl
theorem o127 : LoOk Try.prog EL127 or127 Try.f127.ntmps (loopsIn (codeOf Try.f127)) :=
  LoOk.mk (m := 1) (by kernel_rfl) fun i hi => match i, hi with
    | 0, _ => ⟨Limpl_listOf_l0, by kernel_rfl, impl_listOf_l0o⟩
    | i + 1, hi => absurd hi (by omega)
theorem k127 : CalleeOk Try.prog 127 c127 := callee_mk Try.func127 (code := codeOf Try.f127) (by kernel_rfl) vL127 mixed o127 fun x y h => (e127 x).trans (p127 _ x y h)

/-- impl.unminedCone -/
def EL110 : Nat → Option Callee := addE 127 c127 (addE 128 c128 env0)
theorem vL110 : EnvOk Try.prog EL110 := (EnvOk.nil.add Try.func128 rfl (by kernel_rfl) k128).add Try.func127 rfl (by kernel_rfl) k127
def simpl_unminedCone_l0 : LS := ⟨[(4, .one (.fix (.ptr 0 0))), (7, .one (.fix (.sref 1))), (16, .one (.fix (.sref 2))), (17, .one (.dat (.int .i64))), (18, .one (.dat (.int .i64)))], [.box [.dat (.int .i64), .dat (.slice (.int .i64))], .sl (.int .i64), .sl (.int .i64)], []⟩
def simpl_unminedCone_l0x0 : LS := ⟨[(7, .one (.fix (.sref 0)))], [.sl (.int .i64)], []⟩
def ximpl_unminedCone_l0 : List (XS (Int × Int × (List Int) × (List Int))) := [⟨.exit 0, ⟨[7], [.slot 7], [], []⟩, simpl_unminedCone_l0x0, List Int, fun i y => (((), ()), (y, ()))⟩]
def impl_unminedCone_l0K {R : Type} (a0 : Int) (a3 : List Int) (a5 : List Int) (rc : Int → List Int → Option R) (fin : List Int → Option R) (a1 : Int) (a4 : List Int) : Option R :=
  cond (decide (a1 < a0))
  (cond (decide ((0 : Int) ≤ a1) && decide (a1 < (a5.length : Int)))
    ((lat a3 (a5.getD (0 + a1.toNat) 0)).bind fun e1 =>
      cond (decide (e1 < 0))
      (cond (decide (a4.length + [a5.getD (0 + a1.toNat) 0].length ≤ 1099511627776))
        ((some (a4 ++ [a5.getD (0 + a1.toNat) 0])).bind fun v2 =>
          rc (IntKind.i64.wrap (a1 + 1)) v2)
        (none))
      (rc (IntKind.i64.wrap (a1 + 1)) a4))
    (none))
  (fin a4)
def impl_unminedCone_l0F (a0 : Int) (a3 : List Int) (a5 : List Int) (r : (Int × (List Int)) → Option (List Int)) (x : Int × (List Int)) : Option (List Int) := impl_unminedCone_l0K a0 a3 a5 (fun a1 a4 => r (a1, a4)) some x.1 x.2
theorem impl_unminedCone_l0c (a0 : Int) (a3 : List Int) (a5 : List Int) (x : Int × (List Int)) : Ct fun r => impl_unminedCone_l0F a0 a3 a5 r x := by
  unfold impl_unminedCone_l0F impl_unminedCone_l0K
  repeat' (first | exact Ct.const | exact Ct.call | refine Ct.cond ?_ ?_ | refine Ct.bind ?_ fun _ => ?_ | refine Ct.sum (fun _ => ?_) fun _ => ?_)
def impl_unminedCone_l0 (a0 : Int) (a3 : List Int) (a5 : List Int) (a1 : Int) (a4 : List Int) : Option (List Int) := lim (impl_unminedCone_l0F a0 a3 a5) (a1, a4)
theorem impl_unminedCone_l0_eq (a0 : Int) (a3 : List Int) (a5 : List Int) (a1 : Int) (a4 : List Int) : impl_unminedCone_l0 a0 a3 a5 a1 a4 = impl_unminedCone_l0K a0 a3 a5 (impl_unminedCone_l0 a0 a3 a5) some a1 a4 := lim_eq (impl_unminedCone_l0c a0 a3 a5) (a1, a4)
theorem impl_unminedCone_l0p {R : Type} (a0 : Int) (a3 : List Int) (a5 : List Int) {rc : Int → List Int → Option (List Int)} {rc' : Int → List Int → Option R} {fin : List Int → Option R} (hr : ∀ a1 a4, Par fin (rc a1 a4) (rc' a1 a4)) (a1 : Int) (a4 : List Int) : Par fin (impl_unminedCone_l0K a0 a3 a5 rc some a1 a4) (impl_unminedCone_l0K a0 a3 a5 rc' fin a1 a4) := by
  unfold impl_unminedCone_l0K
  repeat' (first | exact .fin | exact .none | exact hr _ _ | refine .cond ?_ ?_ | refine .bind fun _ => ?_ | refine .sum (fun _ => ?_) fun _ => ?_)
def Limpl_unminedCone_l0 : Loop := mkL ⟨[4, 7, 16, 17, 18], [.slot 4, .slot 7, .slot 16], [], []⟩ simpl_unminedCone_l0 ximpl_unminedCone_l0 (fun (x : (Unit × Unit × Unit × Int × Int × Unit) × ((Int × (List Int) × Unit) × (List Int) × (List Int) × Unit)) => (x.1.2.2.2.1, (x.2.1.1, (x.2.1.2.1, x.2.2.2.1)))) fun (x : (Unit × Unit × Unit × Int × Int × Unit) × ((Int × (List Int) × Unit) × (List Int) × (List Int) × Unit)) => impl_unminedCone_l0 x.1.2.2.2.1 x.2.1.2.1 x.2.2.2.1 x.1.2.2.2.2.1 x.2.2.1
def impl_unminedConeK {R : Type} (fin : List Int → Option R) (x0 : DJob) (x1 : DPlan) (x2 : Int) : Option R :=
  (impl_closureOf x0.1 [x2]).bind fun y1 =>
  (impl_listOf y1).bind fun y2 =>
  (impl_unminedCone_l0 (y2.length : Int) x1.2.1 y2 0 []).bind fun y5 =>
  fin y5
def impl_unminedCone (x0 : DJob) (x1 : DPlan) (x2 : Int) : Option (List Int) := impl_unminedConeK some x0 x1 x2
theorem p110 {R : Type} (fin : List Int → Option R) (x0 : DJob) (x1 : DPlan) (x2 : Int) : Par fin (impl_unminedConeK some x0 x1 x2) (impl_unminedConeK fin x0 x1 x2) := by
  unfold impl_unminedConeK
  repeat' (first | exact .fin | exact .none | refine .cond ?_ ?_ | refine .bind fun _ => ?_ | refine .sum (fun _ => ?_) fun _ => ?_)
def or110 : Ora := { lo := addL 3 (Limpl_unminedCone_l0) lo0, fin := [] }
theorem impl_unminedCone_l0e (a0 : Int) (a2 : Int) (a3 : List Int) (a5 : List Int) (k : Nat) (a1 : Int) (a4 : List Int) : loopC Try.prog EL110 or110 ((loopsIn (codeOf Try.f110)).getD 0 .skip) (Limpl_unminedCone_l0).h (Limpl_unminedCone_l0).ho Try.f110.ntmps (k + 1) (simpl_unminedCone_l0.out (((), ((), ((), (a0, (a1, ()))))), ((a2, (a3, ())), (a4, (a5, ()))))) =
    impl_unminedCone_l0K a0 a3 a5 (fun a1 a4 => loopC Try.prog EL110 or110 ((loopsIn (codeOf Try.f110)).getD 0 .skip) (Limpl_unminedCone_l0).h (Limpl_unminedCone_l0).ho Try.f110.ntmps k (simpl_unminedCone_l0.out (((), ((), ((), (a0, (a1, ()))))), ((a2, (a3, ())), (a4, (a5, ())))))) (fun y => some (XS.out ximpl_unminedCone_l0 (a0, (a2, (a3, a5))) y)) a1 a4 := by kernel_rfl
theorem impl_unminedCone_l0o : LoopOk Try.prog EL110 or110 Try.f110.ntmps ((loopsIn (codeOf Try.f110)).getD 0 .skip) (Limpl_unminedCone_l0) :=
  loop_lim (hs := simpl_unminedCone_l0) (xs := ximpl_unminedCone_l0) (ι := fun (x : (Unit × Unit × Unit × Int × Int × Unit) × ((Int × (List Int) × Unit) × (List Int) × (List Int) × Unit)) => (x.1.2.2.2.1, (x.2.1.1, (x.2.1.2.1, x.2.2.2.1)))) (φ := fun (x : (Unit × Unit × Unit × Int × Int × Unit) × ((Int × (List Int) × Unit) × (List Int) × (List Int) × Unit)) => (x.1.2.2.2.2.1, x.2.2.1)) (ψ := fun (i : Int × Int × (List Int) × (List Int)) (v : Int × (List Int)) => (((), ((), ((), (i.1, (v.1, ()))))), ((i.2.1, (i.2.2.1, ())), (v.2, (i.2.2.2, ()))))) (F := fun (i : Int × Int × (List Int) × (List Int)) => impl_unminedCone_l0F i.1 i.2.2.1 i.2.2.2) (fun _ => rfl) fun i k hk v => Par.of_eq (impl_unminedCone_l0e i.1 i.2.1 i.2.2.1 i.2.2.2 k v.1 v.2) (impl_unminedCone_l0p i.1 i.2.2.1 i.2.2.2 (fun a1 a4 => hk (a1, a4)) v.1 v.2)
def c110 : Callee := mkC [.agg [.ro TJob], .agg [.ro TPlan], .one (.ro (.int .i64))] 1 [.one (.sl (.int .i64))] fun x => impl_unminedCone x.1 x.2.1 x.2.2
theorem e110 (x : PK.dens [.agg [.ro TJob], .agg [.ro TPlan], .one (.ro (.int .i64))]) : evalFn Try.prog EL110 or110 Try.f110 (PK.outs [.agg [.ro TJob], .agg [.ro TPlan], .one (.ro (.int .i64))] x) =
    impl_unminedConeK (fun y => some (tupOf ((PK.outs [.one (.sl (.int .i64))] y).take 1), (PK.outs [.one (.sl (.int .i64))] y).drop 1)) x.1 x.2.1 x.2.2 := by kernel_rfl
theorem o110 : LoOk Try.prog EL110 or110 Try.f110.ntmps (loopsIn (codeOf Try.f110)) :=
  LoOk.mk (m := 1) (by kernel_rfl) fun i hi => match i, hi with
    | 0, _ => ⟨Limpl_unminedCone_l0, by kernel_rfl, impl_unminedCone_l0o⟩
    | i + 1, hi => absurd hi (by omega)
theorem k110 : CalleeOk Try.prog 110 c110 := callee_mk Try.func110 (code := codeOf Try.f110) (by kernel_rfl) vL110 mixed o110 fun x y h => (e110 x).trans (p110 _ x.1 x.2.1 x.2.2 y h)

/-- impl.valueSum -/
def EL111 : Nat → Option Callee := env0
theorem vL111 : EnvOk Try.prog EL111 := EnvOk.nil
def simpl_valueSum_l0 : LS := ⟨[(0, .one (.dat (.slice (.int .i64)))), (5, .one (.dat (.int .i64))), (8, .one (.dat (.slice (.int .i64)))), (9, .one (.dat (.int .i64))), (10, .one (.dat (.int .i64)))], [], []⟩
def simpl_valueSum_l0x0 : LS := ⟨[(5, .one (.dat (.int .i64)))], [], []⟩
def ximpl_valueSum_l0 : List (XS ((List Int) × (List Int) × Int)) := [⟨.exit 0, ⟨[5], [], [], []⟩, simpl_valueSum_l0x0, Int, fun i y => ((y, ()), ())⟩]
def impl_valueSum_l0K {R : Type} (a0 : List Int) (a2 : List Int) (a3 : Int) (rc : Int → Int → Option R) (fin : Int → Option R) (a1 : Int) (a4 : Int) : Option R :=
  cond (decide (a4 < a3))
  ((lat a2 a4).bind fun e1 =>
    (lat a0 e1).bind fun e2 =>
    rc (IntKind.i64.wrap (a1 + e2)) (IntKind.i64.wrap (a4 + 1)))
  (fin a1)
def impl_valueSum_l0F (a0 : List Int) (a2 : List Int) (a3 : Int) (r : (Int × Int) → Option (Int)) (x : Int × Int) : Option (Int) := impl_valueSum_l0K a0 a2 a3 (fun a1 a4 => r (a1, a4)) some x.1 x.2
theorem impl_valueSum_l0c (a0 : List Int) (a2 : List Int) (a3 : Int) (x : Int × Int) : Ct fun r => impl_valueSum_l0F a0 a2 a3 r x := by
  unfold impl_valueSum_l0F impl_valueSum_l0K
  repeat' (first | exact Ct.const | exact Ct.call | refine Ct.cond ?_ ?_ | refine Ct.bind ?_ fun _ => ?_ | refine Ct.sum (fun _ => ?_) fun _ => ?_)
def impl_valueSum_l0 (a0 : List Int) (a2 : List Int) (a3 : Int) (a1 : Int) (a4 : Int) : Option (Int) := lim (impl_valueSum_l0F a0 a2 a3) (a1, a4)
theorem impl_valueSum_l0_eq (a0 : List Int) (a2 : List Int) (a3 : Int) (a1 : Int) (a4 : Int) : impl_valueSum_l0 a0 a2 a3 a1 a4 = impl_valueSum_l0K a0 a2 a3 (impl_valueSum_l0 a0 a2 a3) some a1 a4 := lim_eq (impl_valueSum_l0c a0 a2 a3) (a1, a4)
theorem impl_valueSum_l0p {R : Type} (a0 : List Int) (a2 : List Int) (a3 : Int) {rc : Int → Int → Option (Int)} {rc' : Int → Int → Option R} {fin : Int → Option R} (hr : ∀ a1 a4, Par fin (rc a1 a4) (rc' a1 a4)) (a1 : Int) (a4 : Int) : Par fin (impl_valueSum_l0K a0 a2 a3 rc some a1 a4) (impl_valueSum_l0K a0 a2 a3 rc' fin a1 a4) := by
  unfold impl_valueSum_l0K
  repeat' (first | exact .fin | exact .none | exact hr _ _ | refine .cond ?_ ?_ | refine .bind fun _ => ?_ | refine .sum (fun _ => ?_) fun _ => ?_)
def Limpl_valueSum_l0 : Loop := mkL ⟨[0, 5, 8, 9, 10], [], [], []⟩ simpl_valueSum_l0 ximpl_valueSum_l0 (fun (x : ((List Int) × Int × (List Int) × Int × Int × Unit) × (Unit)) => (x.1.1, (x.1.2.2.1, x.1.2.2.2.1))) fun (x : ((List Int) × Int × (List Int) × Int × Int × Unit) × (Unit)) => impl_valueSum_l0 x.1.1 x.1.2.2.1 x.1.2.2.2.1 x.1.2.1 x.1.2.2.2.2.1
def impl_valueSumK {R : Type} (fin : Int → Option R) (x0 : List Int) (x1 : List Int) : Option R :=
  (impl_valueSum_l0 x0 x1 (x1.length : Int) 0 0).bind fun y3 =>
  fin y3
def impl_valueSum (x0 : List Int) (x1 : List Int) : Option (Int) := impl_valueSumK some x0 x1
theorem p111 {R : Type} (fin : Int → Option R) (x0 : List Int) (x1 : List Int) : Par fin (impl_valueSumK some x0 x1) (impl_valueSumK fin x0 x1) := by
  unfold impl_valueSumK
  repeat' (first | exact .fin | exact .none | refine .cond ?_ ?_ | refine .bind fun _ => ?_ | refine .sum (fun _ => ?_) fun _ => ?_)
def or111 : Ora := { lo := addL 3 (Limpl_valueSum_l0) lo0, fin := [] }
theorem impl_valueSum_l0e (a0 : List Int) (a2 : List Int) (a3 : Int) (k : Nat) (a1 : Int) (a4 : Int) : loopC Try.prog EL111 or111 ((loopsIn (codeOf Try.f111)).getD 0 .skip) (Limpl_valueSum_l0).h (Limpl_valueSum_l0).ho Try.f111.ntmps (k + 1) (simpl_valueSum_l0.out ((a0, (a1, (a2, (a3, (a4, ()))))), ())) =
    impl_valueSum_l0K a0 a2 a3 (fun a1 a4 => loopC Try.prog EL111 or111 ((loopsIn (codeOf Try.f111)).getD 0 .skip) (Limpl_valueSum_l0).h (Limpl_valueSum_l0).ho Try.f111.ntmps k (simpl_valueSum_l0.out ((a0, (a1, (a2, (a3, (a4, ()))))), ()))) (fun y => some (XS.out ximpl_valueSum_l0 (a0, (a2, a3)) y)) a1 a4 := by kernel_rfl
theorem impl_valueSum_l0o : LoopOk Try.prog EL111 or111 Try.f111.ntmps ((loopsIn (codeOf Try.f111)).getD 0 .skip) (Limpl_valueSum_l0) :=
  loop_lim (hs := simpl_valueSum_l0) (xs := ximpl_valueSum_l0) (ι := fun (x : ((List Int) × Int × (List Int) × Int × Int × Unit) × (Unit)) => (x.1.1, (x.1.2.2.1, x.1.2.2.2.1))) (φ := fun (x : ((List Int) × Int × (List Int) × Int × Int × Unit) × (Unit)) => (x.1.2.1, x.1.2.2.2.2.1)) (ψ := fun (i : (List Int) × (List Int) × Int) (v : Int × Int) => ((i.1, (v.1, (i.2.1, (i.2.2, (v.2, ()))))), ())) (F := fun (i : (List Int) × (List Int) × Int) => impl_valueSum_l0F i.1 i.2.1 i.2.2) (fun _ => rfl) fun i k hk v => Par.of_eq (impl_valueSum_l0e i.1 i.2.1 i.2.2 k v.1 v.2) (impl_valueSum_l0p i.1 i.2.1 i.2.2 (fun a1 a4 => hk (a1, a4)) v.1 v.2)
def c111 : Callee := mkC [.one (.ro (.slice (.int .i64))), .one (.ro (.slice (.int .i64)))] 1 [.one (.ro (.int .i64))] fun x => impl_valueSum x.1 x.2
theorem e111 (x : PK.dens [.one (.ro (.slice (.int .i64))), .one (.ro (.slice (.int .i64)))]) : evalFn Try.prog EL111 or111 Try.f111 (PK.outs [.one (.ro (.slice (.int .i64))), .one (.ro (.slice (.int .i64)))] x) =
    impl_valueSumK (fun y => some (tupOf ((PK.outs [.one (.ro (.int .i64))] y).take 1), (PK.outs [.one (.ro (.int .i64))] y).drop 1)) x.1 x.2 := by kernel_rfl
theorem o111 : LoOk Try.prog EL111 or111 Try.f111.ntmps (loopsIn (codeOf Try.f111)) :=
  LoOk.mk (m := 1) (by kernel_rfl) fun i hi => match i, hi with
    | 0, _ => ⟨Limpl_valueSum_l0, by kernel_rfl, impl_valueSum_l0o⟩
    | i + 1, hi => absurd hi (by omega)
theorem k111 : CalleeOk Try.prog 111 c111 := callee_mk Try.func111 (code := codeOf Try.f111) (by kernel_rfl) vL111 mixed o111 fun x y h => (e111 x).trans (p111 _ x.1 x.2 y h)

/-- impl.ConePlan -/
def EL63 : Nat → Option Callee := addE 97 c97 (addE 111 c111 (addE 110 c110 (addE 96 c96 (addE 70 c70 env0))))
theorem vL63 : EnvOk Try.prog EL63 := ((((EnvOk.nil.add Try.func70 rfl (by kernel_rfl) k70).add Try.func96 rfl (by kernel_rfl) k96).add Try.func110 rfl (by kernel_rfl) k110).add Try.func111 rfl (by kernel_rfl) k111).add Try.func97 rfl (by kernel_rfl) k97
def simpl_ConePlan_l2 : LS := ⟨[(1, .one (.fix (.ptr 0 0))), (2, .one (.fix (.ptr 1 0))), (4, .one (.fix (.ptr 2 0))), (5, .one (.dat (.int .i64))), (6, .one (.fix (.sref 4))), (7, .one (.dat (.int .i64))), (28, .one (.fix (.sref 3))), (29, .one (.dat (.int .i64))), (30, .one (.dat (.int .i64)))], [.box [.dat (.slice (.slice (.int .i64))), .dat (.slice (.int .i64)), .dat (.slice (.int .i64)), .dat (.int .i64), .dat (.int .i64), .dat (.int .i64), .dat (.int .i64), .dat (.int .i64)], .box [.dat (.int .i64), .fix .nils], .box [.dat (.int .i64), .fix (.sref 3)], .sl (.int .i64), .sl (.int .i64)], []⟩
def simpl_ConePlan_l2x0 : LS := ⟨[(1, .one (.fix (.ptr 0 0))), (2, .one (.fix (.ptr 1 0))), (4, .one (.fix (.ptr 2 0))), (5, .one (.dat (.int .i64))), (6, .one (.fix (.sref 4)))], [.box [.dat (.slice (.slice (.int .i64))), .dat (.slice (.int .i64)), .dat (.slice (.int .i64)), .dat (.int .i64), .dat (.int .i64), .dat (.int .i64), .dat (.int .i64), .dat (.int .i64)], .box [.dat (.int .i64), .fix .nils], .box [.dat (.int .i64), .fix (.sref 3)], .sl (.int .i64), .sl (.int .i64)], []⟩
def ximpl_ConePlan_l2 : List (XS (Int × Int × (List (List Int)) × (List Int) × (List Int) × Int × Int × Int × Int × Int × Int × Int × (List Int))) := [⟨.exit 4, ⟨[1, 2, 4, 5, 6], [.slot 1, .slot 2, .slot 4, .cell 4 1, .slot 6], [], []⟩, simpl_ConePlan_l2x0, List Int, fun i y => (((), ((), ((), (i.1, ((), ()))))), ((i.2.2.1, (i.2.2.2.1, (i.2.2.2.2.1, (i.2.2.2.2.2.1, (i.2.2.2.2.2.2.1, (i.2.2.2.2.2.2.2.1, (i.2.2.2.2.2.2.2.2.1, (i.2.2.2.2.2.2.2.2.2.1, ())))))))), ((i.2.2.2.2.2.2.2.2.2.2.1, ((), ())), ((i.2.2.2.2.2.2.2.2.2.2.2.1, ((), ())), (i.2.2.2.2.2.2.2.2.2.2.2.2, (y, ()))))))⟩]
def impl_ConePlan_l2K {R : Type} (a0 : Int) (a2 : Int) (a4 : List (List Int)) (a5 : List Int) (a6 : List Int) (a7 : Int) (a8 : Int) (a9 : Int) (a10 : Int) (a11 : Int) (a13 : Int) (a14 : List Int) (rc : Int → Int → List Int → Option R) (fin : List Int → Option R) (a1 : Int) (a3 : Int) (a15 : List Int) : Option R :=
  cond (decide (a3 < a2))
  (cond (decide ((0 : Int) ≤ a3) && decide (a3 < (a14.length : Int)))
    (cond (decide ((a14.getD (0 + a3.toNat) 0) ≥ 0))
      (rc a1 (IntKind.i64.wrap (a3 + 1)) a15)
      ((impl_unminedCone (a4, (a5, (a6, ((a7, (a8, ())), (a9, (a10, (a11, ()))))))) (a13, (a14, ())) a3).bind fun y1 =>
        (impl_valueSum a6 y1).bind fun y2 =>
        cond (decide (y2 > a1))
        ((impl_fitsIn (a4, (a5, (a6, ((a7, (a8, ())), (a9, (a10, (a11, ()))))))) (a13, (a14, ())) y1 a0).bind fun y3 =>
          cond (y3)
          (rc y2 (IntKind.i64.wrap (a3 + 1)) y1)
          (rc a1 (IntKind.i64.wrap (a3 + 1)) a15))
        (rc a1 (IntKind.i64.wrap (a3 + 1)) a15)))
    (none))
  (fin a15)
def impl_ConePlan_l2F (a0 : Int) (a2 : Int) (a4 : List (List Int)) (a5 : List Int) (a6 : List Int) (a7 : Int) (a8 : Int) (a9 : Int) (a10 : Int) (a11 : Int) (a13 : Int) (a14 : List Int) (r : (Int × Int × (List Int)) → Option (List Int)) (x : Int × Int × (List Int)) : Option (List Int) := impl_ConePlan_l2K a0 a2 a4 a5 a6 a7 a8 a9 a10 a11 a13 a14 (fun a1 a3 a15 => r (a1, (a3, a15))) some x.1 x.2.1 x.2.2
theorem impl_ConePlan_l2c (a0 : Int) (a2 : Int) (a4 : List (List Int)) (a5 : List Int) (a6 : List Int) (a7 : Int) (a8 : Int) (a9 : Int) (a10 : Int) (a11 : Int) (a13 : Int) (a14 : List Int) (x : Int × Int × (List Int)) : Ct fun r => impl_ConePlan_l2F a0 a2 a4 a5 a6 a7 a8 a9 a10 a11 a13 a14 r x := by
  unfold impl_ConePlan_l2F impl_ConePlan_l2K
  repeat' (first | exact Ct.const | exact Ct.call | refine Ct.cond ?_ ?_ | refine Ct.bind ?_ fun _ => ?_ | refine Ct.sum (fun _ => ?_) fun _ => ?_)
def impl_ConePlan_l2 (a0 : Int) (a2 : Int) (a4 : List (List Int)) (a5 : List Int) (a6 : List Int) (a7 : Int) (a8 : Int) (a9 : Int) (a10 : Int) (a11 : Int) (a13 : Int) (a14 : List Int) (a1 : Int) (a3 : Int) (a15 : List Int) : Option (List Int) := lim (impl_ConePlan_l2F a0 a2 a4 a5 a6 a7 a8 a9 a10 a11 a13 a14) (a1, (a3, a15))
theorem impl_ConePlan_l2_eq (a0 : Int) (a2 : Int) (a4 : List (List Int)) (a5 : List Int) (a6 : List Int) (a7 : Int) (a8 : Int) (a9 : Int) (a10 : Int) (a11 : Int) (a13 : Int) (a14 : List Int) (a1 : Int) (a3 : Int) (a15 : List Int) : impl_ConePlan_l2 a0 a2 a4 a5 a6 a7 a8 a9 a10 a11 a13 a14 a1 a3 a15 = impl_ConePlan_l2K a0 a2 a4 a5 a6 a7 a8 a9 a10 a11 a13 a14 (impl_ConePlan_l2 a0 a2 a4 a5 a6 a7 a8 a9 a10 a11 a13 a14) some a1 a3 a15 := lim_eq (impl_ConePlan_l2c a0 a2 a4 a5 a6 a7 a8 a9 a10 a11 a13 a14) (a1, (a3, a15))
theorem impl_ConePlan_l2p {R : Type} (a0 : Int) (a2 : Int) (a4 : List (List Int)) (a5 : List Int) (a6 : List Int) (a7 : Int) (a8 : Int) (a9 : Int) (a10 : Int) (a11 : Int) (a13 : Int) (a14 : List Int) {rc : Int → Int → List Int → Option (List Int)} {rc' : Int → Int → List Int → Option R} {fin : List Int → Option R} (hr : ∀ a1 a3 a15, Par fin (rc a1 a3 a15) (rc' a1 a3 a15)) (a1 : Int) (a3 : Int) (a15 : List Int) : Par fin (impl_ConePlan_l2K a0 a2 a4 a5 a6 a7 a8 a9 a10 a11 a13 a14 rc some a1 a3 a15) (impl_ConePlan_l2K a0 a2 a4 a5 a6 a7 a8 a9 a10 a11 a13 a14 rc' fin a1 a3 a15) := by
  unfold impl_ConePlan_l2K
  repeat' (first | exact .fin | exact .none | exact hr _ _ _ | refine .cond ?_ ?_ | refine .bind fun _ => ?_ | refine .sum (fun _ => ?_) fun _ => ?_)
def Limpl_ConePlan_l2 : Loop := mkL ⟨[1, 2, 4, 5, 6, 7, 28, 29, 30], [.slot 1, .slot 2, .slot 4, .cell 4 1, .slot 6], [], []⟩ simpl_ConePlan_l2 ximpl_ConePlan_l2 (fun (x : (Unit × Unit × Unit × Int × Unit × Int × Unit × Int × Int × Unit) × (((List (List Int)) × (List Int) × (List Int) × Int × Int × Int × Int × Int × Unit) × (Int × Unit × Unit) × (Int × Unit × Unit) × (List Int) × (List Int) × Unit)) => (x.1.2.2.2.1, (x.1.2.2.2.2.2.2.2.1, (x.2.1.1, (x.2.1.2.1, (x.2.1.2.2.1, (x.2.1.2.2.2.1, (x.2.1.2.2.2.2.1, (x.2.1.2.2.2.2.2.1, (x.2.1.2.2.2.2.2.2.1, (x.2.1.2.2.2.2.2.2.2.1, (x.2.2.1.1, (x.2.2.2.1.1, x.2.2.2.2.1))))))))))))) fun (x : (Unit × Unit × Unit × Int × Unit × Int × Unit × Int × Int × Unit) × (((List (List Int)) × (List Int) × (List Int) × Int × Int × Int × Int × Int × Unit) × (Int × Unit × Unit) × (Int × Unit × Unit) × (List Int) × (List Int) × Unit)) => impl_ConePlan_l2 x.1.2.2.2.1 x.1.2.2.2.2.2.2.2.1 x.2.1.1 x.2.1.2.1 x.2.1.2.2.1 x.2.1.2.2.2.1 x.2.1.2.2.2.2.1 x.2.1.2.2.2.2.2.1 x.2.1.2.2.2.2.2.2.1 x.2.1.2.2.2.2.2.2.2.1 x.2.2.2.1.1 x.2.2.2.2.1 x.1.2.2.2.2.2.1 x.1.2.2.2.2.2.2.2.2.1 x.2.2.2.2.2.1
def simpl_ConePlan_l3 : LS := ⟨[(1, .one (.fix (.ptr 0 0))), (2, .one (.fix (.ptr 1 0))), (4, .one (.fix (.ptr 2 0))), (5, .one (.dat (.int .i64))), (61, .one (.fix (.sref 4))), (62, .one (.dat (.int .i64))), (63, .one (.dat (.int .i64)))], [.box [.dat (.slice (.slice (.int .i64))), .dat (.slice (.int .i64)), .dat (.slice (.int .i64)), .dat (.int .i64), .dat (.int .i64), .dat (.int .i64), .dat (.int .i64), .dat (.int .i64)], .box [.dat (.int .i64), .fix .nils], .box [.dat (.int .i64), .fix (.sref 3)], .sl (.int .i64), .sl (.int .i64)], []⟩
def simpl_ConePlan_l3x0 : LS := ⟨[(1, .one (.fix (.ptr 0 0))), (2, .one (.fix (.ptr 1 0))), (4, .one (.fix (.ptr 2 0))), (5, .one (.dat (.int .i64)))], [.box [.dat (.slice (.slice (.int .i64))), .dat (.slice (.int .i64)), .dat (.slice (.int .i64)), .dat (.int .i64), .dat (.int .i64), .dat (.int .i64), .dat (.int .i64), .dat (.int .i64)], .box [.dat (.int .i64), .fix .nils], .box [.dat (.int .i64), .fix (.sref 3)], .sl (.int .i64)], []⟩
def ximpl_ConePlan_l3 : List (XS (Int × Int × (List (List Int)) × (List Int) × (List Int) × Int × Int × Int × Int × Int × Int × Int × (List Int))) := [⟨.exit 6, ⟨[1, 2, 4, 5], [.slot 1, .slot 2, .slot 4, .cell 4 1], [], []⟩, simpl_ConePlan_l3x0, List Int, fun i y => (((), ((), ((), (i.1, ())))), ((i.2.2.1, (i.2.2.2.1, (i.2.2.2.2.1, (i.2.2.2.2.2.1, (i.2.2.2.2.2.2.1, (i.2.2.2.2.2.2.2.1, (i.2.2.2.2.2.2.2.2.1, (i.2.2.2.2.2.2.2.2.2.1, ())))))))), ((i.2.2.2.2.2.2.2.2.2.2.1, ((), ())), ((i.2.2.2.2.2.2.2.2.2.2.2.1, ((), ())), (y, ())))))⟩]
def impl_ConePlan_l3K {R : Type} (a0 : Int) (a1 : Int) (a14 : List Int) (rc : Int → List Int → Option R) (fin : List Int → Option R) (a2 : Int) (a13 : List Int) : Option R :=
  cond (decide (a2 < a1))
  (cond (decide ((0 : Int) ≤ a2) && decide (a2 < (a14.length : Int)))
    (cond (decide ((0 : Int) ≤ a14.getD (0 + a2.toNat) 0) && decide (a14.getD (0 + a2.toNat) 0 < (a13.length : Int)))
      ((some (a13.set (0 + (a14.getD (0 + a2.toNat) 0).toNat) a0)).bind fun v1 =>
        rc (IntKind.i64.wrap (a2 + 1)) v1)
      (none))
    (none))
  (fin a13)
def impl_ConePlan_l3F (a0 : Int) (a1 : Int) (a14 : List Int) (r : (Int × (List Int)) → Option (List Int)) (x : Int × (List Int)) : Option (List Int) := impl_ConePlan_l3K a0 a1 a14 (fun a2 a13 => r (a2, a13)) some x.1 x.2
theorem impl_ConePlan_l3c (a0 : Int) (a1 : Int) (a14 : List Int) (x : Int × (List Int)) : Ct fun r => impl_ConePlan_l3F a0 a1 a14 r x := by
  unfold impl_ConePlan_l3F impl_ConePlan_l3K
  repeat' (first | exact Ct.const | exact Ct.call | refine Ct.cond ?_ ?_ | refine Ct.bind ?_ fun _ => ?_ | refine Ct.sum (fun _ => ?_) fun _ => ?_)
def impl_ConePlan_l3 (a0 : Int) (a1 : Int) (a14 : List Int) (a2 : Int) (a13 : List Int) : Option (List Int) := lim (impl_ConePlan_l3F a0 a1 a14) (a2, a13)
theorem impl_ConePlan_l3_eq (a0 : Int) (a1 : Int) (a14 : List Int) (a2 : Int) (a13 : List Int) : impl_ConePlan_l3 a0 a1 a14 a2 a13 = impl_ConePlan_l3K a0 a1 a14 (impl_ConePlan_l3 a0 a1 a14) some a2 a13 := lim_eq (impl_ConePlan_l3c a0 a1 a14) (a2, a13)
theorem impl_ConePlan_l3p {R : Type} (a0 : Int) (a1 : Int) (a14 : List Int) {rc : Int → List Int → Option (List Int)} {rc' : Int → List Int → Option R} {fin : List Int → Option R} (hr : ∀ a2 a13, Par fin (rc a2 a13) (rc' a2 a13)) (a2 : Int) (a13 : List Int) : Par fin (impl_ConePlan_l3K a0 a1 a14 rc some a2 a13) (impl_ConePlan_l3K a0 a1 a14 rc' fin a2 a13) := by
  unfold impl_ConePlan_l3K
  repeat' (first | exact .fin | exact .none | exact hr _ _ | refine .cond ?_ ?_ | refine .bind fun _ => ?_ | refine .sum (fun _ => ?_) fun _ => ?_)
def Limpl_ConePlan_l3 : Loop := mkL ⟨[1, 2, 4, 5, 61, 62, 63], [.slot 1, .slot 2, .slot 4, .cell 4 1, .slot 61], [], []⟩ simpl_ConePlan_l3 ximpl_ConePlan_l3 (fun (x : (Unit × Unit × Unit × Int × Unit × Int × Int × Unit) × (((List (List Int)) × (List Int) × (List Int) × Int × Int × Int × Int × Int × Unit) × (Int × Unit × Unit) × (Int × Unit × Unit) × (List Int) × (List Int) × Unit)) => (x.1.2.2.2.1, (x.1.2.2.2.2.2.1, (x.2.1.1, (x.2.1.2.1, (x.2.1.2.2.1, (x.2.1.2.2.2.1, (x.2.1.2.2.2.2.1, (x.2.1.2.2.2.2.2.1, (x.2.1.2.2.2.2.2.2.1, (x.2.1.2.2.2.2.2.2.2.1, (x.2.2.1.1, (x.2.2.2.1.1, x.2.2.2.2.2.1))))))))))))) fun (x : (Unit × Unit × Unit × Int × Unit × Int × Int × Unit) × (((List (List Int)) × (List Int) × (List Int) × Int × Int × Int × Int × Int × Unit) × (Int × Unit × Unit) × (Int × Unit × Unit) × (List Int) × (List Int) × Unit)) => impl_ConePlan_l3 x.1.2.2.2.1 x.1.2.2.2.2.2.1 x.2.2.2.2.2.1 x.1.2.2.2.2.2.2.1 x.2.2.2.2.1
def simpl_ConePlan_l1 : LS := ⟨[(1, .one (.fix (.ptr 0 0))), (2, .one (.fix (.ptr 1 0))), (4, .one (.fix (.ptr 2 0))), (5, .one (.dat (.int .i64)))], [.box [.dat (.slice (.slice (.int .i64))), .dat (.slice (.int .i64)), .dat (.slice (.int .i64)), .dat (.int .i64), .dat (.int .i64), .dat (.int .i64), .dat (.int .i64), .dat (.int .i64)], .box [.dat (.int .i64), .fix .nils], .box [.dat (.int .i64), .fix (.sref 3)], .sl (.int .i64)], []⟩
def simpl_ConePlan_l1x0 : LS := ⟨[(1, .one (.fix (.ptr 0 0))), (2, .one (.fix (.ptr 1 0))), (4, .one (.fix (.ptr 2 0))), (5, .one (.dat (.int .i64)))], [.box [.dat (.slice (.slice (.int .i64))), .dat (.slice (.int .i64)), .dat (.slice (.int .i64)), .dat (.int .i64), .dat (.int .i64), .dat (.int .i64), .dat (.int .i64), .dat (.int .i64)], .box [.dat (.int .i64), .fix .nils], .box [.dat (.int .i64), .fix (.sref 3)], .sl (.int .i64)], []⟩
def ximpl_ConePlan_l1 : List (XS (Int × (List (List Int)) × (List Int) × (List Int) × Int × Int × Int × Int × Int × Int × Int)) := [⟨.exit 2, ⟨[1, 2, 4, 5], [.slot 1, .slot 2, .slot 4, .cell 4 1], [], []⟩, simpl_ConePlan_l1x0, List Int, fun i y => (((), ((), ((), (i.1, ())))), ((i.2.1, (i.2.2.1, (i.2.2.2.1, (i.2.2.2.2.1, (i.2.2.2.2.2.1, (i.2.2.2.2.2.2.1, (i.2.2.2.2.2.2.2.1, (i.2.2.2.2.2.2.2.2.1, ())))))))), ((i.2.2.2.2.2.2.2.2.2.1, ((), ())), ((i.2.2.2.2.2.2.2.2.2.2, ((), ())), (y, ())))))⟩]
def impl_ConePlan_l1K {R : Type} (a0 : Int) (a1 : List (List Int)) (a2 : List Int) (a3 : List Int) (a4 : Int) (a5 : Int) (a6 : Int) (a7 : Int) (a8 : Int) (a10 : Int) (rc : List Int → Option R) (fin : List Int → Option R) (a11 : List Int) : Option R :=
  (impl_ConePlan_l2 a0 (a11.length : Int) a1 a2 a3 a4 a5 a6 a7 a8 a10 a11 0 0 []).bind fun y4 =>
  cond ((y4.length : Int) == 0)
  (fin a11)
  ((impl_ConePlan_l3 a0 (y4.length : Int) y4 0 a11).bind fun y6 =>
    rc y6)
def impl_ConePlan_l1F (a0 : Int) (a1 : List (List Int)) (a2 : List Int) (a3 : List Int) (a4 : Int) (a5 : Int) (a6 : Int) (a7 : Int) (a8 : Int) (a10 : Int) (r : List Int → Option (List Int)) (x : List Int) : Option (List Int) := impl_ConePlan_l1K a0 a1 a2 a3 a4 a5 a6 a7 a8 a10 (fun a11 => r a11) some x
theorem impl_ConePlan_l1c (a0 : Int) (a1 : List (List Int)) (a2 : List Int) (a3 : List Int) (a4 : Int) (a5 : Int) (a6 : Int) (a7 : Int) (a8 : Int) (a10 : Int) (x : List Int) : Ct fun r => impl_ConePlan_l1F a0 a1 a2 a3 a4 a5 a6 a7 a8 a10 r x := by
  unfold impl_ConePlan_l1F impl_ConePlan_l1K
  repeat' (first | exact Ct.const | exact Ct.call | refine Ct.cond ?_ ?_ | refine Ct.bind ?_ fun _ => ?_ | refine Ct.sum (fun _ => ?_) fun _ => ?_)
def impl_ConePlan_l1 (a0 : Int) (a1 : List (List Int)) (a2 : List Int) (a3 : List Int) (a4 : Int) (a5 : Int) (a6 : Int) (a7 : Int) (a8 : Int) (a10 : Int) (a11 : List Int) : Option (List Int) := lim (impl_ConePlan_l1F a0 a1 a2 a3 a4 a5 a6 a7 a8 a10) a11
theorem impl_ConePlan_l1_eq (a0 : Int) (a1 : List (List Int)) (a2 : List Int) (a3 : List Int) (a4 : Int) (a5 : Int) (a6 : Int) (a7 : Int) (a8 : Int) (a10 : Int) (a11 : List Int) : impl_ConePlan_l1 a0 a1 a2 a3 a4 a5 a6 a7 a8 a10 a11 = impl_ConePlan_l1K a0 a1 a2 a3 a4 a5 a6 a7 a8 a10 (impl_ConePlan_l1 a0 a1 a2 a3 a4 a5 a6 a7 a8 a10) some a11 := lim_eq (impl_ConePlan_l1c a0 a1 a2 a3 a4 a5 a6 a7 a8 a10) a11
theorem impl_ConePlan_l1p {R : Type} (a0 : Int) (a1 : List (List Int)) (a2 : List Int) (a3 : List Int) (a4 : Int) (a5 : Int) (a6 : Int) (a7 : Int) (a8 : Int) (a10 : Int) {rc : List Int → Option (List Int)} {rc' : List Int → Option R} {fin : List Int → Option R} (hr : ∀ a11, Par fin (rc a11) (rc' a11)) (a11 : List Int) : Par fin (impl_ConePlan_l1K a0 a1 a2 a3 a4 a5 a6 a7 a8 a10 rc some a11) (impl_ConePlan_l1K a0 a1 a2 a3 a4 a5 a6 a7 a8 a10 rc' fin a11) := by
  unfold impl_ConePlan_l1K
  repeat' (first | exact .fin | exact .none | exact hr _ | refine .cond ?_ ?_ | refine .bind fun _ => ?_ | refine .sum (fun _ => ?_) fun _ => ?_)
def Limpl_ConePlan_l1 : Loop := mkL ⟨[1, 2, 4, 5], [.slot 1, .slot 2, .slot 4, .cell 4 1], [], []⟩ simpl_ConePlan_l1 ximpl_ConePlan_l1 (fun (x : (Unit × Unit × Unit × Int × Unit) × (((List (List Int)) × (List Int) × (List Int) × Int × Int × Int × Int × Int × Unit) × (Int × Unit × Unit) × (Int × Unit × Unit) × (List Int) × Unit)) => (x.1.2.2.2.1, (x.2.1.1, (x.2.1.2.1, (x.2.1.2.2.1, (x.2.1.2.2.2.1, (x.2.1.2.2.2.2.1, (x.2.1.2.2.2.2.2.1, (x.2.1.2.2.2.2.2.2.1, (x.2.1.2.2.2.2.2.2.2.1, (x.2.2.1.1, x.2.2.2.1.1))))))))))) fun (x : (Unit × Unit × Unit × Int × Unit) × (((List (List Int)) × (List Int) × (List Int) × Int × Int × Int × Int × Int × Unit) × (Int × Unit × Unit) × (Int × Unit × Unit) × (List Int) × Unit)) => impl_ConePlan_l1 x.1.2.2.2.1 x.2.1.1 x.2.1.2.1 x.2.1.2.2.1 x.2.1.2.2.2.1 x.2.1.2.2.2.2.1 x.2.1.2.2.2.2.2.1 x.2.1.2.2.2.2.2.2.1 x.2.1.2.2.2.2.2.2.2.1 x.2.2.2.1.1 x.2.2.2.2.1
def simpl_ConePlan_l0 : LS := ⟨[(1, .one (.fix (.ptr 0 0))), (2, .one (.fix (.ptr 1 0))), (4, .one (.fix (.ptr 2 0))), (5, .one (.dat (.int .i64)))], [.box [.dat (.slice (.slice (.int .i64))), .dat (.slice (.int .i64)), .dat (.slice (.int .i64)), .dat (.int .i64), .dat (.int .i64), .dat (.int .i64), .dat (.int .i64), .dat (.int .i64)], .box [.dat (.int .i64), .fix .nils], .box [.dat (.int .i64), .fix (.sref 3)], .sl (.int .i64)], []⟩
def simpl_ConePlan_l0x0 : LS := ⟨[(2, .one (.fix (.ptr 0 0))), (4, .one (.fix (.ptr 1 0)))], [.box [.dat (.int .i64), .fix .nils], .box [.dat (.int .i64), .fix (.sref 2)], .sl (.int .i64)], []⟩
def ximpl_ConePlan_l0 : List (XS ((List (List Int)) × (List Int) × (List Int) × Int × Int × Int × Int × Int × Int × Int)) := [⟨.exit 0, ⟨[2, 4], [.slot 2, .slot 4, .cell 4 1], [], []⟩, simpl_ConePlan_l0x0, List Int, fun i y => (((), ((), ())), ((i.2.2.2.2.2.2.2.2.1, ((), ())), ((i.2.2.2.2.2.2.2.2.2, ((), ())), (y, ()))))⟩]
def impl_ConePlan_l0K {R : Type} (a1 : List (List Int)) (a2 : List Int) (a3 : List Int) (a4 : Int) (a5 : Int) (a6 : Int) (a7 : Int) (a8 : Int) (a10 : Int) (rc : Int → List Int → Option R) (fin : List Int → Option R) (a0 : Int) (a11 : List Int) : Option R :=
  cond (decide (a0 < a6))
  ((impl_ConePlan_l1 a0 a1 a2 a3 a4 a5 a6 a7 a8 a10 a11).bind fun y7 =>
    rc (IntKind.i64.wrap (a0 + 1)) y7)
  (fin a11)
def impl_ConePlan_l0F (a1 : List (List Int)) (a2 : List Int) (a3 : List Int) (a4 : Int) (a5 : Int) (a6 : Int) (a7 : Int) (a8 : Int) (a10 : Int) (r : (Int × (List Int)) → Option (List Int)) (x : Int × (List Int)) : Option (List Int) := impl_ConePlan_l0K a1 a2 a3 a4 a5 a6 a7 a8 a10 (fun a0 a11 => r (a0, a11)) some x.1 x.2
theorem impl_ConePlan_l0c (a1 : List (List Int)) (a2 : List Int) (a3 : List Int) (a4 : Int) (a5 : Int) (a6 : Int) (a7 : Int) (a8 : Int) (a10 : Int) (x : Int × (List Int)) : Ct fun r => impl_ConePlan_l0F a1 a2 a3 a4 a5 a6 a7 a8 a10 r x := by
  unfold impl_ConePlan_l0F impl_ConePlan_l0K
  repeat' (first | exact Ct.const | exact Ct.call | refine Ct.cond ?_ ?_ | refine Ct.bind ?_ fun _ => ?_ | refine Ct.sum (fun _ => ?_) fun _ => ?_)
def impl_ConePlan_l0 (a1 : List (List Int)) (a2 : List Int) (a3 : List Int) (a4 : Int) (a5 : Int) (a6 : Int) (a7 : Int) (a8 : Int) (a10 : Int) (a0 : Int) (a11 : List Int) : Option (List Int) := lim (impl_ConePlan_l0F a1 a2 a3 a4 a5 a6 a7 a8 a10) (a0, a11)
theorem impl_ConePlan_l0_eq (a1 : List (List Int)) (a2 : List Int) (a3 : List Int) (a4 : Int) (a5 : Int) (a6 : Int) (a7 : Int) (a8 : Int) (a10 : Int) (a0 : Int) (a11 : List Int) : impl_ConePlan_l0 a1 a2 a3 a4 a5 a6 a7 a8 a10 a0 a11 = impl_ConePlan_l0K a1 a2 a3 a4 a5 a6 a7 a8 a10 (impl_ConePlan_l0 a1 a2 a3 a4 a5 a6 a7 a8 a10) some a0 a11 := lim_eq (impl_ConePlan_l0c a1 a2 a3 a4 a5 a6 a7 a8 a10) (a0, a11)
theorem impl_ConePlan_l0p {R : Type} (a1 : List (List Int)) (a2 : List Int) (a3 : List Int) (a4 : Int) (a5 : Int) (a6 : Int) (a7 : Int) (a8 : Int) (a10 : Int) {rc : Int → List Int → Option (List Int)} {rc' : Int → List Int → Option R} {fin : List Int → Option R} (hr : ∀ a0 a11, Par fin (rc a0 a11) (rc' a0 a11)) (a0 : Int) (a11 : List Int) : Par fin (impl_ConePlan_l0K a1 a2 a3 a4 a5 a6 a7 a8 a10 rc some a0 a11) (impl_ConePlan_l0K a1 a2 a3 a4 a5 a6 a7 a8 a10 rc' fin a0 a11) := by
  unfold impl_ConePlan_l0K
  repeat' (first | exact .fin | exact .none | exact hr _ _ | refine .cond ?_ ?_ | refine .bind fun _ => ?_ | refine .sum (fun _ => ?_) fun _ => ?_)
def Limpl_ConePlan_l0 : Loop := mkL ⟨[1, 2, 4, 5], [.slot 1, .slot 2, .slot 4, .cell 4 1], [], []⟩ simpl_ConePlan_l0 ximpl_ConePlan_l0 (fun (x : (Unit × Unit × Unit × Int × Unit) × (((List (List Int)) × (List Int) × (List Int) × Int × Int × Int × Int × Int × Unit) × (Int × Unit × Unit) × (Int × Unit × Unit) × (List Int) × Unit)) => (x.2.1.1, (x.2.1.2.1, (x.2.1.2.2.1, (x.2.1.2.2.2.1, (x.2.1.2.2.2.2.1, (x.2.1.2.2.2.2.2.1, (x.2.1.2.2.2.2.2.2.1, (x.2.1.2.2.2.2.2.2.2.1, (x.2.2.1.1, x.2.2.2.1.1)))))))))) fun (x : (Unit × Unit × Unit × Int × Unit) × (((List (List Int)) × (List Int) × (List Int) × Int × Int × Int × Int × Int × Unit) × (Int × Unit × Unit) × (Int × Unit × Unit) × (List Int) × Unit)) => impl_ConePlan_l0 x.2.1.1 x.2.1.2.1 x.2.1.2.2.1 x.2.1.2.2.2.1 x.2.1.2.2.2.2.1 x.2.1.2.2.2.2.2.1 x.2.1.2.2.2.2.2.2.1 x.2.1.2.2.2.2.2.2.2.1 x.2.2.2.1.1 x.1.2.2.2.1 x.2.2.2.2.1
def impl_ConePlanK {R : Type} (fin : (Int × (List Int)) × Bool → Option R) (x0 : DJob) : Option R :=
  (impl_IsJob x0).bind fun y1 =>
  cond (!y1)
  (fin ((0, []), false))
  ((impl_emptyPlan x0).bind fun y2 =>
    (impl_ConePlan_l0 x0.1 x0.2.1 x0.2.2.1 x0.2.2.2.1.1 x0.2.2.2.1.2.1 x0.2.2.2.2.1 x0.2.2.2.2.2.1 x0.2.2.2.2.2.2.1 y2.1 0 y2.2).bind fun y10 =>
    fin ((y2.1, y10), true))
def impl_ConePlan (x0 : DJob) : Option ((Int × (List Int)) × Bool) := impl_ConePlanK some x0
theorem p63 {R : Type} (fin : (Int × (List Int)) × Bool → Option R) (x0 : DJob) : Par fin (impl_ConePlanK some x0) (impl_ConePlanK fin x0) := by
  unfold impl_ConePlanK
  repeat' (first | exact .fin | exact .none | refine .cond ?_ ?_ | refine .bind fun _ => ?_ | refine .sum (fun _ => ?_) fun _ => ?_)
def or63 : Ora := { lo := addL 5 (Limpl_ConePlan_l0) (addL 7 (Limpl_ConePlan_l1) (addL 20 (Limpl_ConePlan_l3) (addL 10 (Limpl_ConePlan_l2) lo0))), fin := [.own (.cell 2 1) (.int .i64)] }
theorem impl_ConePlan_l2e (a0 : Int) (a2 : Int) (a4 : List (List Int)) (a5 : List Int) (a6 : List Int) (a7 : Int) (a8 : Int) (a9 : Int) (a10 : Int) (a11 : Int) (a12 : Int) (a13 : Int) (a14 : List Int) (k : Nat) (a1 : Int) (a3 : Int) (a15 : List Int) : loopC Try.prog EL63 or63 ((loopsIn (codeOf Try.f63)).getD 2 .skip) (Limpl_ConePlan_l2).h (Limpl_ConePlan_l2).ho Try.f63.ntmps (k + 1) (simpl_ConePlan_l2.out (((), ((), ((), (a0, ((), (a1, ((), (a2, (a3, ()))))))))), ((a4, (a5, (a6, (a7, (a8, (a9, (a10, (a11, ())))))))), ((a12, ((), ())), ((a13, ((), ())), (a14, (a15, ()))))))) =
    impl_ConePlan_l2K a0 a2 a4 a5 a6 a7 a8 a9 a10 a11 a13 a14 (fun a1 a3 a15 => loopC Try.prog EL63 or63 ((loopsIn (codeOf Try.f63)).getD 2 .skip) (Limpl_ConePlan_l2).h (Limpl_ConePlan_l2).ho Try.f63.ntmps k (simpl_ConePlan_l2.out (((), ((), ((), (a0, ((), (a1, ((), (a2, (a3, ()))))))))), ((a4, (a5, (a6, (a7, (a8, (a9, (a10, (a11, ())))))))), ((a12, ((), ())), ((a13, ((), ())), (a14, (a15, ())))))))) (fun y => some (XS.out ximpl_ConePlan_l2 (a0, (a2, (a4, (a5, (a6, (a7, (a8, (a9, (a10, (a11, (a12, (a13, a14)))))))))))) y)) a1 a3 a15 := by kernel_rfl
theorem impl_ConePlan_l2o : LoopOk Try.prog EL63 or63 Try.f63.ntmps ((loopsIn (codeOf Try.f63)).getD 2 .skip) (Limpl_ConePlan_l2) :=
  loop_lim (hs := simpl_ConePlan_l2) (xs := ximpl_ConePlan_l2) (ι := fun (x : (Unit × Unit × Unit × Int × Unit × Int × Unit × Int × Int × Unit) × (((List (List Int)) × (List Int) × (List Int) × Int × Int × Int × Int × Int × Unit) × (Int × Unit × Unit) × (Int × Unit × Unit) × (List Int) × (List Int) × Unit)) => (x.1.2.2.2.1, (x.1.2.2.2.2.2.2.2.1, (x.2.1.1, (x.2.1.2.1, (x.2.1.2.2.1, (x.2.1.2.2.2.1, (x.2.1.2.2.2.2.1, (x.2.1.2.2.2.2.2.1, (x.2.1.2.2.2.2.2.2.1, (x.2.1.2.2.2.2.2.2.2.1, (x.2.2.1.1, (x.2.2.2.1.1, x.2.2.2.2.1))))))))))))) (φ := fun (x : (Unit × Unit × Unit × Int × Unit × Int × Unit × Int × Int × Unit) × (((List (List Int)) × (List Int) × (List Int) × Int × Int × Int × Int × Int × Unit) × (Int × Unit × Unit) × (Int × Unit × Unit) × (List Int) × (List Int) × Unit)) => (x.1.2.2.2.2.2.1, (x.1.2.2.2.2.2.2.2.2.1, x.2.2.2.2.2.1))) (ψ := fun (i : Int × Int × (List (List Int)) × (List Int) × (List Int) × Int × Int × Int × Int × Int × Int × Int × (List Int)) (v : Int × Int × (List Int)) => (((), ((), ((), (i.1, ((), (v.1, ((), (i.2.1, (v.2.1, ()))))))))), ((i.2.2.1, (i.2.2.2.1, (i.2.2.2.2.1, (i.2.2.2.2.2.1, (i.2.2.2.2.2.2.1, (i.2.2.2.2.2.2.2.1, (i.2.2.2.2.2.2.2.2.1, (i.2.2.2.2.2.2.2.2.2.1, ())))))))), ((i.2.2.2.2.2.2.2.2.2.2.1, ((), ())), ((i.2.2.2.2.2.2.2.2.2.2.2.1, ((), ())), (i.2.2.2.2.2.2.2.2.2.2.2.2, (v.2.2, ()))))))) (F := fun (i : Int × Int × (List (List Int)) × (List Int) × (List Int) × Int × Int × Int × Int × Int × Int × Int × (List Int)) => impl_ConePlan_l2F i.1 i.2.1 i.2.2.1 i.2.2.2.1 i.2.2.2.2.1 i.2.2.2.2.2.1 i.2.2.2.2.2.2.1 i.2.2.2.2.2.2.2.1 i.2.2.2.2.2.2.2.2.1 i.2.2.2.2.2.2.2.2.2.1 i.2.2.2.2.2.2.2.2.2.2.2.1 i.2.2.2.2.2.2.2.2.2.2.2.2) (fun _ => rfl) fun i k hk v => Par.of_eq (impl_ConePlan_l2e i.1 i.2.1 i.2.2.1 i.2.2.2.1 i.2.2.2.2.1 i.2.2.2.2.2.1 i.2.2.2.2.2.2.1 i.2.2.2.2.2.2.2.1 i.2.2.2.2.2.2.2.2.1 i.2.2.2.2.2.2.2.2.2.1 i.2.2.2.2.2.2.2.2.2.2.1 i.2.2.2.2.2.2.2.2.2.2.2.1 i.2.2.2.2.2.2.2.2.2.2.2.2 k v.1 v.2.1 v.2.2) (impl_ConePlan_l2p i.1 i.2.1 i.2.2.1 i.2.2.2.1 i.2.2.2.2.1 i.2.2.2.2.2.1 i.2.2.2.2.2.2.1 i.2.2.2.2.2.2.2.1 i.2.2.2.2.2.2.2.2.1 i.2.2.2.2.2.2.2.2.2.1 i.2.2.2.2.2.2.2.2.2.2.2.1 i.2.2.2.2.2.2.2.2.2.2.2.2 (fun a1 a3 a15 => hk (a1, (a3, a15))) v.1 v.2.1 v.2.2)
theorem impl_ConePlan_l3e (a0 : Int) (a1 : Int) (a3 : List (List Int)) (a4 : List Int) (a5 : List Int) (a6 : Int) (a7 : Int) (a8 : Int) (a9 : Int) (a10 : Int) (a11 : Int) (a12 : Int) (a14 : List Int) (k : Nat) (a2 : Int) (a13 : List Int) : loopC Try.prog EL63 or63 ((loopsIn (codeOf Try.f63)).getD 3 .skip) (Limpl_ConePlan_l3).h (Limpl_ConePlan_l3).ho Try.f63.ntmps (k + 1) (simpl_ConePlan_l3.out (((), ((), ((), (a0, ((), (a1, (a2, ()))))))), ((a3, (a4, (a5, (a6, (a7, (a8, (a9, (a10, ())))))))), ((a11, ((), ())), ((a12, ((), ())), (a13, (a14, ()))))))) =
    impl_ConePlan_l3K a0 a1 a14 (fun a2 a13 => loopC Try.prog EL63 or63 ((loopsIn (codeOf Try.f63)).getD 3 .skip) (Limpl_ConePlan_l3).h (Limpl_ConePlan_l3).ho Try.f63.ntmps k (simpl_ConePlan_l3.out (((), ((), ((), (a0, ((), (a1, (a2, ()))))))), ((a3, (a4, (a5, (a6, (a7, (a8, (a9, (a10, ())))))))), ((a11, ((), ())), ((a12, ((), ())), (a13, (a14, ())))))))) (fun y => some (XS.out ximpl_ConePlan_l3 (a0, (a1, (a3, (a4, (a5, (a6, (a7, (a8, (a9, (a10, (a11, (a12, a14)))))))))))) y)) a2 a13 := by kernel_rfl
theorem impl_ConePlan_l3o : LoopOk Try.prog EL63 or63 Try.f63.ntmps ((loopsIn (codeOf Try.f63)).getD 3 .skip) (Limpl_ConePlan_l3) :=
  loop_lim (hs := simpl_ConePlan_l3) (xs := ximpl_ConePlan_l3) (ι := fun (x : (Unit × Unit × Unit × Int × Unit × Int × Int × Unit) × (((List (List Int)) × (List Int) × (List Int) × Int × Int × Int × Int × Int × Unit) × (Int × Unit × Unit) × (Int × Unit × Unit) × (List Int) × (List Int) × Unit)) => (x.1.2.2.2.1, (x.1.2.2.2.2.2.1, (x.2.1.1, (x.2.1.2.1, (x.2.1.2.2.1, (x.2.1.2.2.2.1, (x.2.1.2.2.2.2.1, (x.2.1.2.2.2.2.2.1, (x.2.1.2.2.2.2.2.2.1, (x.2.1.2.2.2.2.2.2.2.1, (x.2.2.1.1, (x.2.2.2.1.1, x.2.2.2.2.2.1))))))))))))) (φ := fun (x : (Unit × Unit × Unit × Int × Unit × Int × Int × Unit) × (((List (List Int)) × (List Int) × (List Int) × Int × Int × Int × Int × Int × Unit) × (Int × Unit × Unit) × (Int × Unit × Unit) × (List Int) × (List Int) × Unit)) => (x.1.2.2.2.2.2.2.1, x.2.2.2.2.1)) (ψ := fun (i : Int × Int × (List (List Int)) × (List Int) × (List Int) × Int × Int × Int × Int × Int × Int × Int × (List Int)) (v : Int × (List Int)) => (((), ((), ((), (i.1, ((), (i.2.1, (v.1, ()))))))), ((i.2.2.1, (i.2.2.2.1, (i.2.2.2.2.1, (i.2.2.2.2.2.1, (i.2.2.2.2.2.2.1, (i.2.2.2.2.2.2.2.1, (i.2.2.2.2.2.2.2.2.1, (i.2.2.2.2.2.2.2.2.2.1, ())))))))), ((i.2.2.2.2.2.2.2.2.2.2.1, ((), ())), ((i.2.2.2.2.2.2.2.2.2.2.2.1, ((), ())), (v.2, (i.2.2.2.2.2.2.2.2.2.2.2.2, ()))))))) (F := fun (i : Int × Int × (List (List Int)) × (List Int) × (List Int) × Int × Int × Int × Int × Int × Int × Int × (List Int)) => impl_ConePlan_l3F i.1 i.2.1 i.2.2.2.2.2.2.2.2.2.2.2.2) (fun _ => rfl) fun i k hk v => Par.of_eq (impl_ConePlan_l3e i.1 i.2.1 i.2.2.1 i.2.2.2.1 i.2.2.2.2.1 i.2.2.2.2.2.1 i.2.2.2.2.2.2.1 i.2.2.2.2.2.2.2.1 i.2.2.2.2.2.2.2.2.1 i.2.2.2.2.2.2.2.2.2.1 i.2.2.2.2.2.2.2.2.2.2.1 i.2.2.2.2.2.2.2.2.2.2.2.1 i.2.2.2.2.2.2.2.2.2.2.2.2 k v.1 v.2) (impl_ConePlan_l3p i.1 i.2.1 i.2.2.2.2.2.2.2.2.2.2.2.2 (fun a2 a13 => hk (a2, a13)) v.1 v.2)
theorem impl_ConePlan_l1e (a0 : Int) (a1 : List (List Int)) (a2 : List Int) (a3 : List Int) (a4 : Int) (a5 : Int) (a6 : Int) (a7 : Int) (a8 : Int) (a9 : Int) (a10 : Int) (k : Nat) (a11 : List Int) : loopC Try.prog EL63 or63 ((loopsIn (codeOf Try.f63)).getD 1 .skip) (Limpl_ConePlan_l1).h (Limpl_ConePlan_l1).ho Try.f63.ntmps (k + 1) (simpl_ConePlan_l1.out (((), ((), ((), (a0, ())))), ((a1, (a2, (a3, (a4, (a5, (a6, (a7, (a8, ())))))))), ((a9, ((), ())), ((a10, ((), ())), (a11, ())))))) =
    impl_ConePlan_l1K a0 a1 a2 a3 a4 a5 a6 a7 a8 a10 (fun a11 => loopC Try.prog EL63 or63 ((loopsIn (codeOf Try.f63)).getD 1 .skip) (Limpl_ConePlan_l1).h (Limpl_ConePlan_l1).ho Try.f63.ntmps k (simpl_ConePlan_l1.out (((), ((), ((), (a0, ())))), ((a1, (a2, (a3, (a4, (a5, (a6, (a7, (a8, ())))))))), ((a9, ((), ())), ((a10, ((), ())), (a11, ()))))))) (fun y => some (XS.out ximpl_ConePlan_l1 (a0, (a1, (a2, (a3, (a4, (a5, (a6, (a7, (a8, (a9, a10)))))))))) y)) a11 := by kernel_rfl
theorem impl_ConePlan_l1o : LoopOk Try.prog EL63 or63 Try.f63.ntmps ((loopsIn (codeOf Try.f63)).getD 1 .skip) (Limpl_ConePlan_l1) :=
  loop_lim (hs := simpl_ConePlan_l1) (xs := ximpl_ConePlan_l1) (ι := fun (x : (Unit × Unit × Unit × Int × Unit) × (((List (List Int)) × (List Int) × (List Int) × Int × Int × Int × Int × Int × Unit) × (Int × Unit × Unit) × (Int × Unit × Unit) × (List Int) × Unit)) => (x.1.2.2.2.1, (x.2.1.1, (x.2.1.2.1, (x.2.1.2.2.1, (x.2.1.2.2.2.1, (x.2.1.2.2.2.2.1, (x.2.1.2.2.2.2.2.1, (x.2.1.2.2.2.2.2.2.1, (x.2.1.2.2.2.2.2.2.2.1, (x.2.2.1.1, x.2.2.2.1.1))))))))))) (φ := fun (x : (Unit × Unit × Unit × Int × Unit) × (((List (List Int)) × (List Int) × (List Int) × Int × Int × Int × Int × Int × Unit) × (Int × Unit × Unit) × (Int × Unit × Unit) × (List Int) × Unit)) => x.2.2.2.2.1) (ψ := fun (i : Int × (List (List Int)) × (List Int) × (List Int) × Int × Int × Int × Int × Int × Int × Int) (v : List Int) => (((), ((), ((), (i.1, ())))), ((i.2.1, (i.2.2.1, (i.2.2.2.1, (i.2.2.2.2.1, (i.2.2.2.2.2.1, (i.2.2.2.2.2.2.1, (i.2.2.2.2.2.2.2.1, (i.2.2.2.2.2.2.2.2.1, ())))))))), ((i.2.2.2.2.2.2.2.2.2.1, ((), ())), ((i.2.2.2.2.2.2.2.2.2.2, ((), ())), (v, ())))))) (F := fun (i : Int × (List (List Int)) × (List Int) × (List Int) × Int × Int × Int × Int × Int × Int × Int) => impl_ConePlan_l1F i.1 i.2.1 i.2.2.1 i.2.2.2.1 i.2.2.2.2.1 i.2.2.2.2.2.1 i.2.2.2.2.2.2.1 i.2.2.2.2.2.2.2.1 i.2.2.2.2.2.2.2.2.1 i.2.2.2.2.2.2.2.2.2.2) (fun _ => rfl) fun i k hk v => Par.of_eq (impl_ConePlan_l1e i.1 i.2.1 i.2.2.1 i.2.2.2.1 i.2.2.2.2.1 i.2.2.2.2.2.1 i.2.2.2.2.2.2.1 i.2.2.2.2.2.2.2.1 i.2.2.2.2.2.2.2.2.1 i.2.2.2.2.2.2.2.2.2.1 i.2.2.2.2.2.2.2.2.2.2 k v) (impl_ConePlan_l1p i.1 i.2.1 i.2.2.1 i.2.2.2.1 i.2.2.2.2.1 i.2.2.2.2.2.1 i.2.2.2.2.2.2.1 i.2.2.2.2.2.2.2.1 i.2.2.2.2.2.2.2.2.1 i.2.2.2.2.2.2.2.2.2.2 (fun a11 => hk a11) v)
theorem impl_ConePlan_l0e (a1 : List (List Int)) (a2 : List Int) (a3 : List Int) (a4 : Int) (a5 : Int) (a6 : Int) (a7 : Int) (a8 : Int) (a9 : Int) (a10 : Int) (k : Nat) (a0 : Int) (a11 : List Int) : loopC Try.prog EL63 or63 ((loopsIn (codeOf Try.f63)).getD 0 .skip) (Limpl_ConePlan_l0).h (Limpl_ConePlan_l0).ho Try.f63.ntmps (k + 1) (simpl_ConePlan_l0.out (((), ((), ((), (a0, ())))), ((a1, (a2, (a3, (a4, (a5, (a6, (a7, (a8, ())))))))), ((a9, ((), ())), ((a10, ((), ())), (a11, ())))))) =
    impl_ConePlan_l0K a1 a2 a3 a4 a5 a6 a7 a8 a10 (fun a0 a11 => loopC Try.prog EL63 or63 ((loopsIn (codeOf Try.f63)).getD 0 .skip) (Limpl_ConePlan_l0).h (Limpl_ConePlan_l0).ho Try.f63.ntmps k (simpl_ConePlan_l0.out (((), ((), ((), (a0, ())))), ((a1, (a2, (a3, (a4, (a5, (a6, (a7, (a8, ())))))))), ((a9, ((), ())), ((a10, ((), ())), (a11, ()))))))) (fun y => some (XS.out ximpl_ConePlan_l0 (a1, (a2, (a3, (a4, (a5, (a6, (a7, (a8, (a9, a10))))))))) y)) a0 a11 := by kernel_rfl
theorem impl_ConePlan_l0o : LoopOk Try.prog EL63 or63 Try.f63.ntmps ((loopsIn (codeOf Try.f63)).getD 0 .skip) (Limpl_ConePlan_l0) :=
  loop_lim (hs := simpl_ConePlan_l0) (xs := ximpl_ConePlan_l0) (ι := fun (x : (Unit × Unit × Unit × Int × Unit) × (((List (List Int)) × (List Int) × (List Int) × Int × Int × Int × Int × Int × Unit) × (Int × Unit × Unit) × (Int × Unit × Unit) × (List Int) × Unit)) => (x.2.1.1, (x.2.1.2.1, (x.2.1.2.2.1, (x.2.1.2.2.2.1, (x.2.1.2.2.2.2.1, (x.2.1.2.2.2.2.2.1, (x.2.1.2.2.2.2.2.2.1, (x.2.1.2.2.2.2.2.2.2.1, (x.2.2.1.1, x.2.2.2.1.1)))))))))) (φ := fun (x : (Unit × Unit × Unit × Int × Unit) × (((List (List Int)) × (List Int) × (List Int) × Int × Int × Int × Int × Int × Unit) × (Int × Unit × Unit) × (Int × Unit × Unit) × (List Int) × Unit)) => (x.1.2.2.2.1, x.2.2.2.2.1)) (ψ := fun (i : (List (List Int)) × (List Int) × (List Int) × Int × Int × Int × Int × Int × Int × Int) (v : Int × (List Int)) => (((), ((), ((), (v.1, ())))), ((i.1, (i.2.1, (i.2.2.1, (i.2.2.2.1, (i.2.2.2.2.1, (i.2.2.2.2.2.1, (i.2.2.2.2.2.2.1, (i.2.2.2.2.2.2.2.1, ())))))))), ((i.2.2.2.2.2.2.2.2.1, ((), ())), ((i.2.2.2.2.2.2.2.2.2, ((), ())), (v.2, ())))))) (F := fun (i : (List (List Int)) × (List Int) × (List Int) × Int × Int × Int × Int × Int × Int × Int) => impl_ConePlan_l0F i.1 i.2.1 i.2.2.1 i.2.2.2.1 i.2.2.2.2.1 i.2.2.2.2.2.1 i.2.2.2.2.2.2.1 i.2.2.2.2.2.2.2.1 i.2.2.2.2.2.2.2.2.2) (fun _ => rfl) fun i k hk v => Par.of_eq (impl_ConePlan_l0e i.1 i.2.1 i.2.2.1 i.2.2.2.1 i.2.2.2.2.1 i.2.2.2.2.2.1 i.2.2.2.2.2.2.1 i.2.2.2.2.2.2.2.1 i.2.2.2.2.2.2.2.2.1 i.2.2.2.2.2.2.2.2.2 k v.1 v.2) (impl_ConePlan_l0p i.1 i.2.1 i.2.2.1 i.2.2.2.1 i.2.2.2.2.1 i.2.2.2.2.2.1 i.2.2.2.2.2.2.1 i.2.2.2.2.2.2.2.1 i.2.2.2.2.2.2.2.2.2 (fun a0 a11 => hk (a0, a11)) v.1 v.2)
def c63 : Callee := mkC [.agg [.ro TJob]] 2 [.agg [.ro (.int .i64), .sl (.int .i64)], .one (.ro .bool)] fun x => impl_ConePlan x
theorem e63 (x : PK.dens [.agg [.ro TJob]]) : evalFn Try.prog EL63 or63 Try.f63 (PK.outs [.agg [.ro TJob]] x) =
    impl_ConePlanK (fun y => some (tupOf ((PK.outs [.agg [.ro (.int .i64), .sl (.int .i64)], .one (.ro .bool)] y).take 2), (PK.outs [.agg [.ro (.int .i64), .sl (.int .i64)], .one (.ro .bool)] y).drop 2)) x := by kernel_rfl
theorem o63 : LoOk Try.prog EL63 or63 Try.f63.ntmps (loopsIn (codeOf Try.f63)) :=
  LoOk.mk (m := 4) (by kernel_rfl) fun i hi => match i, hi with
    | 0, _ => ⟨Limpl_ConePlan_l0, by kernel_rfl, impl_ConePlan_l0o⟩
    | 1, _ => ⟨Limpl_ConePlan_l1, by kernel_rfl, impl_ConePlan_l1o⟩
    | 2, _ => ⟨Limpl_ConePlan_l2, by kernel_rfl, impl_ConePlan_l2o⟩
    | 3, _ => ⟨Limpl_ConePlan_l3, by kernel_rfl, impl_ConePlan_l3o⟩
    | i + 4, hi => absurd hi (by omega)
theorem k63 : CalleeOk Try.prog 63 c63 := callee_mk Try.func63 (code := codeOf Try.f63) (by kernel_rfl) vL63 mixed o63 fun x y h => (e63 x).trans (p63 _ x y h)

/-- laws.FnExactConePlan -/
def EL18 : Nat → Option Callee := addE 49 c49 (addE 34 c34 (addE 33 c33 (addE 24 c24 (addE 30 c30 (addE 63 c63 (addE 62 c62 (addE 21 c21 (addE 19 c19 env0))))))))
theorem vL18 : EnvOk Try.prog EL18 := ((((((((EnvOk.nil.add Try.func19 rfl (by kernel_rfl) k19).add Try.func21 rfl (by kernel_rfl) k21).add Try.func62 rfl (by kernel_rfl) k62).add Try.func63 rfl (by kernel_rfl) k63).add Try.func30 rfl (by kernel_rfl) k30).add Try.func24 rfl (by kernel_rfl) k24).add Try.func33 rfl (by kernel_rfl) k33).add Try.func34 rfl (by kernel_rfl) k34).add Try.func49 rfl (by kernel_rfl) k49
def laws_FnExactConePlanK {R : Type} (fin : Bool → Option R) (x0 : DJob) : Option R :=
  (laws_szJob x0 1048576).bind fun y1 =>
  cond (decide (y1 < 0))
  (fin true)
  ((laws_toJob x0).bind fun y2 =>
    (spec_ConePlan (y2.1, (y2.2.1, (y2.2.2.1, ((y2.2.2.2.1, (y2.2.2.2.2.1, ())), (y2.2.2.2.2.2.1, (y2.2.2.2.2.2.2.1, (y2.2.2.2.2.2.2.2, ())))))))).bind fun y3 =>
    (laws_toJob x0).bind fun y4 =>
    (impl_ConePlan (y4.1, (y4.2.1, (y4.2.2.1, ((y4.2.2.2.1, (y4.2.2.2.2.1, ())), (y4.2.2.2.2.2.1, (y4.2.2.2.2.2.2.1, (y4.2.2.2.2.2.2.2, ())))))))).bind fun y5 =>
    (laws_eqPlan (y5.1.1, (y5.1.2, ())) (y3.1.1, (y3.1.2, ()))).bind fun y6 =>
    cond (!y6)
    (fin false)
    (cond (!(y5.2 == y3.2))
      (fin false)
      ((laws_toJob x0).bind fun y7 =>
        (laws_eqJob (y4.1, (y4.2.1, (y4.2.2.1, ((y4.2.2.2.1, (y4.2.2.2.2.1, ())), (y4.2.2.2.2.2.1, (y4.2.2.2.2.2.2.1, (y4.2.2.2.2.2.2.2, ()))))))) (y7.1, (y7.2.1, (y7.2.2.1, ((y7.2.2.2.1, (y7.2.2.2.2.1, ())), (y7.2.2.2.2.2.1, (y7.2.2.2.2.2.2.1, (y7.2.2.2.2.2.2.2, ())))))))).bind fun y8 =>
        cond (!y8)
        (fin false)
        ((laws_markJob y4 1).bind fun y9 =>
          cond (decide (y9.1 < 0))
          (fin false)
          ((laws_eqPlan (y5.1.1, (y5.1.2, ())) (y3.1.1, (y3.1.2, ()))).bind fun y10 =>
            cond (!y10)
            (fin false)
            (cond (!(y5.2 == y3.2))
              (fin false)
              ((laws_markPlan y5.1 1).bind fun y11 =>
                (laws_heldPlan (y5.1.1, (y11.2.2, ())) 1).bind fun y12 =>
                cond (decide (y12 < 0))
                (fin false)
                (cond (y12 != y11.1)
                  (fin false)
                  ((laws_toJob x0).bind fun y13 =>
                    (impl_ConePlan (y13.1, (y13.2.1, (y13.2.2.1, ((y13.2.2.2.1, (y13.2.2.2.2.1, ())), (y13.2.2.2.2.2.1, (y13.2.2.2.2.2.2.1, (y13.2.2.2.2.2.2.2, ())))))))).bind fun y14 =>
                    (laws_eqPlan (y14.1.1, (y14.1.2, ())) (y3.1.1, (y3.1.2, ()))).bind fun y15 =>
                    cond (!y15)
                    (fin false)
                    (cond (!(y14.2 == y3.2))
                      (fin false)
                      ((laws_heldPlan (y5.1.1, (y11.2.2, ())) 1).bind fun y16 =>
                        cond (decide (y16 < 0))
                        (fin false)
                        (cond (y16 != y11.1)
                          (fin false)
                          (fin true)))))))))))))
def laws_FnExactConePlan (x0 : DJob) : Option (Bool) := laws_FnExactConePlanK some x0
theorem p18 {R : Type} (fin : Bool → Option R) (x0 : DJob) : Par fin (laws_FnExactConePlanK some x0) (laws_FnExactConePlanK fin x0) := by
  unfold laws_FnExactConePlanK
  repeat' (first | exact .fin | exact .none | refine .cond ?_ ?_ | refine .bind fun _ => ?_ | refine .sum (fun _ => ?_) fun _ => ?_)
def c18 : Callee := mkC [.agg [.ro TJob]] 1 [.one (.ro .bool)] fun x => laws_FnExactConePlan x
theorem e18 (x : PK.dens [.agg [.ro TJob]]) : evalFn Try.prog EL18 or0 Try.f18 (PK.outs [.agg [.ro TJob]] x) =
    laws_FnExactConePlanK (fun y => some (tupOf ((PK.outs [.one (.ro .bool)] y).take 1), (PK.outs [.one (.ro .bool)] y).drop 1)) x := by kernel_rfl
theorem k18 : CalleeOk Try.prog 18 c18 := callee_mk Try.func18 (code := codeOf Try.f18) (by kernel_rfl) vL18 mixed (LoOk.nil (by kernel_rfl)) fun x y h => (e18 x).trans (p18 _ x y h)
end
end Go.OAI
