/- Contracts: GGr. -/
import Derived.Test.YtnmeejeedfeolaaGA
import Derived.Test.YtnmeejeedfeolaaGT
import Derived.Test.YtnmeejeedfeolaaGF
namespace Go.OAI
open Go.Proofs
set_option linter.unusedVariables false
noncomputable section


/-- impl.emptyPlan -/
def EL96 : Nat → Option Callee := env0
theorem vL96 : EnvOk Try.prog EL96 := EnvOk.nil
def simpl_emptyPlan_l0 : LS := ⟨[(2, .one (.fix (.ptr 0 0))), (3, .one (.fix (.ptr 1 0))), (14, .one (.dat (.int .i64))), (15, .one (.dat (.int .i64)))], [.box [.dat (.int .i64), .fix .nils], .box [.dat (.int .i64), .fix (.sref 2)], .sl (.int .i64)], []⟩
def simpl_emptyPlan_l0x0 : LS := ⟨[(2, .one (.fix (.ptr 0 0))), (3, .one (.fix (.ptr 1 0)))], [.box [.dat (.int .i64), .fix .nils], .box [.dat (.int .i64), .fix (.sref 2)], .sl (.int .i64)], []⟩
def ximpl_emptyPlan_l0 : List (XS (Int × Int × Int)) := [⟨.exit 0, ⟨[2, 3], [.slot 2, .slot 3, .cell 3 1], [], []⟩, simpl_emptyPlan_l0x0, List Int, fun i y => (((), ((), ())), ((i.2.1, ((), ())), ((i.2.2, ((), ())), (y, ()))))⟩]
def impl_emptyPlan_l0K {R : Type} (a0 : Int) (rc : Int → List Int → Option R) (fin : List Int → Option R) (a1 : Int) (a4 : List Int) : Option R :=
  cond (decide (a1 < a0))
  (cond (decide ((0 : Int) ≤ a1) && decide (a1 < (a4.length : Int)))
    ((some (a4.set (0 + a1.toNat) (-1))).bind fun v1 =>
      rc (IntKind.i64.wrap (a1 + 1)) v1)
    (none))
  (fin a4)
def impl_emptyPlan_l0F (a0 : Int) (r : (Int × (List Int)) → Option (List Int)) (x : Int × (List Int)) : Option (List Int) := impl_emptyPlan_l0K a0 (fun a1 a4 => r (a1, a4)) some x.1 x.2
theorem impl_emptyPlan_l0c (a0 : Int) (x : Int × (List Int)) : Ct fun r => impl_emptyPlan_l0F a0 r x := by
  unfold impl_emptyPlan_l0F impl_emptyPlan_l0K
  repeat' (first | exact Ct.const | exact Ct.call | refine Ct.cond ?_ ?_ | refine Ct.bind ?_ fun _ => ?_ | refine Ct.sum (fun _ => ?_) fun _ => ?_)
def impl_emptyPlan_l0 (a0 : Int) (a1 : Int) (a4 : List Int) : Option (List Int) := lim (impl_emptyPlan_l0F a0) (a1, a4)
theorem impl_emptyPlan_l0_eq (a0 : Int) (a1 : Int) (a4 : List Int) : impl_emptyPlan_l0 a0 a1 a4 = impl_emptyPlan_l0K a0 (impl_emptyPlan_l0 a0) some a1 a4 := lim_eq (impl_emptyPlan_l0c a0) (a1, a4)
theorem impl_emptyPlan_l0p {R : Type} (a0 : Int) {rc : Int → List Int → Option (List Int)} {rc' : Int → List Int → Option R} {fin : List Int → Option R} (hr : ∀ a1 a4, Par fin (rc a1 a4) (rc' a1 a4)) (a1 : Int) (a4 : List Int) : Par fin (impl_emptyPlan_l0K a0 rc some a1 a4) (impl_emptyPlan_l0K a0 rc' fin a1 a4) := by
  unfold impl_emptyPlan_l0K
  repeat' (first | exact .fin | exact .none | exact hr _ _ | refine .cond ?_ ?_ | refine .bind fun _ => ?_ | refine .sum (fun _ => ?_) fun _ => ?_)
def Limpl_emptyPlan_l0 : Loop := mkL ⟨[2, 3, 14, 15], [.slot 2, .slot 3, .cell 3 1], [], []⟩ simpl_emptyPlan_l0 ximpl_emptyPlan_l0 (fun (x : (Unit × Unit × Int × Int × Unit) × ((Int × Unit × Unit) × (Int × Unit × Unit) × (List Int) × Unit)) => (x.1.2.2.1, (x.2.1.1, x.2.2.1.1))) fun (x : (Unit × Unit × Int × Int × Unit) × ((Int × Unit × Unit) × (Int × Unit × Unit) × (List Int) × Unit)) => impl_emptyPlan_l0 x.1.2.2.1 x.1.2.2.2.1 x.2.2.2.1
def impl_emptyPlanK {R : Type} (fin : Int × (List Int) → Option R) (x0 : DJob) : Option R :=
  cond (decide ((0 : Int) ≤ (x0.1.length : Int)) && (decide ((x0.1.length : Int) ≤ (x0.1.length : Int)) && decide ((x0.1.length : Int) ≤ 1099511627776)))
  ((some ((List.replicate ((x0.1.length : Int).toNat) 0 : List Int))).bind fun v1 =>
    (impl_emptyPlan_l0 (v1.length : Int) 0 v1).bind fun y3 =>
    fin (x0.2.2.2.2.1, y3))
  (none)
def impl_emptyPlan (x0 : DJob) : Option (Int × (List Int)) := impl_emptyPlanK some x0
theorem p96 {R : Type} (fin : Int × (List Int) → Option R) (x0 : DJob) : Par fin (impl_emptyPlanK some x0) (impl_emptyPlanK fin x0) := by
  unfold impl_emptyPlanK
  repeat' (first | exact .fin | exact .none | refine .cond ?_ ?_ | refine .bind fun _ => ?_ | refine .sum (fun _ => ?_) fun _ => ?_)
def or96 : Ora := { lo := addL 3 (Limpl_emptyPlan_l0) lo0, fin := [] }
theorem impl_emptyPlan_l0e (a0 : Int) (a2 : Int) (a3 : Int) (k : Nat) (a1 : Int) (a4 : List Int) : loopC Try.prog EL96 or96 ((loopsIn (codeOf Try.f96)).getD 0 .skip) (Limpl_emptyPlan_l0).h (Limpl_emptyPlan_l0).ho Try.f96.ntmps (k + 1) (simpl_emptyPlan_l0.out (((), ((), (a0, (a1, ())))), ((a2, ((), ())), ((a3, ((), ())), (a4, ()))))) =
    impl_emptyPlan_l0K a0 (fun a1 a4 => loopC Try.prog EL96 or96 ((loopsIn (codeOf Try.f96)).getD 0 .skip) (Limpl_emptyPlan_l0).h (Limpl_emptyPlan_l0).ho Try.f96.ntmps k (simpl_emptyPlan_l0.out (((), ((), (a0, (a1, ())))), ((a2, ((), ())), ((a3, ((), ())), (a4, ())))))) (fun y => some (XS.out ximpl_emptyPlan_l0 (a0, (a2, a3)) y)) a1 a4 := by kernel_rfl
theorem impl_emptyPlan_l0o : LoopOk Try.prog EL96 or96 Try.f96.ntmps ((loopsIn (codeOf Try.f96)).getD 0 .skip) (Limpl_emptyPlan_l0) :=
  loop_lim (hs := simpl_emptyPlan_l0) (xs := ximpl_emptyPlan_l0) (ι := fun (x : (Unit × Unit × Int × Int × Unit) × ((Int × Unit × Unit) × (Int × Unit × Unit) × (List Int) × Unit)) => (x.1.2.2.1, (x.2.1.1, x.2.2.1.1))) (φ := fun (x : (Unit × Unit × Int × Int × Unit) × ((Int × Unit × Unit) × (Int × Unit × Unit) × (List Int) × Unit)) => (x.1.2.2.2.1, x.2.2.2.1)) (ψ := fun (i : Int × Int × Int) (v : Int × (List Int)) => (((), ((), (i.1, (v.1, ())))), ((i.2.1, ((), ())), ((i.2.2, ((), ())), (v.2, ()))))) (F := fun (i : Int × Int × Int) => impl_emptyPlan_l0F i.1) (fun _ => rfl) fun i k hk v => Par.of_eq (impl_emptyPlan_l0e i.1 i.2.1 i.2.2 k v.1 v.2) (impl_emptyPlan_l0p i.1 (fun a1 a4 => hk (a1, a4)) v.1 v.2)
def c96 : Callee := mkC [.agg [.ro TJob]] 1 [.agg [.ro (.int .i64), .sl (.int .i64)]] fun x => impl_emptyPlan x
theorem e96 (x : PK.dens [.agg [.ro TJob]]) : evalFn Try.prog EL96 or96 Try.f96 (PK.outs [.agg [.ro TJob]] x) =
    impl_emptyPlanK (fun y => some (tupOf ((PK.outs [.agg [.ro (.int .i64), .sl (.int .i64)]] y).take 1), (PK.outs [.agg [.ro (.int .i64), .sl (.int .i64)]] y).drop 1)) x := by kernel_rfl
theorem o96 : LoOk Try.prog EL96 or96 Try.f96.ntmps (loopsIn (codeOf Try.f96)) :=
  LoOk.mk (m := 1) (by kernel_rfl) fun i hi => match i, hi with
    | 0, _ => ⟨Limpl_emptyPlan_l0, by kernel_rfl, impl_emptyPlan_l0o⟩
    | i + 1, hi => absurd hi (by omega)
theorem k96 : CalleeOk Try.prog 96 c96 := callee_mk Try.func96 (code := codeOf Try.f96) (by kernel_rfl) vL96 mixed o96 fun x y h => (e96 x).trans (p96 _ x y h)

/-- spec.wiEmpty -/
def EL93 : Nat → Option Callee := env0
theorem vL93 : EnvOk Try.prog EL93 := EnvOk.nil
def sspec_wiEmpty_l0 : LS := ⟨[(2, .one (.fix (.ptr 0 0))), (3, .one (.fix (.ptr 1 0))), (14, .one (.dat (.int .i64))), (15, .one (.dat (.int .i64)))], [.box [.dat (.int .i64), .fix .nils], .box [.dat (.int .i64), .fix (.sref 2)], .sl (.int .i64)], []⟩
def sspec_wiEmpty_l0x0 : LS := ⟨[(2, .one (.fix (.ptr 0 0))), (3, .one (.fix (.ptr 1 0)))], [.box [.dat (.int .i64), .fix .nils], .box [.dat (.int .i64), .fix (.sref 2)], .sl (.int .i64)], []⟩
def xspec_wiEmpty_l0 : List (XS (Int × Int × Int)) := [⟨.exit 0, ⟨[2, 3], [.slot 2, .slot 3, .cell 3 1], [], []⟩, sspec_wiEmpty_l0x0, List Int, fun i y => (((), ((), ())), ((i.2.1, ((), ())), ((i.2.2, ((), ())), (y, ()))))⟩]
def spec_wiEmpty_l0K {R : Type} (a0 : Int) (rc : Int → List Int → Option R) (fin : List Int → Option R) (a1 : Int) (a4 : List Int) : Option R :=
  cond (decide (a1 < a0))
  (cond (decide ((0 : Int) ≤ a1) && decide (a1 < (a4.length : Int)))
    ((some (a4.set (0 + a1.toNat) (-1))).bind fun v1 =>
      rc (IntKind.i64.wrap (a1 + 1)) v1)
    (none))
  (fin a4)
def spec_wiEmpty_l0F (a0 : Int) (r : (Int × (List Int)) → Option (List Int)) (x : Int × (List Int)) : Option (List Int) := spec_wiEmpty_l0K a0 (fun a1 a4 => r (a1, a4)) some x.1 x.2
theorem spec_wiEmpty_l0c (a0 : Int) (x : Int × (List Int)) : Ct fun r => spec_wiEmpty_l0F a0 r x := by
  unfold spec_wiEmpty_l0F spec_wiEmpty_l0K
  repeat' (first | exact Ct.const | exact Ct.call | refine Ct.cond ?_ ?_ | refine Ct.bind ?_ fun _ => ?_ | refine Ct.sum (fun _ => ?_) fun _ => ?_)
def spec_wiEmpty_l0 (a0 : Int) (a1 : Int) (a4 : List Int) : Option (List Int) := lim (spec_wiEmpty_l0F a0) (a1, a4)
theorem spec_wiEmpty_l0_eq (a0 : Int) (a1 : Int) (a4 : List Int) : spec_wiEmpty_l0 a0 a1 a4 = spec_wiEmpty_l0K a0 (spec_wiEmpty_l0 a0) some a1 a4 := lim_eq (spec_wiEmpty_l0c a0) (a1, a4)
theorem spec_wiEmpty_l0p {R : Type} (a0 : Int) {rc : Int → List Int → Option (List Int)} {rc' : Int → List Int → Option R} {fin : List Int → Option R} (hr : ∀ a1 a4, Par fin (rc a1 a4) (rc' a1 a4)) (a1 : Int) (a4 : List Int) : Par fin (spec_wiEmpty_l0K a0 rc some a1 a4) (spec_wiEmpty_l0K a0 rc' fin a1 a4) := by
  unfold spec_wiEmpty_l0K
  repeat' (first | exact .fin | exact .none | exact hr _ _ | refine .cond ?_ ?_ | refine .bind fun _ => ?_ | refine .sum (fun _ => ?_) fun _ => ?_)
def Lspec_wiEmpty_l0 : Loop := mkL ⟨[2, 3, 14, 15], [.slot 2, .slot 3, .cell 3 1], [], []⟩ sspec_wiEmpty_l0 xspec_wiEmpty_l0 (fun (x : (Unit × Unit × Int × Int × Unit) × ((Int × Unit × Unit) × (Int × Unit × Unit) × (List Int) × Unit)) => (x.1.2.2.1, (x.2.1.1, x.2.2.1.1))) fun (x : (Unit × Unit × Int × Int × Unit) × ((Int × Unit × Unit) × (Int × Unit × Unit) × (List Int) × Unit)) => spec_wiEmpty_l0 x.1.2.2.1 x.1.2.2.2.1 x.2.2.2.1
def spec_wiEmptyK {R : Type} (fin : Int × (List Int) → Option R) (x0 : DJob) : Option R :=
  cond (decide ((0 : Int) ≤ (x0.1.length : Int)) && (decide ((x0.1.length : Int) ≤ (x0.1.length : Int)) && decide ((x0.1.length : Int) ≤ 1099511627776)))
  ((some ((List.replicate ((x0.1.length : Int).toNat) 0 : List Int))).bind fun v1 =>
    (spec_wiEmpty_l0 (v1.length : Int) 0 v1).bind fun y3 =>
    fin (x0.2.2.2.2.1, y3))
  (none)
def spec_wiEmpty (x0 : DJob) : Option (Int × (List Int)) := spec_wiEmptyK some x0
theorem p93 {R : Type} (fin : Int × (List Int) → Option R) (x0 : DJob) : Par fin (spec_wiEmptyK some x0) (spec_wiEmptyK fin x0) := by
  unfold spec_wiEmptyK
  repeat' (first | exact .fin | exact .none | refine .cond ?_ ?_ | refine .bind fun _ => ?_ | refine .sum (fun _ => ?_) fun _ => ?_)
def or93 : Ora := { lo := addL 3 (Lspec_wiEmpty_l0) lo0, fin := [] }
theorem spec_wiEmpty_l0e (a0 : Int) (a2 : Int) (a3 : Int) (k : Nat) (a1 : Int) (a4 : List Int) : loopC Try.prog EL93 or93 ((loopsIn (codeOf Try.f93)).getD 0 .skip) (Lspec_wiEmpty_l0).h (Lspec_wiEmpty_l0).ho Try.f93.ntmps (k + 1) (sspec_wiEmpty_l0.out (((), ((), (a0, (a1, ())))), ((a2, ((), ())), ((a3, ((), ())), (a4, ()))))) =
    spec_wiEmpty_l0K a0 (fun a1 a4 => loopC Try.prog EL93 or93 ((loopsIn (codeOf Try.f93)).getD 0 .skip) (Lspec_wiEmpty_l0).h (Lspec_wiEmpty_l0).ho Try.f93.ntmps k (sspec_wiEmpty_l0.out (((), ((), (a0, (a1, ())))), ((a2, ((), ())), ((a3, ((), ())), (a4, ())))))) (fun y => some (XS.out xspec_wiEmpty_l0 (a0, (a2, a3)) y)) a1 a4 := by kernel_rfl
theorem spec_wiEmpty_l0o : LoopOk Try.prog EL93 or93 Try.f93.ntmps ((loopsIn (codeOf Try.f93)).getD 0 .skip) (Lspec_wiEmpty_l0) :=
  loop_lim (hs := sspec_wiEmpty_l0) (xs := xspec_wiEmpty_l0) (ι := fun (x : (Unit × Unit × Int × Int × Unit) × ((Int × Unit × Unit) × (Int × Unit × Unit) × (List Int) × Unit)) => (x.1.2.2.1, (x.2.1.1, x.2.2.1.1))) (φ := fun (x : (Unit × Unit × Int × Int × Unit) × ((Int × Unit × Unit) × (Int × Unit × Unit) × (List Int) × Unit)) => (x.1.2.2.2.1, x.2.2.2.1)) (ψ := fun (i : Int × Int × Int) (v : Int × (List Int)) => (((), ((), (i.1, (v.1, ())))), ((i.2.1, ((), ())), ((i.2.2, ((), ())), (v.2, ()))))) (F := fun (i : Int × Int × Int) => spec_wiEmpty_l0F i.1) (fun _ => rfl) fun i k hk v => Par.of_eq (spec_wiEmpty_l0e i.1 i.2.1 i.2.2 k v.1 v.2) (spec_wiEmpty_l0p i.1 (fun a1 a4 => hk (a1, a4)) v.1 v.2)
def c93 : Callee := mkC [.agg [.ro TJob]] 1 [.agg [.ro (.int .i64), .sl (.int .i64)]] fun x => spec_wiEmpty x
theorem e93 (x : PK.dens [.agg [.ro TJob]]) : evalFn Try.prog EL93 or93 Try.f93 (PK.outs [.agg [.ro TJob]] x) =
    spec_wiEmptyK (fun y => some (tupOf ((PK.outs [.agg [.ro (.int .i64), .sl (.int .i64)]] y).take 1), (PK.outs [.agg [.ro (.int .i64), .sl (.int .i64)]] y).drop 1)) x := by kernel_rfl
theorem o93 : LoOk Try.prog EL93 or93 Try.f93.ntmps (loopsIn (codeOf Try.f93)) :=
  LoOk.mk (m := 1) (by kernel_rfl) fun i hi => match i, hi with
    | 0, _ => ⟨Lspec_wiEmpty_l0, by kernel_rfl, spec_wiEmpty_l0o⟩
    | i + 1, hi => absurd hi (by omega)
theorem k93 : CalleeOk Try.prog 93 c93 := callee_mk Try.func93 (code := codeOf Try.f93) (by kernel_rfl) vL93 mixed o93 fun x y h => (e93 x).trans (p93 _ x y h)

/-- impl.fitsIn -/
def EL97 : Nat → Option Callee := addE 122 c122 (addE 123 c123 (addE 103 c103 env0))
theorem vL97 : EnvOk Try.prog EL97 := ((EnvOk.nil.add Try.func103 rfl (by kernel_rfl) k103).add Try.func123 rfl (by kernel_rfl) k123).add Try.func122 rfl (by kernel_rfl) k122
def simpl_fitsIn_l0 : LS := ⟨[(2, .one (.dat (.slice (.int .i64)))), (3, .one (.dat (.int .i64))), (4, .one (.fix (.ptr 0 0))), (9, .one (.fix (.ptr 1 0))), (17, .one (.dat (.slice (.int .i64)))), (18, .one (.dat (.int .i64))), (19, .one (.dat (.int .i64)))], [.box [.dat (.slice (.slice (.int .i64))), .dat (.slice (.int .i64)), .dat (.slice (.int .i64)), .dat (.int .i64), .dat (.int .i64), .dat (.int .i64), .dat (.int .i64), .dat (.int .i64)], .box [.dat (.int .i64), .fix (.sref 2)], .sl (.int .i64)], []⟩
def simpl_fitsIn_l0x0 : LS := ⟨[(2, .one (.dat (.slice (.int .i64)))), (3, .one (.dat (.int .i64))), (4, .one (.fix (.ptr 0 0))), (9, .one (.fix (.ptr 1 0)))], [.box [.dat (.slice (.slice (.int .i64))), .dat (.slice (.int .i64)), .dat (.slice (.int .i64)), .dat (.int .i64), .dat (.int .i64), .dat (.int .i64), .dat (.int .i64), .dat (.int .i64)], .box [.dat (.int .i64), .fix (.sref 2)], .sl (.int .i64)], []⟩
def ximpl_fitsIn_l0 : List (XS ((List Int) × Int × (List Int) × Int × (List (List Int)) × (List Int) × (List Int) × Int × Int × Int × Int × Int × Int)) := [⟨.exit 0, ⟨[2, 3, 4, 9], [.slot 4, .slot 9, .cell 9 1], [], []⟩, simpl_fitsIn_l0x0, List Int, fun i y => ((i.1, (i.2.1, ((), ((), ())))), ((i.2.2.2.2.1, (i.2.2.2.2.2.1, (i.2.2.2.2.2.2.1, (i.2.2.2.2.2.2.2.1, (i.2.2.2.2.2.2.2.2.1, (i.2.2.2.2.2.2.2.2.2.1, (i.2.2.2.2.2.2.2.2.2.2.1, (i.2.2.2.2.2.2.2.2.2.2.2.1, ())))))))), ((i.2.2.2.2.2.2.2.2.2.2.2.2, ((), ())), (y, ()))))⟩]
def impl_fitsIn_l0K {R : Type} (a1 : Int) (a2 : List Int) (a3 : Int) (rc : Int → List Int → Option R) (fin : List Int → Option R) (a4 : Int) (a14 : List Int) : Option R :=
  cond (decide (a4 < a3))
  ((lat a2 a4).bind fun e1 =>
    cond (decide ((0 : Int) ≤ e1) && decide (e1 < (a14.length : Int)))
    ((some (a14.set (0 + e1.toNat) a1)).bind fun v2 =>
      rc (IntKind.i64.wrap (a4 + 1)) v2)
    (none))
  (fin a14)
def impl_fitsIn_l0F (a1 : Int) (a2 : List Int) (a3 : Int) (r : (Int × (List Int)) → Option (List Int)) (x : Int × (List Int)) : Option (List Int) := impl_fitsIn_l0K a1 a2 a3 (fun a4 a14 => r (a4, a14)) some x.1 x.2
theorem impl_fitsIn_l0c (a1 : Int) (a2 : List Int) (a3 : Int) (x : Int × (List Int)) : Ct fun r => impl_fitsIn_l0F a1 a2 a3 r x := by
  unfold impl_fitsIn_l0F impl_fitsIn_l0K
  repeat' (first | exact Ct.const | exact Ct.call | refine Ct.cond ?_ ?_ | refine Ct.bind ?_ fun _ => ?_ | refine Ct.sum (fun _ => ?_) fun _ => ?_)
def impl_fitsIn_l0 (a1 : Int) (a2 : List Int) (a3 : Int) (a4 : Int) (a14 : List Int) : Option (List Int) := lim (impl_fitsIn_l0F a1 a2 a3) (a4, a14)
theorem impl_fitsIn_l0_eq (a1 : Int) (a2 : List Int) (a3 : Int) (a4 : Int) (a14 : List Int) : impl_fitsIn_l0 a1 a2 a3 a4 a14 = impl_fitsIn_l0K a1 a2 a3 (impl_fitsIn_l0 a1 a2 a3) some a4 a14 := lim_eq (impl_fitsIn_l0c a1 a2 a3) (a4, a14)
theorem impl_fitsIn_l0p {R : Type} (a1 : Int) (a2 : List Int) (a3 : Int) {rc : Int → List Int → Option (List Int)} {rc' : Int → List Int → Option R} {fin : List Int → Option R} (hr : ∀ a4 a14, Par fin (rc a4 a14) (rc' a4 a14)) (a4 : Int) (a14 : List Int) : Par fin (impl_fitsIn_l0K a1 a2 a3 rc some a4 a14) (impl_fitsIn_l0K a1 a2 a3 rc' fin a4 a14) := by
  unfold impl_fitsIn_l0K
  repeat' (first | exact .fin | exact .none | exact hr _ _ | refine .cond ?_ ?_ | refine .bind fun _ => ?_ | refine .sum (fun _ => ?_) fun _ => ?_)
def Limpl_fitsIn_l0 : Loop := mkL ⟨[2, 3, 4, 9, 17, 18, 19], [.slot 4, .slot 9, .cell 9 1], [], []⟩ simpl_fitsIn_l0 ximpl_fitsIn_l0 (fun (x : ((List Int) × Int × Unit × Unit × (List Int) × Int × Int × Unit) × (((List (List Int)) × (List Int) × (List Int) × Int × Int × Int × Int × Int × Unit) × (Int × Unit × Unit) × (List Int) × Unit)) => (x.1.1, (x.1.2.1, (x.1.2.2.2.2.1, (x.1.2.2.2.2.2.1, (x.2.1.1, (x.2.1.2.1, (x.2.1.2.2.1, (x.2.1.2.2.2.1, (x.2.1.2.2.2.2.1, (x.2.1.2.2.2.2.2.1, (x.2.1.2.2.2.2.2.2.1, (x.2.1.2.2.2.2.2.2.2.1, x.2.2.1.1))))))))))))) fun (x : ((List Int) × Int × Unit × Unit × (List Int) × Int × Int × Unit) × (((List (List Int)) × (List Int) × (List Int) × Int × Int × Int × Int × Int × Unit) × (Int × Unit × Unit) × (List Int) × Unit)) => impl_fitsIn_l0 x.1.2.1 x.1.2.2.2.2.1 x.1.2.2.2.2.2.1 x.1.2.2.2.2.2.2.1 x.2.2.2.1
def simpl_fitsIn_l1 : LS := ⟨[(3, .one (.dat (.int .i64))), (4, .one (.fix (.ptr 0 0))), (9, .one (.fix (.ptr 1 0))), (29, .one (.dat (.slice (.int .i64)))), (30, .one (.dat (.int .i64))), (31, .one (.dat (.int .i64)))], [.box [.dat (.slice (.slice (.int .i64))), .dat (.slice (.int .i64)), .dat (.slice (.int .i64)), .dat (.int .i64), .dat (.int .i64), .dat (.int .i64), .dat (.int .i64), .dat (.int .i64)], .box [.dat (.int .i64), .fix (.sref 2)], .sl (.int .i64)], []⟩
def simpl_fitsIn_l1x0 : LS := ⟨[(8, .one (.dat .bool))], [], []⟩
def simpl_fitsIn_l1x1 : LS := ⟨[(3, .one (.dat (.int .i64))), (4, .one (.fix (.ptr 0 0))), (9, .one (.fix (.ptr 1 0)))], [.box [.dat (.slice (.slice (.int .i64))), .dat (.slice (.int .i64)), .dat (.slice (.int .i64)), .dat (.int .i64), .dat (.int .i64), .dat (.int .i64), .dat (.int .i64), .dat (.int .i64)], .box [.dat (.int .i64), .fix (.sref 2)], .sl (.int .i64)], []⟩
def ximpl_fitsIn_l1 : List (XS (Int × (List Int) × Int × (List (List Int)) × (List Int) × (List Int) × Int × Int × Int × Int × Int × Int × (List Int))) := [⟨.ret, ⟨[8], [], [], []⟩, simpl_fitsIn_l1x0, Bool, fun i y => ((y, ()), ())⟩,
  ⟨.exit 2, ⟨[3, 4, 9], [.slot 4, .slot 9, .cell 9 1], [], []⟩, simpl_fitsIn_l1x1, Unit, fun i y => ((i.1, ((), ((), ()))), ((i.2.2.2.1, (i.2.2.2.2.1, (i.2.2.2.2.2.1, (i.2.2.2.2.2.2.1, (i.2.2.2.2.2.2.2.1, (i.2.2.2.2.2.2.2.2.1, (i.2.2.2.2.2.2.2.2.2.1, (i.2.2.2.2.2.2.2.2.2.2.1, ())))))))), ((i.2.2.2.2.2.2.2.2.2.2.2.1, ((), ())), (i.2.2.2.2.2.2.2.2.2.2.2.2, ()))))⟩]
def impl_fitsIn_l1K {R : Type} (a1 : List Int) (a2 : Int) (a4 : List (List Int)) (a5 : List Int) (a6 : List Int) (a7 : Int) (a8 : Int) (a9 : Int) (a10 : Int) (a11 : Int) (a12 : Int) (a13 : List Int) (rc : Int → Option R) (fin : (Bool ⊕ Unit) → Option R) (a3 : Int) : Option R :=
  cond (decide (a3 < a2))
  ((lat a1 a3).bind fun e1 =>
    (impl_keepsOrder (a4, (a5, (a6, ((a7, (a8, ())), (a9, (a10, (a11, ()))))))) (a12, (a13, ())) e1).bind fun y2 =>
    cond (!y2)
    (fin (.inl false))
    (rc (IntKind.i64.wrap (a3 + 1))))
  (fin (.inr ()))
def impl_fitsIn_l1F (a1 : List Int) (a2 : Int) (a4 : List (List Int)) (a5 : List Int) (a6 : List Int) (a7 : Int) (a8 : Int) (a9 : Int) (a10 : Int) (a11 : Int) (a12 : Int) (a13 : List Int) (r : Int → Option (Bool ⊕ Unit)) (x : Int) : Option (Bool ⊕ Unit) := impl_fitsIn_l1K a1 a2 a4 a5 a6 a7 a8 a9 a10 a11 a12 a13 (fun a3 => r a3) some x
theorem impl_fitsIn_l1c (a1 : List Int) (a2 : Int) (a4 : List (List Int)) (a5 : List Int) (a6 : List Int) (a7 : Int) (a8 : Int) (a9 : Int) (a10 : Int) (a11 : Int) (a12 : Int) (a13 : List Int) (x : Int) : Ct fun r => impl_fitsIn_l1F a1 a2 a4 a5 a6 a7 a8 a9 a10 a11 a12 a13 r x := by
  unfold impl_fitsIn_l1F impl_fitsIn_l1K
  repeat' (first | exact Ct.const | exact Ct.call | refine Ct.cond ?_ ?_ | refine Ct.bind ?_ fun _ => ?_ | refine Ct.sum (fun _ => ?_) fun _ => ?_)
def impl_fitsIn_l1 (a1 : List Int) (a2 : Int) (a4 : List (List Int)) (a5 : List Int) (a6 : List Int) (a7 : Int) (a8 : Int) (a9 : Int) (a10 : Int) (a11 : Int) (a12 : Int) (a13 : List Int) (a3 : Int) : Option (Bool ⊕ Unit) := lim (impl_fitsIn_l1F a1 a2 a4 a5 a6 a7 a8 a9 a10 a11 a12 a13) a3
theorem impl_fitsIn_l1_eq (a1 : List Int) (a2 : Int) (a4 : List (List Int)) (a5 : List Int) (a6 : List Int) (a7 : Int) (a8 : Int) (a9 : Int) (a10 : Int) (a11 : Int) (a12 : Int) (a13 : List Int) (a3 : Int) : impl_fitsIn_l1 a1 a2 a4 a5 a6 a7 a8 a9 a10 a11 a12 a13 a3 = impl_fitsIn_l1K a1 a2 a4 a5 a6 a7 a8 a9 a10 a11 a12 a13 (impl_fitsIn_l1 a1 a2 a4 a5 a6 a7 a8 a9 a10 a11 a12 a13) some a3 := lim_eq (impl_fitsIn_l1c a1 a2 a4 a5 a6 a7 a8 a9 a10 a11 a12 a13) a3
theorem impl_fitsIn_l1p {R : Type} (a1 : List Int) (a2 : Int) (a4 : List (List Int)) (a5 : List Int) (a6 : List Int) (a7 : Int) (a8 : Int) (a9 : Int) (a10 : Int) (a11 : Int) (a12 : Int) (a13 : List Int) {rc : Int → Option (Bool ⊕ Unit)} {rc' : Int → Option R} {fin : (Bool ⊕ Unit) → Option R} (hr : ∀ a3, Par fin (rc a3) (rc' a3)) (a3 : Int) : Par fin (impl_fitsIn_l1K a1 a2 a4 a5 a6 a7 a8 a9 a10 a11 a12 a13 rc some a3) (impl_fitsIn_l1K a1 a2 a4 a5 a6 a7 a8 a9 a10 a11 a12 a13 rc' fin a3) := by
  unfold impl_fitsIn_l1K
  repeat' (first | exact .fin | exact .none | exact hr _ | refine .cond ?_ ?_ | refine .bind fun _ => ?_ | refine .sum (fun _ => ?_) fun _ => ?_)
def Limpl_fitsIn_l1 : Loop := mkL ⟨[3, 4, 9, 29, 30, 31], [.slot 4, .slot 9, .cell 9 1], [], []⟩ simpl_fitsIn_l1 ximpl_fitsIn_l1 (fun (x : (Int × Unit × Unit × (List Int) × Int × Int × Unit) × (((List (List Int)) × (List Int) × (List Int) × Int × Int × Int × Int × Int × Unit) × (Int × Unit × Unit) × (List Int) × Unit)) => (x.1.1, (x.1.2.2.2.1, (x.1.2.2.2.2.1, (x.2.1.1, (x.2.1.2.1, (x.2.1.2.2.1, (x.2.1.2.2.2.1, (x.2.1.2.2.2.2.1, (x.2.1.2.2.2.2.2.1, (x.2.1.2.2.2.2.2.2.1, (x.2.1.2.2.2.2.2.2.2.1, (x.2.2.1.1, x.2.2.2.1))))))))))))) fun (x : (Int × Unit × Unit × (List Int) × Int × Int × Unit) × (((List (List Int)) × (List Int) × (List Int) × Int × Int × Int × Int × Int × Unit) × (Int × Unit × Unit) × (List Int) × Unit)) => impl_fitsIn_l1 x.1.2.2.2.1 x.1.2.2.2.2.1 x.2.1.1 x.2.1.2.1 x.2.1.2.2.1 x.2.1.2.2.2.1 x.2.1.2.2.2.2.1 x.2.1.2.2.2.2.2.1 x.2.1.2.2.2.2.2.2.1 x.2.1.2.2.2.2.2.2.2.1 x.2.2.1.1 x.2.2.2.1 x.1.2.2.2.2.2.1
def impl_fitsInK {R : Type} (fin : Bool → Option R) (x0 : DJob) (x1 : DPlan) (x2 : List Int) (x3 : Int) : Option R :=
  (impl_copyPlan x1).bind fun y1 =>
  (impl_fitsIn_l0 x3 x2 (x2.length : Int) 0 y1.2).bind fun y4 =>
  (impl_fitsIn_l1 x2 (x2.length : Int) x0.1 x0.2.1 x0.2.2.1 x0.2.2.2.1.1 x0.2.2.2.1.2.1 x0.2.2.2.2.1 x0.2.2.2.2.2.1 x0.2.2.2.2.2.2.1 y1.1 y4 0).bind fun y7 =>
  sumO y7 (fun y8 =>
  fin y8)
  (fun y9 =>
  (impl_tonnesIn x0 (y1.1, (y4, ()))).bind fun y10 =>
    cond (decide ((0 : Int) ≤ x3) && decide (x3 < (y10.length : Int)))
    (cond (decide ((0 : Int) < ((y10.getD (0 + x3.toNat) []).length : Int)))
      (cond (decide (((y10.getD (0 + x3.toNat) []).getD (0 + 0) 0) ≤ x0.2.2.2.1.1))
        (cond (decide ((1 : Int) < ((y10.getD (0 + x3.toNat) []).length : Int)))
          (fin (decide (((y10.getD (0 + x3.toNat) []).getD (0 + 1) 0) ≤ x0.2.2.2.1.2.1)))
          (none))
        (fin false))
      (none))
    (none))
def impl_fitsIn (x0 : DJob) (x1 : DPlan) (x2 : List Int) (x3 : Int) : Option (Bool) := impl_fitsInK some x0 x1 x2 x3
theorem p97 {R : Type} (fin : Bool → Option R) (x0 : DJob) (x1 : DPlan) (x2 : List Int) (x3 : Int) : Par fin (impl_fitsInK some x0 x1 x2 x3) (impl_fitsInK fin x0 x1 x2 x3) := by
  unfold impl_fitsInK
  repeat' (first | exact .fin | exact .none | refine .cond ?_ ?_ | refine .bind fun _ => ?_ | refine .sum (fun _ => ?_) fun _ => ?_)
def or97 : Ora := { lo := addL 8 (Limpl_fitsIn_l1) (addL 3 (Limpl_fitsIn_l0) lo0), fin := [] }
theorem impl_fitsIn_l0e (a0 : List Int) (a1 : Int) (a2 : List Int) (a3 : Int) (a5 : List (List Int)) (a6 : List Int) (a7 : List Int) (a8 : Int) (a9 : Int) (a10 : Int) (a11 : Int) (a12 : Int) (a13 : Int) (k : Nat) (a4 : Int) (a14 : List Int) : loopC Try.prog EL97 or97 ((loopsIn (codeOf Try.f97)).getD 0 .skip) (Limpl_fitsIn_l0).h (Limpl_fitsIn_l0).ho Try.f97.ntmps (k + 1) (simpl_fitsIn_l0.out ((a0, (a1, ((), ((), (a2, (a3, (a4, ()))))))), ((a5, (a6, (a7, (a8, (a9, (a10, (a11, (a12, ())))))))), ((a13, ((), ())), (a14, ()))))) =
    impl_fitsIn_l0K a1 a2 a3 (fun a4 a14 => loopC Try.prog EL97 or97 ((loopsIn (codeOf Try.f97)).getD 0 .skip) (Limpl_fitsIn_l0).h (Limpl_fitsIn_l0).ho Try.f97.ntmps k (simpl_fitsIn_l0.out ((a0, (a1, ((), ((), (a2, (a3, (a4, ()))))))), ((a5, (a6, (a7, (a8, (a9, (a10, (a11, (a12, ())))))))), ((a13, ((), ())), (a14, ())))))) (fun y => some (XS.out ximpl_fitsIn_l0 (a0, (a1, (a2, (a3, (a5, (a6, (a7, (a8, (a9, (a10, (a11, (a12, a13)))))))))))) y)) a4 a14 := by kernel_rfl
theorem impl_fitsIn_l0o : LoopOk Try.prog EL97 or97 Try.f97.ntmps ((loopsIn (codeOf Try.f97)).getD 0 .skip) (Limpl_fitsIn_l0) :=
  loop_lim (hs := simpl_fitsIn_l0) (xs := ximpl_fitsIn_l0) (ι := fun (x : ((List Int) × Int × Unit × Unit × (List Int) × Int × Int × Unit) × (((List (List Int)) × (List Int) × (List Int) × Int × Int × Int × Int × Int × Unit) × (Int × Unit × Unit) × (List Int) × Unit)) => (x.1.1, (x.1.2.1, (x.1.2.2.2.2.1, (x.1.2.2.2.2.2.1, (x.2.1.1, (x.2.1.2.1, (x.2.1.2.2.1, (x.2.1.2.2.2.1, (x.2.1.2.2.2.2.1, (x.2.1.2.2.2.2.2.1, (x.2.1.2.2.2.2.2.2.1, (x.2.1.2.2.2.2.2.2.2.1, x.2.2.1.1))))))))))))) (φ := fun (x : ((List Int) × Int × Unit × Unit × (List Int) × Int × Int × Unit) × (((List (List Int)) × (List Int) × (List Int) × Int × Int × Int × Int × Int × Unit) × (Int × Unit × Unit) × (List Int) × Unit)) => (x.1.2.2.2.2.2.2.1, x.2.2.2.1)) (ψ := fun (i : (List Int) × Int × (List Int) × Int × (List (List Int)) × (List Int) × (List Int) × Int × Int × Int × Int × Int × Int) (v : Int × (List Int)) => ((i.1, (i.2.1, ((), ((), (i.2.2.1, (i.2.2.2.1, (v.1, ()))))))), ((i.2.2.2.2.1, (i.2.2.2.2.2.1, (i.2.2.2.2.2.2.1, (i.2.2.2.2.2.2.2.1, (i.2.2.2.2.2.2.2.2.1, (i.2.2.2.2.2.2.2.2.2.1, (i.2.2.2.2.2.2.2.2.2.2.1, (i.2.2.2.2.2.2.2.2.2.2.2.1, ())))))))), ((i.2.2.2.2.2.2.2.2.2.2.2.2, ((), ())), (v.2, ()))))) (F := fun (i : (List Int) × Int × (List Int) × Int × (List (List Int)) × (List Int) × (List Int) × Int × Int × Int × Int × Int × Int) => impl_fitsIn_l0F i.2.1 i.2.2.1 i.2.2.2.1) (fun _ => rfl) fun i k hk v => Par.of_eq (impl_fitsIn_l0e i.1 i.2.1 i.2.2.1 i.2.2.2.1 i.2.2.2.2.1 i.2.2.2.2.2.1 i.2.2.2.2.2.2.1 i.2.2.2.2.2.2.2.1 i.2.2.2.2.2.2.2.2.1 i.2.2.2.2.2.2.2.2.2.1 i.2.2.2.2.2.2.2.2.2.2.1 i.2.2.2.2.2.2.2.2.2.2.2.1 i.2.2.2.2.2.2.2.2.2.2.2.2 k v.1 v.2) (impl_fitsIn_l0p i.2.1 i.2.2.1 i.2.2.2.1 (fun a4 a14 => hk (a4, a14)) v.1 v.2)
theorem impl_fitsIn_l1e (a0 : Int) (a1 : List Int) (a2 : Int) (a4 : List (List Int)) (a5 : List Int) (a6 : List Int) (a7 : Int) (a8 : Int) (a9 : Int) (a10 : Int) (a11 : Int) (a12 : Int) (a13 : List Int) (k : Nat) (a3 : Int) : loopC Try.prog EL97 or97 ((loopsIn (codeOf Try.f97)).getD 1 .skip) (Limpl_fitsIn_l1).h (Limpl_fitsIn_l1).ho Try.f97.ntmps (k + 1) (simpl_fitsIn_l1.out ((a0, ((), ((), (a1, (a2, (a3, ())))))), ((a4, (a5, (a6, (a7, (a8, (a9, (a10, (a11, ())))))))), ((a12, ((), ())), (a13, ()))))) =
    impl_fitsIn_l1K a1 a2 a4 a5 a6 a7 a8 a9 a10 a11 a12 a13 (fun a3 => loopC Try.prog EL97 or97 ((loopsIn (codeOf Try.f97)).getD 1 .skip) (Limpl_fitsIn_l1).h (Limpl_fitsIn_l1).ho Try.f97.ntmps k (simpl_fitsIn_l1.out ((a0, ((), ((), (a1, (a2, (a3, ())))))), ((a4, (a5, (a6, (a7, (a8, (a9, (a10, (a11, ())))))))), ((a12, ((), ())), (a13, ())))))) (fun y => some (XS.out ximpl_fitsIn_l1 (a0, (a1, (a2, (a4, (a5, (a6, (a7, (a8, (a9, (a10, (a11, (a12, a13)))))))))))) y)) a3 := by kernel_rfl
theorem impl_fitsIn_l1o : LoopOk Try.prog EL97 or97 Try.f97.ntmps ((loopsIn (codeOf Try.f97)).getD 1 .skip) (Limpl_fitsIn_l1) :=
  loop_lim (hs := simpl_fitsIn_l1) (xs := ximpl_fitsIn_l1) (ι := fun (x : (Int × Unit × Unit × (List Int) × Int × Int × Unit) × (((List (List Int)) × (List Int) × (List Int) × Int × Int × Int × Int × Int × Unit) × (Int × Unit × Unit) × (List Int) × Unit)) => (x.1.1, (x.1.2.2.2.1, (x.1.2.2.2.2.1, (x.2.1.1, (x.2.1.2.1, (x.2.1.2.2.1, (x.2.1.2.2.2.1, (x.2.1.2.2.2.2.1, (x.2.1.2.2.2.2.2.1, (x.2.1.2.2.2.2.2.2.1, (x.2.1.2.2.2.2.2.2.2.1, (x.2.2.1.1, x.2.2.2.1))))))))))))) (φ := fun (x : (Int × Unit × Unit × (List Int) × Int × Int × Unit) × (((List (List Int)) × (List Int) × (List Int) × Int × Int × Int × Int × Int × Unit) × (Int × Unit × Unit) × (List Int) × Unit)) => x.1.2.2.2.2.2.1) (ψ := fun (i : Int × (List Int) × Int × (List (List Int)) × (List Int) × (List Int) × Int × Int × Int × Int × Int × Int × (List Int)) (v : Int) => ((i.1, ((), ((), (i.2.1, (i.2.2.1, (v, ())))))), ((i.2.2.2.1, (i.2.2.2.2.1, (i.2.2.2.2.2.1, (i.2.2.2.2.2.2.1, (i.2.2.2.2.2.2.2.1, (i.2.2.2.2.2.2.2.2.1, (i.2.2.2.2.2.2.2.2.2.1, (i.2.2.2.2.2.2.2.2.2.2.1, ())))))))), ((i.2.2.2.2.2.2.2.2.2.2.2.1, ((), ())), (i.2.2.2.2.2.2.2.2.2.2.2.2, ()))))) (F := fun (i : Int × (List Int) × Int × (List (List Int)) × (List Int) × (List Int) × Int × Int × Int × Int × Int × Int × (List Int)) => impl_fitsIn_l1F i.2.1 i.2.2.1 i.2.2.2.1 i.2.2.2.2.1 i.2.2.2.2.2.1 i.2.2.2.2.2.2.1 i.2.2.2.2.2.2.2.1 i.2.2.2.2.2.2.2.2.1 i.2.2.2.2.2.2.2.2.2.1 i.2.2.2.2.2.2.2.2.2.2.1 i.2.2.2.2.2.2.2.2.2.2.2.1 i.2.2.2.2.2.2.2.2.2.2.2.2) (fun _ => rfl) fun i k hk v => Par.of_eq (impl_fitsIn_l1e i.1 i.2.1 i.2.2.1 i.2.2.2.1 i.2.2.2.2.1 i.2.2.2.2.2.1 i.2.2.2.2.2.2.1 i.2.2.2.2.2.2.2.1 i.2.2.2.2.2.2.2.2.1 i.2.2.2.2.2.2.2.2.2.1 i.2.2.2.2.2.2.2.2.2.2.1 i.2.2.2.2.2.2.2.2.2.2.2.1 i.2.2.2.2.2.2.2.2.2.2.2.2 k v) (impl_fitsIn_l1p i.2.1 i.2.2.1 i.2.2.2.1 i.2.2.2.2.1 i.2.2.2.2.2.1 i.2.2.2.2.2.2.1 i.2.2.2.2.2.2.2.1 i.2.2.2.2.2.2.2.2.1 i.2.2.2.2.2.2.2.2.2.1 i.2.2.2.2.2.2.2.2.2.2.1 i.2.2.2.2.2.2.2.2.2.2.2.1 i.2.2.2.2.2.2.2.2.2.2.2.2 (fun a3 => hk a3) v)
def c97 : Callee := mkC [.agg [.ro TJob], .agg [.ro TPlan], .one (.ro (.slice (.int .i64))), .one (.ro (.int .i64))] 1 [.one (.ro .bool)] fun x => impl_fitsIn x.1 x.2.1 x.2.2.1 x.2.2.2
theorem e97 (x : PK.dens [.agg [.ro TJob], .agg [.ro TPlan], .one (.ro (.slice (.int .i64))), .one (.ro (.int .i64))]) : evalFn Try.prog EL97 or97 Try.f97 (PK.outs [.agg [.ro TJob], .agg [.ro TPlan], .one (.ro (.slice (.int .i64))), .one (.ro (.int .i64))] x) =
    impl_fitsInK (fun y => some (tupOf ((PK.outs [.one (.ro .bool)] y).take 1), (PK.outs [.one (.ro .bool)] y).drop 1)) x.1 x.2.1 x.2.2.1 x.2.2.2 := by kernel_rfl
theorem o97 : LoOk Try.prog EL97 or97 Try.f97.ntmps (loopsIn (codeOf Try.f97)) :=
  LoOk.mk (m := 2) (by kernel_rfl) fun i hi => match i, hi with
    | 0, _ => ⟨Limpl_fitsIn_l0, by kernel_rfl, impl_fitsIn_l0o⟩
    | 1, _ => ⟨Limpl_fitsIn_l1, by kernel_rfl, impl_fitsIn_l1o⟩
    | i + 2, hi => absurd hi (by omega)
theorem k97 : CalleeOk Try.prog 97 c97 := callee_mk Try.func97 (code := codeOf Try.f97) (by kernel_rfl) vL97 mixed o97 fun x y h => (e97 x).trans (p97 _ x.1 x.2.1 x.2.2.1 x.2.2.2 y h)

/-- spec.wiOpen -/
def EL94 : Nat → Option Callee := addE 75 c75 env0
theorem vL94 : EnvOk Try.prog EL94 := EnvOk.nil.add Try.func75 rfl (by kernel_rfl) k75
def sspec_wiOpen_l0 : LS := ⟨[(3, .one (.dat (.int .i64))), (5, .one (.fix (.ptr 0 0))), (15, .one (.dat (.slice (.int .i64)))), (16, .one (.dat (.int .i64))), (17, .one (.dat (.int .i64)))], [.box [.dat (.int .i64), .dat (.slice (.int .i64))]], []⟩
def sspec_wiOpen_l0x0 : LS := ⟨[(8, .one (.dat .bool))], [], []⟩
def sspec_wiOpen_l0x1 : LS := ⟨[], [], []⟩
def xspec_wiOpen_l0 : List (XS (Int × (List Int) × Int × Int × (List Int))) := [⟨.ret, ⟨[8], [], [], []⟩, sspec_wiOpen_l0x0, Bool, fun i y => ((y, ()), ())⟩,
  ⟨.exit 0, ⟨[], [], [], []⟩, sspec_wiOpen_l0x1, Unit, fun i y => ((), ())⟩]
def spec_wiOpen_l0K {R : Type} (a0 : Int) (a1 : List Int) (a2 : Int) (a5 : List Int) (rc : Int → Option R) (fin : (Bool ⊕ Unit) → Option R) (a3 : Int) : Option R :=
  cond (decide (a3 < a2))
  ((lat a1 a3).bind fun e1 =>
    (lat a5 e1).bind fun e2 =>
    (spec_l1In e2 0 a0).bind fun y3 =>
    cond (!y3)
    (fin (.inl false))
    (rc (IntKind.i64.wrap (a3 + 1))))
  (fin (.inr ()))
def spec_wiOpen_l0F (a0 : Int) (a1 : List Int) (a2 : Int) (a5 : List Int) (r : Int → Option (Bool ⊕ Unit)) (x : Int) : Option (Bool ⊕ Unit) := spec_wiOpen_l0K a0 a1 a2 a5 (fun a3 => r a3) some x
theorem spec_wiOpen_l0c (a0 : Int) (a1 : List Int) (a2 : Int) (a5 : List Int) (x : Int) : Ct fun r => spec_wiOpen_l0F a0 a1 a2 a5 r x := by
  unfold spec_wiOpen_l0F spec_wiOpen_l0K
  repeat' (first | exact Ct.const | exact Ct.call | refine Ct.cond ?_ ?_ | refine Ct.bind ?_ fun _ => ?_ | refine Ct.sum (fun _ => ?_) fun _ => ?_)
def spec_wiOpen_l0 (a0 : Int) (a1 : List Int) (a2 : Int) (a5 : List Int) (a3 : Int) : Option (Bool ⊕ Unit) := lim (spec_wiOpen_l0F a0 a1 a2 a5) a3
theorem spec_wiOpen_l0_eq (a0 : Int) (a1 : List Int) (a2 : Int) (a5 : List Int) (a3 : Int) : spec_wiOpen_l0 a0 a1 a2 a5 a3 = spec_wiOpen_l0K a0 a1 a2 a5 (spec_wiOpen_l0 a0 a1 a2 a5) some a3 := lim_eq (spec_wiOpen_l0c a0 a1 a2 a5) a3
theorem spec_wiOpen_l0p {R : Type} (a0 : Int) (a1 : List Int) (a2 : Int) (a5 : List Int) {rc : Int → Option (Bool ⊕ Unit)} {rc' : Int → Option R} {fin : (Bool ⊕ Unit) → Option R} (hr : ∀ a3, Par fin (rc a3) (rc' a3)) (a3 : Int) : Par fin (spec_wiOpen_l0K a0 a1 a2 a5 rc some a3) (spec_wiOpen_l0K a0 a1 a2 a5 rc' fin a3) := by
  unfold spec_wiOpen_l0K
  repeat' (first | exact .fin | exact .none | exact hr _ | refine .cond ?_ ?_ | refine .bind fun _ => ?_ | refine .sum (fun _ => ?_) fun _ => ?_)
def Lspec_wiOpen_l0 : Loop := mkL ⟨[3, 5, 15, 16, 17], [.slot 5], [], []⟩ sspec_wiOpen_l0 xspec_wiOpen_l0 (fun (x : (Int × Unit × (List Int) × Int × Int × Unit) × ((Int × (List Int) × Unit) × Unit)) => (x.1.1, (x.1.2.2.1, (x.1.2.2.2.1, (x.2.1.1, x.2.1.2.1))))) fun (x : (Int × Unit × (List Int) × Int × Int × Unit) × ((Int × (List Int) × Unit) × Unit)) => spec_wiOpen_l0 x.1.1 x.1.2.2.1 x.1.2.2.2.1 x.2.1.2.1 x.1.2.2.2.2.1
def spec_wiOpenK {R : Type} (fin : Bool → Option R) (x0 : DJob) (x1 : DPlan) (x2 : Int) (x3 : Int) : Option R :=
  (lat x0.1 x2).bind fun e1 =>
  (spec_wiOpen_l0 x3 e1 (e1.length : Int) x1.2.1 0).bind fun y5 =>
  sumO y5 (fun y6 =>
  fin y6)
  (fun y7 =>
  fin true)
def spec_wiOpen (x0 : DJob) (x1 : DPlan) (x2 : Int) (x3 : Int) : Option (Bool) := spec_wiOpenK some x0 x1 x2 x3
theorem p94 {R : Type} (fin : Bool → Option R) (x0 : DJob) (x1 : DPlan) (x2 : Int) (x3 : Int) : Par fin (spec_wiOpenK some x0 x1 x2 x3) (spec_wiOpenK fin x0 x1 x2 x3) := by
  unfold spec_wiOpenK
  repeat' (first | exact .fin | exact .none | refine .cond ?_ ?_ | refine .bind fun _ => ?_ | refine .sum (fun _ => ?_) fun _ => ?_)
def or94 : Ora := { lo := addL 2 (Lspec_wiOpen_l0) lo0, fin := [] }
theorem spec_wiOpen_l0e (a0 : Int) (a1 : List Int) (a2 : Int) (a4 : Int) (a5 : List Int) (k : Nat) (a3 : Int) : loopC Try.prog EL94 or94 ((loopsIn (codeOf Try.f94)).getD 0 .skip) (Lspec_wiOpen_l0).h (Lspec_wiOpen_l0).ho Try.f94.ntmps (k + 1) (sspec_wiOpen_l0.out ((a0, ((), (a1, (a2, (a3, ()))))), ((a4, (a5, ())), ()))) =
    spec_wiOpen_l0K a0 a1 a2 a5 (fun a3 => loopC Try.prog EL94 or94 ((loopsIn (codeOf Try.f94)).getD 0 .skip) (Lspec_wiOpen_l0).h (Lspec_wiOpen_l0).ho Try.f94.ntmps k (sspec_wiOpen_l0.out ((a0, ((), (a1, (a2, (a3, ()))))), ((a4, (a5, ())), ())))) (fun y => some (XS.out xspec_wiOpen_l0 (a0, (a1, (a2, (a4, a5)))) y)) a3 := by kernel_rfl
theorem spec_wiOpen_l0o : LoopOk Try.prog EL94 or94 Try.f94.ntmps ((loopsIn (codeOf Try.f94)).getD 0 .skip) (Lspec_wiOpen_l0) :=
  loop_lim (hs := sspec_wiOpen_l0) (xs := xspec_wiOpen_l0) (ι := fun (x : (Int × Unit × (List Int) × Int × Int × Unit) × ((Int × (List Int) × Unit) × Unit)) => (x.1.1, (x.1.2.2.1, (x.1.2.2.2.1, (x.2.1.1, x.2.1.2.1))))) (φ := fun (x : (Int × Unit × (List Int) × Int × Int × Unit) × ((Int × (List Int) × Unit) × Unit)) => x.1.2.2.2.2.1) (ψ := fun (i : Int × (List Int) × Int × Int × (List Int)) (v : Int) => ((i.1, ((), (i.2.1, (i.2.2.1, (v, ()))))), ((i.2.2.2.1, (i.2.2.2.2, ())), ()))) (F := fun (i : Int × (List Int) × Int × Int × (List Int)) => spec_wiOpen_l0F i.1 i.2.1 i.2.2.1 i.2.2.2.2) (fun _ => rfl) fun i k hk v => Par.of_eq (spec_wiOpen_l0e i.1 i.2.1 i.2.2.1 i.2.2.2.1 i.2.2.2.2 k v) (spec_wiOpen_l0p i.1 i.2.1 i.2.2.1 i.2.2.2.2 (fun a3 => hk a3) v)
def c94 : Callee := mkC [.agg [.ro TJob], .agg [.ro TPlan], .one (.ro (.int .i64)), .one (.ro (.int .i64))] 1 [.one (.ro .bool)] fun x => spec_wiOpen x.1 x.2.1 x.2.2.1 x.2.2.2
theorem e94 (x : PK.dens [.agg [.ro TJob], .agg [.ro TPlan], .one (.ro (.int .i64)), .one (.ro (.int .i64))]) : evalFn Try.prog EL94 or94 Try.f94 (PK.outs [.agg [.ro TJob], .agg [.ro TPlan], .one (.ro (.int .i64)), .one (.ro (.int .i64))] x) =
    spec_wiOpenK (fun y => some (tupOf ((PK.outs [.one (.ro .bool)] y).take 1), (PK.outs [.one (.ro .bool)] y).drop 1)) x.1 x.2.1 x.2.2.1 x.2.2.2 := by kernel_rfl
theorem o94 : LoOk Try.prog EL94 or94 Try.f94.ntmps (loopsIn (codeOf Try.f94)) :=
  LoOk.mk (m := 1) (by kernel_rfl) fun i hi => match i, hi with
    | 0, _ => ⟨Lspec_wiOpen_l0, by kernel_rfl, spec_wiOpen_l0o⟩
    | i + 1, hi => absurd hi (by omega)
theorem k94 : CalleeOk Try.prog 94 c94 := callee_mk Try.func94 (code := codeOf Try.f94) (by kernel_rfl) vL94 mixed o94 fun x y h => (e94 x).trans (p94 _ x.1 x.2.1 x.2.2.1 x.2.2.2 y h)

/-- spec.wiRoom -/
def EL95 : Nat → Option Callee := addE 121 c121 env0
theorem vL95 : EnvOk Try.prog EL95 := EnvOk.nil.add Try.func121 rfl (by kernel_rfl) k121
def sspec_wiRoom_l0 : LS := ⟨[(4, .one (.fix (.ptr 0 0))), (10, .one (.dat (.int .i64))), (11, .one (.dat (.int .i64))), (26, .one (.dat (.slice (.int .i64)))), (27, .one (.dat (.int .i64))), (28, .one (.dat (.int .i64)))], [.box [.dat (.slice (.slice (.int .i64))), .dat (.slice (.int .i64)), .dat (.slice (.int .i64)), .dat (.int .i64), .dat (.int .i64), .dat (.int .i64), .dat (.int .i64), .dat (.int .i64)]], []⟩
def sspec_wiRoom_l0x0 : LS := ⟨[(4, .one (.fix (.ptr 0 0))), (10, .one (.dat (.int .i64))), (11, .one (.dat (.int .i64)))], [.box [.dat (.slice (.slice (.int .i64))), .dat (.slice (.int .i64)), .dat (.slice (.int .i64)), .dat (.int .i64), .dat (.int .i64), .dat (.int .i64), .dat (.int .i64), .dat (.int .i64)]], []⟩
def xspec_wiRoom_l0 : List (XS ((List Int) × Int × (List (List Int)) × (List Int) × (List Int) × Int × Int × Int × Int × Int)) := [⟨.exit 0, ⟨[4, 10, 11], [.slot 4], [], []⟩, sspec_wiRoom_l0x0, Int × Int, fun i y => (((), (y.1, (y.2, ()))), ((i.2.2.1, (i.2.2.2.1, (i.2.2.2.2.1, (i.2.2.2.2.2.1, (i.2.2.2.2.2.2.1, (i.2.2.2.2.2.2.2.1, (i.2.2.2.2.2.2.2.2.1, (i.2.2.2.2.2.2.2.2.2, ())))))))), ()))⟩]
def spec_wiRoom_l0K {R : Type} (a2 : List Int) (a3 : Int) (a6 : List Int) (a7 : List Int) (rc : Int → Int → Int → Option R) (fin : Int × Int → Option R) (a0 : Int) (a1 : Int) (a4 : Int) : Option R :=
  cond (decide (a4 < a3))
  ((lat a2 a4).bind fun e1 =>
    (lat a6 e1).bind fun e2 =>
    (lat a7 e1).bind fun e3 =>
    cond (decide (e3 > 0))
    ((lat a6 e1).bind fun e4 =>
      rc (IntKind.i64.wrap (a0 + e2)) (IntKind.i64.wrap (a1 + e4)) (IntKind.i64.wrap (a4 + 1)))
    (rc (IntKind.i64.wrap (a0 + e2)) a1 (IntKind.i64.wrap (a4 + 1))))
  (fin (a0, a1))
def spec_wiRoom_l0F (a2 : List Int) (a3 : Int) (a6 : List Int) (a7 : List Int) (r : (Int × Int × Int) → Option (Int × Int)) (x : Int × Int × Int) : Option (Int × Int) := spec_wiRoom_l0K a2 a3 a6 a7 (fun a0 a1 a4 => r (a0, (a1, a4))) some x.1 x.2.1 x.2.2
theorem spec_wiRoom_l0c (a2 : List Int) (a3 : Int) (a6 : List Int) (a7 : List Int) (x : Int × Int × Int) : Ct fun r => spec_wiRoom_l0F a2 a3 a6 a7 r x := by
  unfold spec_wiRoom_l0F spec_wiRoom_l0K
  repeat' (first | exact Ct.const | exact Ct.call | refine Ct.cond ?_ ?_ | refine Ct.bind ?_ fun _ => ?_ | refine Ct.sum (fun _ => ?_) fun _ => ?_)
def spec_wiRoom_l0 (a2 : List Int) (a3 : Int) (a6 : List Int) (a7 : List Int) (a0 : Int) (a1 : Int) (a4 : Int) : Option (Int × Int) := lim (spec_wiRoom_l0F a2 a3 a6 a7) (a0, (a1, a4))
theorem spec_wiRoom_l0_eq (a2 : List Int) (a3 : Int) (a6 : List Int) (a7 : List Int) (a0 : Int) (a1 : Int) (a4 : Int) : spec_wiRoom_l0 a2 a3 a6 a7 a0 a1 a4 = spec_wiRoom_l0K a2 a3 a6 a7 (spec_wiRoom_l0 a2 a3 a6 a7) some a0 a1 a4 := lim_eq (spec_wiRoom_l0c a2 a3 a6 a7) (a0, (a1, a4))
theorem spec_wiRoom_l0p {R : Type} (a2 : List Int) (a3 : Int) (a6 : List Int) (a7 : List Int) {rc : Int → Int → Int → Option (Int × Int)} {rc' : Int → Int → Int → Option R} {fin : Int × Int → Option R} (hr : ∀ a0 a1 a4, Par fin (rc a0 a1 a4) (rc' a0 a1 a4)) (a0 : Int) (a1 : Int) (a4 : Int) : Par fin (spec_wiRoom_l0K a2 a3 a6 a7 rc some a0 a1 a4) (spec_wiRoom_l0K a2 a3 a6 a7 rc' fin a0 a1 a4) := by
  unfold spec_wiRoom_l0K
  repeat' (first | exact .fin | exact .none | exact hr _ _ _ | refine .cond ?_ ?_ | refine .bind fun _ => ?_ | refine .sum (fun _ => ?_) fun _ => ?_)
def Lspec_wiRoom_l0 : Loop := mkL ⟨[4, 10, 11, 26, 27, 28], [.slot 4], [], []⟩ sspec_wiRoom_l0 xspec_wiRoom_l0 (fun (x : (Unit × Int × Int × (List Int) × Int × Int × Unit) × (((List (List Int)) × (List Int) × (List Int) × Int × Int × Int × Int × Int × Unit) × Unit)) => (x.1.2.2.2.1, (x.1.2.2.2.2.1, (x.2.1.1, (x.2.1.2.1, (x.2.1.2.2.1, (x.2.1.2.2.2.1, (x.2.1.2.2.2.2.1, (x.2.1.2.2.2.2.2.1, (x.2.1.2.2.2.2.2.2.1, x.2.1.2.2.2.2.2.2.2.1)))))))))) fun (x : (Unit × Int × Int × (List Int) × Int × Int × Unit) × (((List (List Int)) × (List Int) × (List Int) × Int × Int × Int × Int × Int × Unit) × Unit)) => spec_wiRoom_l0 x.1.2.2.2.1 x.1.2.2.2.2.1 x.2.1.2.1 x.2.1.2.2.1 x.1.2.1 x.1.2.2.1 x.1.2.2.2.2.2.1
def spec_wiRoomK {R : Type} (fin : Bool → Option R) (x0 : DJob) (x1 : DPlan) (x2 : Int) (x3 : List Int) : Option R :=
  (spec_plTonnes x0 x1).bind fun y1 =>
  cond (decide ((0 : Int) ≤ x2) && decide (x2 < (y1.length : Int)))
  (cond (decide ((0 : Int) < ((y1.getD (0 + x2.toNat) []).length : Int)))
    (cond (decide ((1 : Int) < ((y1.getD (0 + x2.toNat) []).length : Int)))
      ((spec_wiRoom_l0 x3 (x3.length : Int) x0.2.1 x0.2.2.1 ((y1.getD (0 + x2.toNat) []).getD (0 + 0) 0) ((y1.getD (0 + x2.toNat) []).getD (0 + 1) 0) 0).bind fun y6 =>
        cond (decide (y6.1 ≤ x0.2.2.2.1.1))
        (fin (decide (y6.2 ≤ x0.2.2.2.1.2.1)))
        (fin false))
      (none))
    (none))
  (none)
def spec_wiRoom (x0 : DJob) (x1 : DPlan) (x2 : Int) (x3 : List Int) : Option (Bool) := spec_wiRoomK some x0 x1 x2 x3
theorem p95 {R : Type} (fin : Bool → Option R) (x0 : DJob) (x1 : DPlan) (x2 : Int) (x3 : List Int) : Par fin (spec_wiRoomK some x0 x1 x2 x3) (spec_wiRoomK fin x0 x1 x2 x3) := by
  unfold spec_wiRoomK
  repeat' (first | exact .fin | exact .none | refine .cond ?_ ?_ | refine .bind fun _ => ?_ | refine .sum (fun _ => ?_) fun _ => ?_)
def or95 : Ora := { lo := addL 4 (Lspec_wiRoom_l0) lo0, fin := [] }
theorem spec_wiRoom_l0e (a2 : List Int) (a3 : Int) (a5 : List (List Int)) (a6 : List Int) (a7 : List Int) (a8 : Int) (a9 : Int) (a10 : Int) (a11 : Int) (a12 : Int) (k : Nat) (a0 : Int) (a1 : Int) (a4 : Int) : loopC Try.prog EL95 or95 ((loopsIn (codeOf Try.f95)).getD 0 .skip) (Lspec_wiRoom_l0).h (Lspec_wiRoom_l0).ho Try.f95.ntmps (k + 1) (sspec_wiRoom_l0.out (((), (a0, (a1, (a2, (a3, (a4, ())))))), ((a5, (a6, (a7, (a8, (a9, (a10, (a11, (a12, ())))))))), ()))) =
    spec_wiRoom_l0K a2 a3 a6 a7 (fun a0 a1 a4 => loopC Try.prog EL95 or95 ((loopsIn (codeOf Try.f95)).getD 0 .skip) (Lspec_wiRoom_l0).h (Lspec_wiRoom_l0).ho Try.f95.ntmps k (sspec_wiRoom_l0.out (((), (a0, (a1, (a2, (a3, (a4, ())))))), ((a5, (a6, (a7, (a8, (a9, (a10, (a11, (a12, ())))))))), ())))) (fun y => some (XS.out xspec_wiRoom_l0 (a2, (a3, (a5, (a6, (a7, (a8, (a9, (a10, (a11, a12))))))))) y)) a0 a1 a4 := by kernel_rfl
theorem spec_wiRoom_l0o : LoopOk Try.prog EL95 or95 Try.f95.ntmps ((loopsIn (codeOf Try.f95)).getD 0 .skip) (Lspec_wiRoom_l0) :=
  loop_lim (hs := sspec_wiRoom_l0) (xs := xspec_wiRoom_l0) (ι := fun (x : (Unit × Int × Int × (List Int) × Int × Int × Unit) × (((List (List Int)) × (List Int) × (List Int) × Int × Int × Int × Int × Int × Unit) × Unit)) => (x.1.2.2.2.1, (x.1.2.2.2.2.1, (x.2.1.1, (x.2.1.2.1, (x.2.1.2.2.1, (x.2.1.2.2.2.1, (x.2.1.2.2.2.2.1, (x.2.1.2.2.2.2.2.1, (x.2.1.2.2.2.2.2.2.1, x.2.1.2.2.2.2.2.2.2.1)))))))))) (φ := fun (x : (Unit × Int × Int × (List Int) × Int × Int × Unit) × (((List (List Int)) × (List Int) × (List Int) × Int × Int × Int × Int × Int × Unit) × Unit)) => (x.1.2.1, (x.1.2.2.1, x.1.2.2.2.2.2.1))) (ψ := fun (i : (List Int) × Int × (List (List Int)) × (List Int) × (List Int) × Int × Int × Int × Int × Int) (v : Int × Int × Int) => (((), (v.1, (v.2.1, (i.1, (i.2.1, (v.2.2, ())))))), ((i.2.2.1, (i.2.2.2.1, (i.2.2.2.2.1, (i.2.2.2.2.2.1, (i.2.2.2.2.2.2.1, (i.2.2.2.2.2.2.2.1, (i.2.2.2.2.2.2.2.2.1, (i.2.2.2.2.2.2.2.2.2, ())))))))), ()))) (F := fun (i : (List Int) × Int × (List (List Int)) × (List Int) × (List Int) × Int × Int × Int × Int × Int) => spec_wiRoom_l0F i.1 i.2.1 i.2.2.2.1 i.2.2.2.2.1) (fun _ => rfl) fun i k hk v => Par.of_eq (spec_wiRoom_l0e i.1 i.2.1 i.2.2.1 i.2.2.2.1 i.2.2.2.2.1 i.2.2.2.2.2.1 i.2.2.2.2.2.2.1 i.2.2.2.2.2.2.2.1 i.2.2.2.2.2.2.2.2.1 i.2.2.2.2.2.2.2.2.2 k v.1 v.2.1 v.2.2) (spec_wiRoom_l0p i.1 i.2.1 i.2.2.2.1 i.2.2.2.2.1 (fun a0 a1 a4 => hk (a0, (a1, a4))) v.1 v.2.1 v.2.2)
def c95 : Callee := mkC [.agg [.ro TJob], .agg [.ro TPlan], .one (.ro (.int .i64)), .one (.ro (.slice (.int .i64)))] 1 [.one (.ro .bool)] fun x => spec_wiRoom x.1 x.2.1 x.2.2.1 x.2.2.2
theorem e95 (x : PK.dens [.agg [.ro TJob], .agg [.ro TPlan], .one (.ro (.int .i64)), .one (.ro (.slice (.int .i64)))]) : evalFn Try.prog EL95 or95 Try.f95 (PK.outs [.agg [.ro TJob], .agg [.ro TPlan], .one (.ro (.int .i64)), .one (.ro (.slice (.int .i64)))] x) =
    spec_wiRoomK (fun y => some (tupOf ((PK.outs [.one (.ro .bool)] y).take 1), (PK.outs [.one (.ro .bool)] y).drop 1)) x.1 x.2.1 x.2.2.1 x.2.2.2 := by kernel_rfl
theorem o95 : LoOk Try.prog EL95 or95 Try.f95.ntmps (loopsIn (codeOf Try.f95)) :=
  LoOk.mk (m := 1) (by kernel_rfl) fun i hi => match i, hi with
    | 0, _ => ⟨Lspec_wiRoom_l0, by kernel_rfl, spec_wiRoom_l0o⟩
    | i + 1, hi => absurd hi (by omega)
theorem k95 : CalleeOk Try.prog 95 c95 := callee_mk Try.func95 (code := codeOf Try.f95) (by kernel_rfl) vL95 mixed o95 fun x y h => (e95 x).trans (p95 _ x.1 x.2.1 x.2.2.1 x.2.2.2 y h)
end
end Go.OAI
