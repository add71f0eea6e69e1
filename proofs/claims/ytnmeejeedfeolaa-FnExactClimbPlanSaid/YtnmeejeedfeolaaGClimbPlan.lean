/- Contracts: GClimbPlan. -/
import Derived.Test.YtnmeejeedfeolaaGA
import Derived.Test.YtnmeejeedfeolaaGF
import Derived.Test.YtnmeejeedfeolaaGK
import Derived.Test.YtnmeejeedfeolaaGBm
namespace Go.OAI
open Go.Proofs
set_option linter.unusedVariables false
noncomputable section


/-- spec.ClimbPlan -/
def EL60 : Nat → Option Callee := addE 106 c106 (addE 77 c77 (addE 75 c75 (addE 100 c100 env0)))
theorem vL60 : EnvOk Try.prog EL60 := (((EnvOk.nil.add Try.func100 rfl (by kernel_rfl) k100).add Try.func75 rfl (by kernel_rfl) k75).add Try.func77 rfl (by kernel_rfl) k77).add Try.func106 rfl (by kernel_rfl) k106
def sspec_ClimbPlan_l0 : LS := ⟨[(2, .one (.dat (.int .i64))), (3, .one (.fix (.ptr 0 0))), (6, .one (.fix (.ptr 1 0))), (9, .one (.fix (.ptr 2 0))), (10, .one (.dat (.int .i64)))], [.box [.dat (.slice (.slice (.int .i64))), .dat (.slice (.int .i64)), .dat (.slice (.int .i64)), .dat (.int .i64), .dat (.int .i64), .dat (.int .i64), .dat (.int .i64), .dat (.int .i64)], .box [.dat (.int .i64), .fix .nils], .box [.dat (.int .i64), .fix (.sref 3)], .sl (.int .i64)], []⟩
def sspec_ClimbPlan_l0x0 : LS := ⟨[(6, .one (.fix (.ptr 0 0))), (7, .one (.dat (.int .i64))), (8, .one (.dat .bool))], [.box [.dat (.int .i64), .fix (.sref 1)], .sl (.int .i64)], []⟩
def sspec_ClimbPlan_l0x1 : LS := ⟨[(2, .one (.dat (.int .i64))), (6, .one (.fix (.ptr 0 0))), (9, .one (.fix (.ptr 1 0)))], [.box [.dat (.int .i64), .fix .nils], .box [.dat (.int .i64), .fix (.sref 2)], .sl (.int .i64)], []⟩
def xspec_ClimbPlan_l0 : List (XS (Int × (List (List Int)) × (List Int) × (List Int) × Int × Int × Int × Int × Int × Int)) := [⟨.ret, ⟨[6, 7, 8], [.slot 6, .cell 6 1], [], []⟩, sspec_ClimbPlan_l0x0, Int × Bool × Int × (List Int), fun i y => (((), (y.1, (y.2.1, ()))), ((y.2.2.1, ((), ())), (y.2.2.2, ())))⟩,
  ⟨.exit 0, ⟨[2, 6, 9], [.slot 6, .slot 9, .cell 9 1], [], []⟩, sspec_ClimbPlan_l0x1, Int × (List Int), fun i y => ((i.1, ((), ((), ()))), ((i.2.2.2.2.2.2.2.2.2, ((), ())), ((y.1, ((), ())), (y.2, ()))))⟩]
def spec_ClimbPlan_l0K {R : Type} (a0 : Int) (a2 : List (List Int)) (a3 : List Int) (a4 : List Int) (a5 : Int) (a6 : Int) (a7 : Int) (a8 : Int) (a9 : Int) (rc : Int → Int → List Int → Option R) (fin : ((Int × Bool × Int × (List Int)) ⊕ (Int × (List Int))) → Option R) (a1 : Int) (a11 : Int) (a12 : List Int) : Option R :=
  cond (decide (a1 < a0))
  ((spec_wiMove (a2, (a3, (a4, ((a5, (a6, ())), (a7, (a8, (a9, ()))))))) (a11, (a12, ()))).bind fun y1 =>
    cond (y1.2.2 == 0)
    (fin (.inl (a1, (true, (a11, a12)))))
    ((spec_plWith (a11, (a12, ())) y1.1 y1.2.1).bind fun y2 =>
      rc (IntKind.i64.wrap (a1 + 1)) y2.1 y2.2))
  (fin (.inr (a11, a12)))
def spec_ClimbPlan_l0F (a0 : Int) (a2 : List (List Int)) (a3 : List Int) (a4 : List Int) (a5 : Int) (a6 : Int) (a7 : Int) (a8 : Int) (a9 : Int) (r : (Int × Int × (List Int)) → Option ((Int × Bool × Int × (List Int)) ⊕ (Int × (List Int)))) (x : Int × Int × (List Int)) : Option ((Int × Bool × Int × (List Int)) ⊕ (Int × (List Int))) := spec_ClimbPlan_l0K a0 a2 a3 a4 a5 a6 a7 a8 a9 (fun a1 a11 a12 => r (a1, (a11, a12))) some x.1 x.2.1 x.2.2
theorem spec_ClimbPlan_l0c (a0 : Int) (a2 : List (List Int)) (a3 : List Int) (a4 : List Int) (a5 : Int) (a6 : Int) (a7 : Int) (a8 : Int) (a9 : Int) (x : Int × Int × (List Int)) : Ct fun r => spec_ClimbPlan_l0F a0 a2 a3 a4 a5 a6 a7 a8 a9 r x := by
  unfold spec_ClimbPlan_l0F spec_ClimbPlan_l0K
  repeat' (first | exact Ct.const | exact Ct.call | refine Ct.cond ?_ ?_ | refine Ct.bind ?_ fun _ => ?_ | refine Ct.sum (fun _ => ?_) fun _ => ?_)
def spec_ClimbPlan_l0 (a0 : Int) (a2 : List (List Int)) (a3 : List Int) (a4 : List Int) (a5 : Int) (a6 : Int) (a7 : Int) (a8 : Int) (a9 : Int) (a1 : Int) (a11 : Int) (a12 : List Int) : Option ((Int × Bool × Int × (List Int)) ⊕ (Int × (List Int))) := lim (spec_ClimbPlan_l0F a0 a2 a3 a4 a5 a6 a7 a8 a9) (a1, (a11, a12))
theorem spec_ClimbPlan_l0_eq (a0 : Int) (a2 : List (List Int)) (a3 : List Int) (a4 : List Int) (a5 : Int) (a6 : Int) (a7 : Int) (a8 : Int) (a9 : Int) (a1 : Int) (a11 : Int) (a12 : List Int) : spec_ClimbPlan_l0 a0 a2 a3 a4 a5 a6 a7 a8 a9 a1 a11 a12 = spec_ClimbPlan_l0K a0 a2 a3 a4 a5 a6 a7 a8 a9 (spec_ClimbPlan_l0 a0 a2 a3 a4 a5 a6 a7 a8 a9) some a1 a11 a12 := lim_eq (spec_ClimbPlan_l0c a0 a2 a3 a4 a5 a6 a7 a8 a9) (a1, (a11, a12))
theorem spec_ClimbPlan_l0p {R : Type} (a0 : Int) (a2 : List (List Int)) (a3 : List Int) (a4 : List Int) (a5 : Int) (a6 : Int) (a7 : Int) (a8 : Int) (a9 : Int) {rc : Int → Int → List Int → Option ((Int × Bool × Int × (List Int)) ⊕ (Int × (List Int)))} {rc' : Int → Int → List Int → Option R} {fin : ((Int × Bool × Int × (List Int)) ⊕ (Int × (List Int))) → Option R} (hr : ∀ a1 a11 a12, Par fin (rc a1 a11 a12) (rc' a1 a11 a12)) (a1 : Int) (a11 : Int) (a12 : List Int) : Par fin (spec_ClimbPlan_l0K a0 a2 a3 a4 a5 a6 a7 a8 a9 rc some a1 a11 a12) (spec_ClimbPlan_l0K a0 a2 a3 a4 a5 a6 a7 a8 a9 rc' fin a1 a11 a12) := by
  unfold spec_ClimbPlan_l0K
  repeat' (first | exact .fin | exact .none | exact hr _ _ _ | refine .cond ?_ ?_ | refine .bind fun _ => ?_ | refine .sum (fun _ => ?_) fun _ => ?_)
def Lspec_ClimbPlan_l0 : Loop := mkL ⟨[2, 3, 6, 9, 10], [.slot 3, .slot 6, .slot 9, .cell 9 1], [], []⟩ sspec_ClimbPlan_l0 xspec_ClimbPlan_l0 (fun (x : (Int × Unit × Unit × Unit × Int × Unit) × (((List (List Int)) × (List Int) × (List Int) × Int × Int × Int × Int × Int × Unit) × (Int × Unit × Unit) × (Int × Unit × Unit) × (List Int) × Unit)) => (x.1.1, (x.2.1.1, (x.2.1.2.1, (x.2.1.2.2.1, (x.2.1.2.2.2.1, (x.2.1.2.2.2.2.1, (x.2.1.2.2.2.2.2.1, (x.2.1.2.2.2.2.2.2.1, (x.2.1.2.2.2.2.2.2.2.1, x.2.2.1.1)))))))))) fun (x : (Int × Unit × Unit × Unit × Int × Unit) × (((List (List Int)) × (List Int) × (List Int) × Int × Int × Int × Int × Int × Unit) × (Int × Unit × Unit) × (Int × Unit × Unit) × (List Int) × Unit)) => spec_ClimbPlan_l0 x.1.1 x.2.1.1 x.2.1.2.1 x.2.1.2.2.1 x.2.1.2.2.2.1 x.2.1.2.2.2.2.1 x.2.1.2.2.2.2.2.1 x.2.1.2.2.2.2.2.2.1 x.2.1.2.2.2.2.2.2.2.1 x.1.2.2.2.2.1 x.2.2.2.1.1 x.2.2.2.2.1
def spec_ClimbPlanK {R : Type} (fin : (Int × (List Int)) × Int × Bool → Option R) (x0 : DJob) (x1 : DPlan) (x2 : Int) : Option R :=
  (spec_wiGood x0 x1).bind fun y1 =>
  cond (!y1)
  (fin ((0, []), (0, false)))
  ((spec_l1In x2 0 40).bind fun y2 =>
    cond (!y2)
    (fin ((0, []), (0, false)))
    ((lat x1.2.1 0).bind fun e3 =>
      (spec_plWith x1 0 e3).bind fun y4 =>
      (spec_ClimbPlan_l0 x2 x0.1 x0.2.1 x0.2.2.1 x0.2.2.2.1.1 x0.2.2.2.1.2.1 x0.2.2.2.2.1 x0.2.2.2.2.2.1 x0.2.2.2.2.2.2.1 0 y4.1 y4.2).bind fun y7 =>
      sumO y7 (fun y8 =>
      fin (y8.2.2, (y8.1, y8.2.1)))
      (fun y9 =>
      fin (y9, (x2, true)))))
def spec_ClimbPlan (x0 : DJob) (x1 : DPlan) (x2 : Int) : Option ((Int × (List Int)) × Int × Bool) := spec_ClimbPlanK some x0 x1 x2
theorem p60 {R : Type} (fin : (Int × (List Int)) × Int × Bool → Option R) (x0 : DJob) (x1 : DPlan) (x2 : Int) : Par fin (spec_ClimbPlanK some x0 x1 x2) (spec_ClimbPlanK fin x0 x1 x2) := by
  unfold spec_ClimbPlanK
  repeat' (first | exact .fin | exact .none | refine .cond ?_ ?_ | refine .bind fun _ => ?_ | refine .sum (fun _ => ?_) fun _ => ?_)
def or60 : Ora := { lo := addL 5 (Lspec_ClimbPlan_l0) lo0, fin := [.own (.cell 6 1) (.int .i64)] }
theorem spec_ClimbPlan_l0e (a0 : Int) (a2 : List (List Int)) (a3 : List Int) (a4 : List Int) (a5 : Int) (a6 : Int) (a7 : Int) (a8 : Int) (a9 : Int) (a10 : Int) (k : Nat) (a1 : Int) (a11 : Int) (a12 : List Int) : loopC Try.prog EL60 or60 ((loopsIn (codeOf Try.f60)).getD 0 .skip) (Lspec_ClimbPlan_l0).h (Lspec_ClimbPlan_l0).ho Try.f60.ntmps (k + 1) (sspec_ClimbPlan_l0.out ((a0, ((), ((), ((), (a1, ()))))), ((a2, (a3, (a4, (a5, (a6, (a7, (a8, (a9, ())))))))), ((a10, ((), ())), ((a11, ((), ())), (a12, ())))))) =
    spec_ClimbPlan_l0K a0 a2 a3 a4 a5 a6 a7 a8 a9 (fun a1 a11 a12 => loopC Try.prog EL60 or60 ((loopsIn (codeOf Try.f60)).getD 0 .skip) (Lspec_ClimbPlan_l0).h (Lspec_ClimbPlan_l0).ho Try.f60.ntmps k (sspec_ClimbPlan_l0.out ((a0, ((), ((), ((), (a1, ()))))), ((a2, (a3, (a4, (a5, (a6, (a7, (a8, (a9, ())))))))), ((a10, ((), ())), ((a11, ((), ())), (a12, ()))))))) (fun y => some (XS.out xspec_ClimbPlan_l0 (a0, (a2, (a3, (a4, (a5, (a6, (a7, (a8, (a9, a10))))))))) y)) a1 a11 a12 := by kernel_rfl
theorem spec_ClimbPlan_l0o : LoopOk Try.prog EL60 or60 Try.f60.ntmps ((loopsIn (codeOf Try.f60)).getD 0 .skip) (Lspec_ClimbPlan_l0) :=
  loop_lim (hs := sspec_ClimbPlan_l0) (xs := xspec_ClimbPlan_l0) (ι := fun (x : (Int × Unit × Unit × Unit × Int × Unit) × (((List (List Int)) × (List Int) × (List Int) × Int × Int × Int × Int × Int × Unit) × (Int × Unit × Unit) × (Int × Unit × Unit) × (List Int) × Unit)) => (x.1.1, (x.2.1.1, (x.2.1.2.1, (x.2.1.2.2.1, (x.2.1.2.2.2.1, (x.2.1.2.2.2.2.1, (x.2.1.2.2.2.2.2.1, (x.2.1.2.2.2.2.2.2.1, (x.2.1.2.2.2.2.2.2.2.1, x.2.2.1.1)))))))))) (φ := fun (x : (Int × Unit × Unit × Unit × Int × Unit) × (((List (List Int)) × (List Int) × (List Int) × Int × Int × Int × Int × Int × Unit) × (Int × Unit × Unit) × (Int × Unit × Unit) × (List Int) × Unit)) => (x.1.2.2.2.2.1, (x.2.2.2.1.1, x.2.2.2.2.1))) (ψ := fun (i : Int × (List (List Int)) × (List Int) × (List Int) × Int × Int × Int × Int × Int × Int) (v : Int × Int × (List Int)) => ((i.1, ((), ((), ((), (v.1, ()))))), ((i.2.1, (i.2.2.1, (i.2.2.2.1, (i.2.2.2.2.1, (i.2.2.2.2.2.1, (i.2.2.2.2.2.2.1, (i.2.2.2.2.2.2.2.1, (i.2.2.2.2.2.2.2.2.1, ())))))))), ((i.2.2.2.2.2.2.2.2.2, ((), ())), ((v.2.1, ((), ())), (v.2.2, ())))))) (F := fun (i : Int × (List (List Int)) × (List Int) × (List Int) × Int × Int × Int × Int × Int × Int) => spec_ClimbPlan_l0F i.1 i.2.1 i.2.2.1 i.2.2.2.1 i.2.2.2.2.1 i.2.2.2.2.2.1 i.2.2.2.2.2.2.1 i.2.2.2.2.2.2.2.1 i.2.2.2.2.2.2.2.2.1) (fun _ => rfl) fun i k hk v => Par.of_eq (spec_ClimbPlan_l0e i.1 i.2.1 i.2.2.1 i.2.2.2.1 i.2.2.2.2.1 i.2.2.2.2.2.1 i.2.2.2.2.2.2.1 i.2.2.2.2.2.2.2.1 i.2.2.2.2.2.2.2.2.1 i.2.2.2.2.2.2.2.2.2 k v.1 v.2.1 v.2.2) (spec_ClimbPlan_l0p i.1 i.2.1 i.2.2.1 i.2.2.2.1 i.2.2.2.2.1 i.2.2.2.2.2.1 i.2.2.2.2.2.2.1 i.2.2.2.2.2.2.2.1 i.2.2.2.2.2.2.2.2.1 (fun a1 a11 a12 => hk (a1, (a11, a12))) v.1 v.2.1 v.2.2)
def c60 : Callee := mkC [.agg [.ro TJob], .agg [.ro TPlan], .one (.ro (.int .i64))] 3 [.agg [.ro (.int .i64), .sl (.int .i64)], .one (.ro (.int .i64)), .one (.ro .bool)] fun x => spec_ClimbPlan x.1 x.2.1 x.2.2
theorem e60 (x : PK.dens [.agg [.ro TJob], .agg [.ro TPlan], .one (.ro (.int .i64))]) : evalFn Try.prog EL60 or60 Try.f60 (PK.outs [.agg [.ro TJob], .agg [.ro TPlan], .one (.ro (.int .i64))] x) =
    spec_ClimbPlanK (fun y => some (tupOf ((PK.outs [.agg [.ro (.int .i64), .sl (.int .i64)], .one (.ro (.int .i64)), .one (.ro .bool)] y).take 3), (PK.outs [.agg [.ro (.int .i64), .sl (.int .i64)], .one (.ro (.int .i64)), .one (.ro .bool)] y).drop 3)) x.1 x.2.1 x.2.2 := by kernel_rfl
theorem o60 : LoOk Try.prog EL60 or60 Try.f60.ntmps (loopsIn (codeOf Try.f60)) :=
  LoOk.mk (m := 1) (by kernel_rfl) fun i hi => match i, hi with
    | 0, _ => ⟨Lspec_ClimbPlan_l0, by kernel_rfl, spec_ClimbPlan_l0o⟩
    | i + 1, hi => absurd hi (by omega)
theorem k60 : CalleeOk Try.prog 60 c60 := callee_mk Try.func60 (code := codeOf Try.f60) (by kernel_rfl) vL60 mixed o60 fun x y h => (e60 x).trans (p60 _ x.1 x.2.1 x.2.2 y h)

/-- impl.ClimbPlan -/
def EL61 : Nat → Option Callee := addE 107 c107 (addE 103 c103 (addE 102 c102 env0))
theorem vL61 : EnvOk Try.prog EL61 := ((EnvOk.nil.add Try.func102 rfl (by kernel_rfl) k102).add Try.func103 rfl (by kernel_rfl) k103).add Try.func107 rfl (by kernel_rfl) k107
def simpl_ClimbPlan_l0 : LS := ⟨[(2, .one (.dat (.int .i64))), (3, .one (.fix (.ptr 0 0))), (6, .one (.fix (.ptr 1 0))), (9, .one (.fix (.ptr 2 0))), (10, .one (.dat (.int .i64)))], [.box [.dat (.slice (.slice (.int .i64))), .dat (.slice (.int .i64)), .dat (.slice (.int .i64)), .dat (.int .i64), .dat (.int .i64), .dat (.int .i64), .dat (.int .i64), .dat (.int .i64)], .box [.dat (.int .i64), .fix .nils], .box [.dat (.int .i64), .fix (.sref 3)], .sl (.int .i64)], []⟩
def simpl_ClimbPlan_l0x0 : LS := ⟨[(6, .one (.fix (.ptr 0 0))), (7, .one (.dat (.int .i64))), (8, .one (.dat .bool))], [.box [.dat (.int .i64), .fix (.sref 1)], .sl (.int .i64)], []⟩
def simpl_ClimbPlan_l0x1 : LS := ⟨[(2, .one (.dat (.int .i64))), (6, .one (.fix (.ptr 0 0))), (9, .one (.fix (.ptr 1 0)))], [.box [.dat (.int .i64), .fix .nils], .box [.dat (.int .i64), .fix (.sref 2)], .sl (.int .i64)], []⟩
def ximpl_ClimbPlan_l0 : List (XS (Int × (List (List Int)) × (List Int) × (List Int) × Int × Int × Int × Int × Int × Int × Int)) := [⟨.ret, ⟨[6, 7, 8], [.slot 6, .cell 6 1], [], []⟩, simpl_ClimbPlan_l0x0, Int × Bool × (List Int), fun i y => (((), (y.1, (y.2.1, ()))), ((i.2.2.2.2.2.2.2.2.2.2, ((), ())), (y.2.2, ())))⟩,
  ⟨.exit 0, ⟨[2, 6, 9], [.slot 6, .slot 9, .cell 9 1], [], []⟩, simpl_ClimbPlan_l0x1, List Int, fun i y => ((i.1, ((), ((), ()))), ((i.2.2.2.2.2.2.2.2.2.1, ((), ())), ((i.2.2.2.2.2.2.2.2.2.2, ((), ())), (y, ()))))⟩]
def impl_ClimbPlan_l0K {R : Type} (a0 : Int) (a2 : List (List Int)) (a3 : List Int) (a4 : List Int) (a5 : Int) (a6 : Int) (a7 : Int) (a8 : Int) (a9 : Int) (a11 : Int) (rc : Int → List Int → Option R) (fin : ((Int × Bool × (List Int)) ⊕ (List Int)) → Option R) (a1 : Int) (a12 : List Int) : Option R :=
  cond (decide (a1 < a0))
  ((impl_bestMove (a2, (a3, (a4, ((a5, (a6, ())), (a7, (a8, (a9, ()))))))) (a11, (a12, ()))).bind fun y1 =>
    cond (!y1.2.2.2)
    (fin (.inl (a1, (true, a12))))
    (cond (decide ((0 : Int) ≤ y1.1) && decide (y1.1 < (a12.length : Int)))
      ((some (a12.set (0 + y1.1.toNat) y1.2.1)).bind fun v2 =>
        rc (IntKind.i64.wrap (a1 + 1)) v2)
      (none)))
  (fin (.inr a12))
def impl_ClimbPlan_l0F (a0 : Int) (a2 : List (List Int)) (a3 : List Int) (a4 : List Int) (a5 : Int) (a6 : Int) (a7 : Int) (a8 : Int) (a9 : Int) (a11 : Int) (r : (Int × (List Int)) → Option ((Int × Bool × (List Int)) ⊕ (List Int))) (x : Int × (List Int)) : Option ((Int × Bool × (List Int)) ⊕ (List Int)) := impl_ClimbPlan_l0K a0 a2 a3 a4 a5 a6 a7 a8 a9 a11 (fun a1 a12 => r (a1, a12)) some x.1 x.2
theorem impl_ClimbPlan_l0c (a0 : Int) (a2 : List (List Int)) (a3 : List Int) (a4 : List Int) (a5 : Int) (a6 : Int) (a7 : Int) (a8 : Int) (a9 : Int) (a11 : Int) (x : Int × (List Int)) : Ct fun r => impl_ClimbPlan_l0F a0 a2 a3 a4 a5 a6 a7 a8 a9 a11 r x := by
  unfold impl_ClimbPlan_l0F impl_ClimbPlan_l0K
  repeat' (first | exact Ct.const | exact Ct.call | refine Ct.cond ?_ ?_ | refine Ct.bind ?_ fun _ => ?_ | refine Ct.sum (fun _ => ?_) fun _ => ?_)
def impl_ClimbPlan_l0 (a0 : Int) (a2 : List (List Int)) (a3 : List Int) (a4 : List Int) (a5 : Int) (a6 : Int) (a7 : Int) (a8 : Int) (a9 : Int) (a11 : Int) (a1 : Int) (a12 : List Int) : Option ((Int × Bool × (List Int)) ⊕ (List Int)) := lim (impl_ClimbPlan_l0F a0 a2 a3 a4 a5 a6 a7 a8 a9 a11) (a1, a12)
theorem impl_ClimbPlan_l0_eq (a0 : Int) (a2 : List (List Int)) (a3 : List Int) (a4 : List Int) (a5 : Int) (a6 : Int) (a7 : Int) (a8 : Int) (a9 : Int) (a11 : Int) (a1 : Int) (a12 : List Int) : impl_ClimbPlan_l0 a0 a2 a3 a4 a5 a6 a7 a8 a9 a11 a1 a12 = impl_ClimbPlan_l0K a0 a2 a3 a4 a5 a6 a7 a8 a9 a11 (impl_ClimbPlan_l0 a0 a2 a3 a4 a5 a6 a7 a8 a9 a11) some a1 a12 := lim_eq (impl_ClimbPlan_l0c a0 a2 a3 a4 a5 a6 a7 a8 a9 a11) (a1, a12)
theorem impl_ClimbPlan_l0p {R : Type} (a0 : Int) (a2 : List (List Int)) (a3 : List Int) (a4 : List Int) (a5 : Int) (a6 : Int) (a7 : Int) (a8 : Int) (a9 : Int) (a11 : Int) {rc : Int → List Int → Option ((Int × Bool × (List Int)) ⊕ (List Int))} {rc' : Int → List Int → Option R} {fin : ((Int × Bool × (List Int)) ⊕ (List Int)) → Option R} (hr : ∀ a1 a12, Par fin (rc a1 a12) (rc' a1 a12)) (a1 : Int) (a12 : List Int) : Par fin (impl_ClimbPlan_l0K a0 a2 a3 a4 a5 a6 a7 a8 a9 a11 rc some a1 a12) (impl_ClimbPlan_l0K a0 a2 a3 a4 a5 a6 a7 a8 a9 a11 rc' fin a1 a12) := by
  unfold impl_ClimbPlan_l0K
  repeat' (first | exact .fin | exact .none | exact hr _ _ | refine .cond ?_ ?_ | refine .bind fun _ => ?_ | refine .sum (fun _ => ?_) fun _ => ?_)
def Limpl_ClimbPlan_l0 : Loop := mkL ⟨[2, 3, 6, 9, 10], [.slot 3, .slot 6, .slot 9, .cell 9 1], [], []⟩ simpl_ClimbPlan_l0 ximpl_ClimbPlan_l0 (fun (x : (Int × Unit × Unit × Unit × Int × Unit) × (((List (List Int)) × (List Int) × (List Int) × Int × Int × Int × Int × Int × Unit) × (Int × Unit × Unit) × (Int × Unit × Unit) × (List Int) × Unit)) => (x.1.1, (x.2.1.1, (x.2.1.2.1, (x.2.1.2.2.1, (x.2.1.2.2.2.1, (x.2.1.2.2.2.2.1, (x.2.1.2.2.2.2.2.1, (x.2.1.2.2.2.2.2.2.1, (x.2.1.2.2.2.2.2.2.2.1, (x.2.2.1.1, x.2.2.2.1.1))))))))))) fun (x : (Int × Unit × Unit × Unit × Int × Unit) × (((List (List Int)) × (List Int) × (List Int) × Int × Int × Int × Int × Int × Unit) × (Int × Unit × Unit) × (Int × Unit × Unit) × (List Int) × Unit)) => impl_ClimbPlan_l0 x.1.1 x.2.1.1 x.2.1.2.1 x.2.1.2.2.1 x.2.1.2.2.2.1 x.2.1.2.2.2.2.1 x.2.1.2.2.2.2.2.1 x.2.1.2.2.2.2.2.2.1 x.2.1.2.2.2.2.2.2.2.1 x.2.2.2.1.1 x.1.2.2.2.2.1 x.2.2.2.2.1
def impl_ClimbPlanK {R : Type} (fin : (Int × (List Int)) × Int × Bool → Option R) (x0 : DJob) (x1 : DPlan) (x2 : Int) : Option R :=
  (impl_isKept x0 x1).bind fun y1 =>
  cond (!y1)
  (fin ((0, []), (0, false)))
  (cond (decide (x2 < 0))
    (fin ((0, []), (0, false)))
    (cond (decide (x2 > 40))
      (fin ((0, []), (0, false)))
      ((impl_copyPlan x1).bind fun y2 =>
        (impl_ClimbPlan_l0 x2 x0.1 x0.2.1 x0.2.2.1 x0.2.2.2.1.1 x0.2.2.2.1.2.1 x0.2.2.2.2.1 x0.2.2.2.2.2.1 x0.2.2.2.2.2.2.1 y2.1 0 y2.2).bind fun y5 =>
        sumO y5 (fun y6 =>
        fin ((y2.1, y6.2.2), (y6.1, y6.2.1)))
        (fun y7 =>
        fin ((y2.1, y7), (x2, true))))))
def impl_ClimbPlan (x0 : DJob) (x1 : DPlan) (x2 : Int) : Option ((Int × (List Int)) × Int × Bool) := impl_ClimbPlanK some x0 x1 x2
theorem p61 {R : Type} (fin : (Int × (List Int)) × Int × Bool → Option R) (x0 : DJob) (x1 : DPlan) (x2 : Int) : Par fin (impl_ClimbPlanK some x0 x1 x2) (impl_ClimbPlanK fin x0 x1 x2) := by
  unfold impl_ClimbPlanK
  repeat' (first | exact .fin | exact .none | refine .cond ?_ ?_ | refine .bind fun _ => ?_ | refine .sum (fun _ => ?_) fun _ => ?_)
def or61 : Ora := { lo := addL 5 (Limpl_ClimbPlan_l0) lo0, fin := [.own (.cell 6 1) (.int .i64)] }
theorem impl_ClimbPlan_l0e (a0 : Int) (a2 : List (List Int)) (a3 : List Int) (a4 : List Int) (a5 : Int) (a6 : Int) (a7 : Int) (a8 : Int) (a9 : Int) (a10 : Int) (a11 : Int) (k : Nat) (a1 : Int) (a12 : List Int) : loopC Try.prog EL61 or61 ((loopsIn (codeOf Try.f61)).getD 0 .skip) (Limpl_ClimbPlan_l0).h (Limpl_ClimbPlan_l0).ho Try.f61.ntmps (k + 1) (simpl_ClimbPlan_l0.out ((a0, ((), ((), ((), (a1, ()))))), ((a2, (a3, (a4, (a5, (a6, (a7, (a8, (a9, ())))))))), ((a10, ((), ())), ((a11, ((), ())), (a12, ())))))) =
    impl_ClimbPlan_l0K a0 a2 a3 a4 a5 a6 a7 a8 a9 a11 (fun a1 a12 => loopC Try.prog EL61 or61 ((loopsIn (codeOf Try.f61)).getD 0 .skip) (Limpl_ClimbPlan_l0).h (Limpl_ClimbPlan_l0).ho Try.f61.ntmps k (simpl_ClimbPlan_l0.out ((a0, ((), ((), ((), (a1, ()))))), ((a2, (a3, (a4, (a5, (a6, (a7, (a8, (a9, ())))))))), ((a10, ((), ())), ((a11, ((), ())), (a12, ()))))))) (fun y => some (XS.out ximpl_ClimbPlan_l0 (a0, (a2, (a3, (a4, (a5, (a6, (a7, (a8, (a9, (a10, a11)))))))))) y)) a1 a12 := by kernel_rfl
theorem impl_ClimbPlan_l0o : LoopOk Try.prog EL61 or61 Try.f61.ntmps ((loopsIn (codeOf Try.f61)).getD 0 .skip) (Limpl_ClimbPlan_l0) :=
  loop_lim (hs := simpl_ClimbPlan_l0) (xs := ximpl_ClimbPlan_l0) (ι := fun (x : (Int × Unit × Unit × Unit × Int × Unit) × (((List (List Int)) × (List Int) × (List Int) × Int × Int × Int × Int × Int × Unit) × (Int × Unit × Unit) × (Int × Unit × Unit) × (List Int) × Unit)) => (x.1.1, (x.2.1.1, (x.2.1.2.1, (x.2.1.2.2.1, (x.2.1.2.2.2.1, (x.2.1.2.2.2.2.1, (x.2.1.2.2.2.2.2.1, (x.2.1.2.2.2.2.2.2.1, (x.2.1.2.2.2.2.2.2.2.1, (x.2.2.1.1, x.2.2.2.1.1))))))))))) (φ := fun (x : (Int × Unit × Unit × Unit × Int × Unit) × (((List (List Int)) × (List Int) × (List Int) × Int × Int × Int × Int × Int × Unit) × (Int × Unit × Unit) × (Int × Unit × Unit) × (List Int) × Unit)) => (x.1.2.2.2.2.1, x.2.2.2.2.1)) (ψ := fun (i : Int × (List (List Int)) × (List Int) × (List Int) × Int × Int × Int × Int × Int × Int × Int) (v : Int × (List Int)) => ((i.1, ((), ((), ((), (v.1, ()))))), ((i.2.1, (i.2.2.1, (i.2.2.2.1, (i.2.2.2.2.1, (i.2.2.2.2.2.1, (i.2.2.2.2.2.2.1, (i.2.2.2.2.2.2.2.1, (i.2.2.2.2.2.2.2.2.1, ())))))))), ((i.2.2.2.2.2.2.2.2.2.1, ((), ())), ((i.2.2.2.2.2.2.2.2.2.2, ((), ())), (v.2, ())))))) (F := fun (i : Int × (List (List Int)) × (List Int) × (List Int) × Int × Int × Int × Int × Int × Int × Int) => impl_ClimbPlan_l0F i.1 i.2.1 i.2.2.1 i.2.2.2.1 i.2.2.2.2.1 i.2.2.2.2.2.1 i.2.2.2.2.2.2.1 i.2.2.2.2.2.2.2.1 i.2.2.2.2.2.2.2.2.1 i.2.2.2.2.2.2.2.2.2.2) (fun _ => rfl) fun i k hk v => Par.of_eq (impl_ClimbPlan_l0e i.1 i.2.1 i.2.2.1 i.2.2.2.1 i.2.2.2.2.1 i.2.2.2.2.2.1 i.2.2.2.2.2.2.1 i.2.2.2.2.2.2.2.1 i.2.2.2.2.2.2.2.2.1 i.2.2.2.2.2.2.2.2.2.1 i.2.2.2.2.2.2.2.2.2.2 k v.1 v.2) (impl_ClimbPlan_l0p i.1 i.2.1 i.2.2.1 i.2.2.2.1 i.2.2.2.2.1 i.2.2.2.2.2.1 i.2.2.2.2.2.2.1 i.2.2.2.2.2.2.2.1 i.2.2.2.2.2.2.2.2.1 i.2.2.2.2.2.2.2.2.2.2 (fun a1 a12 => hk (a1, a12)) v.1 v.2)
def c61 : Callee := mkC [.agg [.ro TJob], .agg [.ro TPlan], .one (.ro (.int .i64))] 3 [.agg [.ro (.int .i64), .sl (.int .i64)], .one (.ro (.int .i64)), .one (.ro .bool)] fun x => impl_ClimbPlan x.1 x.2.1 x.2.2
theorem e61 (x : PK.dens [.agg [.ro TJob], .agg [.ro TPlan], .one (.ro (.int .i64))]) : evalFn Try.prog EL61 or61 Try.f61 (PK.outs [.agg [.ro TJob], .agg [.ro TPlan], .one (.ro (.int .i64))] x) =
    impl_ClimbPlanK (fun y => some (tupOf ((PK.outs [.agg [.ro (.int .i64), .sl (.int .i64)], .one (.ro (.int .i64)), .one (.ro .bool)] y).take 3), (PK.outs [.agg [.ro (.int .i64), .sl (.int .i64)], .one (.ro (.int .i64)), .one (.ro .bool)] y).drop 3)) x.1 x.2.1 x.2.2 := by kernel_rfl
theorem o61 : LoOk Try.prog EL61 or61 Try.f61.ntmps (loopsIn (codeOf Try.f61)) :=
  LoOk.mk (m := 1) (by kernel_rfl) fun i hi => match i, hi with
    | 0, _ => ⟨Limpl_ClimbPlan_l0, by kernel_rfl, impl_ClimbPlan_l0o⟩
    | i + 1, hi => absurd hi (by omega)
theorem k61 : CalleeOk Try.prog 61 c61 := callee_mk Try.func61 (code := codeOf Try.f61) (by kernel_rfl) vL61 mixed o61 fun x y h => (e61 x).trans (p61 _ x.1 x.2.1 x.2.2 y h)

/-- laws.FnExactClimbPlan -/
def EL17 : Nat → Option Callee := addE 49 c49 (addE 34 c34 (addE 33 c33 (addE 24 c24 (addE 30 c30 (addE 61 c61 (addE 60 c60 (addE 28 c28 (addE 21 c21 (addE 26 c26 (addE 19 c19 env0))))))))))
theorem vL17 : EnvOk Try.prog EL17 := ((((((((((EnvOk.nil.add Try.func19 rfl (by kernel_rfl) k19).add Try.func26 rfl (by kernel_rfl) k26).add Try.func21 rfl (by kernel_rfl) k21).add Try.func28 rfl (by kernel_rfl) k28).add Try.func60 rfl (by kernel_rfl) k60).add Try.func61 rfl (by kernel_rfl) k61).add Try.func30 rfl (by kernel_rfl) k30).add Try.func24 rfl (by kernel_rfl) k24).add Try.func33 rfl (by kernel_rfl) k33).add Try.func34 rfl (by kernel_rfl) k34).add Try.func49 rfl (by kernel_rfl) k49
def laws_FnExactClimbPlanK {R : Type} (fin : Bool → Option R) (x0 : DJob) (x1 : DPlan) (x2 : Int) : Option R :=
  (laws_szJob x0 1048576).bind fun y1 =>
  cond (decide (y1 < 0))
  (fin true)
  ((laws_szPlan x1 y1).bind fun y2 =>
    cond (decide (y2 < 0))
    (fin true)
    ((laws_toJob x0).bind fun y3 =>
      (laws_toPlan x1).bind fun y4 =>
      (spec_ClimbPlan (y3.1, (y3.2.1, (y3.2.2.1, ((y3.2.2.2.1, (y3.2.2.2.2.1, ())), (y3.2.2.2.2.2.1, (y3.2.2.2.2.2.2.1, (y3.2.2.2.2.2.2.2, ()))))))) (y4.1, (y4.2, ())) x2).bind fun y5 =>
      (laws_toJob x0).bind fun y6 =>
      (laws_toPlan x1).bind fun y7 =>
      (impl_ClimbPlan (y6.1, (y6.2.1, (y6.2.2.1, ((y6.2.2.2.1, (y6.2.2.2.2.1, ())), (y6.2.2.2.2.2.1, (y6.2.2.2.2.2.2.1, (y6.2.2.2.2.2.2.2, ()))))))) (y7.1, (y7.2, ())) x2).bind fun y8 =>
      (laws_eqPlan (y8.1.1, (y8.1.2, ())) (y5.1.1, (y5.1.2, ()))).bind fun y9 =>
      cond (!y9)
      (fin false)
      (cond (y8.2.1 != y5.2.1)
        (fin false)
        (cond (!(y8.2.2 == y5.2.2))
          (fin false)
          ((laws_toJob x0).bind fun y10 =>
            (laws_eqJob (y6.1, (y6.2.1, (y6.2.2.1, ((y6.2.2.2.1, (y6.2.2.2.2.1, ())), (y6.2.2.2.2.2.1, (y6.2.2.2.2.2.2.1, (y6.2.2.2.2.2.2.2, ()))))))) (y10.1, (y10.2.1, (y10.2.2.1, ((y10.2.2.2.1, (y10.2.2.2.2.1, ())), (y10.2.2.2.2.2.1, (y10.2.2.2.2.2.2.1, (y10.2.2.2.2.2.2.2, ())))))))).bind fun y11 =>
            cond (!y11)
            (fin false)
            ((laws_toPlan x1).bind fun y12 =>
              (laws_eqPlan (y7.1, (y7.2, ())) (y12.1, (y12.2, ()))).bind fun y13 =>
              cond (!y13)
              (fin false)
              ((laws_markJob y6 1).bind fun y14 =>
                (laws_markPlan y7 y14.1).bind fun y15 =>
                cond (decide (y15.1 < 0))
                (fin false)
                ((laws_eqPlan (y8.1.1, (y8.1.2, ())) (y5.1.1, (y5.1.2, ()))).bind fun y16 =>
                  cond (!y16)
                  (fin false)
                  (cond (y8.2.1 != y5.2.1)
                    (fin false)
                    (cond (!(y8.2.2 == y5.2.2))
                      (fin false)
                      ((laws_markPlan y8.1 1).bind fun y17 =>
                        (laws_heldPlan (y8.1.1, (y17.2.2, ())) 1).bind fun y18 =>
                        cond (decide (y18 < 0))
                        (fin false)
                        (cond (y18 != y17.1)
                          (fin false)
                          ((laws_toJob x0).bind fun y19 =>
                            (laws_toPlan x1).bind fun y20 =>
                            (impl_ClimbPlan (y19.1, (y19.2.1, (y19.2.2.1, ((y19.2.2.2.1, (y19.2.2.2.2.1, ())), (y19.2.2.2.2.2.1, (y19.2.2.2.2.2.2.1, (y19.2.2.2.2.2.2.2, ()))))))) (y20.1, (y20.2, ())) x2).bind fun y21 =>
                            (laws_eqPlan (y21.1.1, (y21.1.2, ())) (y5.1.1, (y5.1.2, ()))).bind fun y22 =>
                            cond (!y22)
                            (fin false)
                            (cond (y21.2.1 != y5.2.1)
                              (fin false)
                              (cond (!(y21.2.2 == y5.2.2))
                                (fin false)
                                ((laws_heldPlan (y8.1.1, (y17.2.2, ())) 1).bind fun y23 =>
                                  cond (decide (y23 < 0))
                                  (fin false)
                                  (cond (y23 != y17.1)
                                    (fin false)
                                    (fin true))))))))))))))))))
def laws_FnExactClimbPlan (x0 : DJob) (x1 : DPlan) (x2 : Int) : Option (Bool) := laws_FnExactClimbPlanK some x0 x1 x2
theorem p17 {R : Type} (fin : Bool → Option R) (x0 : DJob) (x1 : DPlan) (x2 : Int) : Par fin (laws_FnExactClimbPlanK some x0 x1 x2) (laws_FnExactClimbPlanK fin x0 x1 x2) := by
  unfold laws_FnExactClimbPlanK
  repeat' (first | exact .fin | exact .none | refine .cond ?_ ?_ | refine .bind fun _ => ?_ | refine .sum (fun _ => ?_) fun _ => ?_)
def c17 : Callee := mkC [.agg [.ro TJob], .agg [.ro TPlan], .one (.ro (.int .i64))] 1 [.one (.ro .bool)] fun x => laws_FnExactClimbPlan x.1 x.2.1 x.2.2
theorem e17 (x : PK.dens [.agg [.ro TJob], .agg [.ro TPlan], .one (.ro (.int .i64))]) : evalFn Try.prog EL17 or0 Try.f17 (PK.outs [.agg [.ro TJob], .agg [.ro TPlan], .one (.ro (.int .i64))] x) =
    laws_FnExactClimbPlanK (fun y => some (tupOf ((PK.outs [.one (.ro .bool)] y).take 1), (PK.outs [.one (.ro .bool)] y).drop 1)) x.1 x.2.1 x.2.2 := by kernel_rfl
theorem k17 : CalleeOk Try.prog 17 c17 := callee_mk Try.func17 (code := codeOf Try.f17) (by kernel_rfl) vL17 mixed (LoOk.nil (by kernel_rfl)) fun x y h => (e17 x).trans (p17 _ x.1 x.2.1 x.2.2 y h)
end
end Go.OAI
