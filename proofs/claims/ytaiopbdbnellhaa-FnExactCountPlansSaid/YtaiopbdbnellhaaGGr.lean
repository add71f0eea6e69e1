/- Contracts: GGr. -/
import Derived.Test.YtaiopbdbnellhaaGA
namespace Go.OAI
open Go.Proofs
set_option linter.unusedVariables false
noncomputable section


/-- impl.emptyPlan -/
def EL83 : Nat → Option Callee := env0
theorem vL83 : EnvOk Try.prog EL83 := EnvOk.nil
def simpl_emptyPlan_l0 : LS := ⟨[(2, .one (.fix (.ptr 0 0))), (3, .one (.fix (.ptr 1 0))), (14, .one (.dat (.int .i64))), (15, .one (.dat (.int .i64)))], [.box [.dat (.int .i64), .fix .nils], .box [.dat (.int .i64), .fix (.sref 2)], .sl (.int .i64)], []⟩
def simpl_emptyPlan_l0x0 : LS := ⟨[(2, .one (.fix (.ptr 0 0))), (3, .one (.fix (.ptr 1 0)))], [.box [.dat (.int .i64), .fix .nils], .box [.dat (.int .i64), .fix (.sref 2)], .sl (.int .i64)], []⟩
def ximpl_emptyPlan_l0 : List (XS (Int × Int × Int)) := [⟨.exit 0, ⟨[2, 3], [.slot 2, .slot 3, .cell 3 1], [], []⟩, simpl_emptyPlan_l0x0, List Int, fun i y => (((), ((), ())), ((i.2.1, ((), ())), ((i.2.2, ((), ())), (y, ()))))⟩]
def impl_emptyPlan_l0K {R : Type} (a0 : Int) (rc : Int → List Int → Option R) (fin : List Int → Option R) (a1 : Int) (a4 : List Int) : Option R :=
  cond (decide (a1 < a0))
  (cond (decide ((0 : Int) ≤ a1) && decide (a1 < (a4.length : Int)))
    ((some (a4.set (0 + a1.toNat) (-1))).bind fun v1 =>
      rc (IntKind.i64.wrap (a1 + 1)) v1)
    (none))
  (fin a4)
def impl_emptyPlan_l0F (a0 : Int) (r : (Int × (List Int)) → Option (List Int)) (x : Int × (List Int)) : Option (List Int) := impl_emptyPlan_l0K a0 (fun a1 a4 => r (a1, a4)) some x.1 x.2
theorem impl_emptyPlan_l0c (a0 : Int) (x : Int × (List Int)) : Ct fun r => impl_emptyPlan_l0F a0 r x := by
  unfold impl_emptyPlan_l0F impl_emptyPlan_l0K
  repeat' (first | exact Ct.const | exact Ct.call | refine Ct.cond ?_ ?_ | refine Ct.bind ?_ fun _ => ?_ | refine Ct.sum (fun _ => ?_) fun _ => ?_)
def impl_emptyPlan_l0 (a0 : Int) (a1 : Int) (a4 : List Int) : Option (List Int) := lim (impl_emptyPlan_l0F a0) (a1, a4)
theorem impl_emptyPlan_l0_eq (a0 : Int) (a1 : Int) (a4 : List Int) : impl_emptyPlan_l0 a0 a1 a4 = impl_emptyPlan_l0K a0 (impl_emptyPlan_l0 a0) some a1 a4 := lim_eq (impl_emptyPlan_l0c a0) (a1, a4)
theorem impl_emptyPlan_l0p {R : Type} (a0 : Int) {rc : Int → List Int → Option (List Int)} {rc' : Int → List Int → Option R} {fin : List Int → Option R} (hr : ∀ a1 a4, Par fin (rc a1 a4) (rc' a1 a4)) (a1 : Int) (a4 : List Int) : Par fin (impl_emptyPlan_l0K a0 rc some a1 a4) (impl_emptyPlan_l0K a0 rc' fin a1 a4) := by
  unfold impl_emptyPlan_l0K
  repeat' (first | exact .fin | exact .none | exact hr _ _ | refine .cond ?_ ?_ | refine .bind fun _ => ?_ | refine .sum (fun _ => ?_) fun _ => ?_)
def Limpl_emptyPlan_l0 : Loop := mkL ⟨[2, 3, 14, 15], [.slot 2, .slot 3, .cell 3 1], [], []⟩ simpl_emptyPlan_l0 ximpl_emptyPlan_l0 (fun (x : (Unit × Unit × Int × Int × Unit) × ((Int × Unit × Unit) × (Int × Unit × Unit) × (List Int) × Unit)) => (x.1.2.2.1, (x.2.1.1, x.2.2.1.1))) fun (x : (Unit × Unit × Int × Int × Unit) × ((Int × Unit × Unit) × (Int × Unit × Unit) × (List Int) × Unit)) => impl_emptyPlan_l0 x.1.2.2.1 x.1.2.2.2.1 x.2.2.2.1
def impl_emptyPlanK {R : Type} (fin : Int × (List Int) → Option R) (x0 : DJob) : Option R :=
  cond (decide ((0 : Int) ≤ (x0.1.length : Int)) && (decide ((x0.1.length : Int) ≤ (x0.1.length : Int)) && decide ((x0.1.length : Int) ≤ 1099511627776)))
  ((some ((List.replicate ((x0.1.length : Int).toNat) 0 : List Int))).bind fun v1 =>
    (impl_emptyPlan_l0 (v1.length : Int) 0 v1).bind fun y3 =>
    fin (x0.2.2.2.2.1, y3))
  (none)
def impl_emptyPlan (x0 : DJob) : Option (Int × (List Int)) := impl_emptyPlanK some x0
theorem p83 {R : Type} (fin : Int × (List Int) → Option R) (x0 : DJob) : Par fin (impl_emptyPlanK some x0) (impl_emptyPlanK fin x0) := by
  unfold impl_emptyPlanK
  repeat' (first | exact .fin | exact .none | refine .cond ?_ ?_ | refine .bind fun _ => ?_ | refine .sum (fun _ => ?_) fun _ => ?_)
def or83 : Ora := { lo := addL 3 (Limpl_emptyPlan_l0) lo0, fin := [] }
theorem impl_emptyPlan_l0e (a0 : Int) (a2 : Int) (a3 : Int) (k : Nat) (a1 : Int) (a4 : List Int) : loopC Try.prog EL83 or83 ((loopsIn (codeOf Try.f83)).getD 0 .skip) (Limpl_emptyPlan_l0).h (Limpl_emptyPlan_l0).ho Try.f83.ntmps (k + 1) (simpl_emptyPlan_l0.out (((), ((), (a0, (a1, ())))), ((a2, ((), ())), ((a3, ((), ())), (a4, ()))))) =
    impl_emptyPlan_l0K a0 (fun a1 a4 => loopC Try.prog EL83 or83 ((loopsIn (codeOf Try.f83)).getD 0 .skip) (Limpl_emptyPlan_l0).h (Limpl_emptyPlan_l0).ho Try.f83.ntmps k (simpl_emptyPlan_l0.out (((), ((), (a0, (a1, ())))), ((a2, ((), ())), ((a3, ((), ())), (a4, ())))))) (fun y => some (XS.out ximpl_emptyPlan_l0 (a0, (a2, a3)) y)) a1 a4 := by kernel_rfl
theorem impl_emptyPlan_l0o : LoopOk Try.prog EL83 or83 Try.f83.ntmps ((loopsIn (codeOf Try.f83)).getD 0 .skip) (Limpl_emptyPlan_l0) :=
  loop_lim (hs := simpl_emptyPlan_l0) (xs := ximpl_emptyPlan_l0) (ι := fun (x : (Unit × Unit × Int × Int × Unit) × ((Int × Unit × Unit) × (Int × Unit × Unit) × (List Int) × Unit)) => (x.1.2.2.1, (x.2.1.1, x.2.2.1.1))) (φ := fun (x : (Unit × Unit × Int × Int × Unit) × ((Int × Unit × Unit) × (Int × Unit × Unit) × (List Int) × Unit)) => (x.1.2.2.2.1, x.2.2.2.1)) (ψ := fun (i : Int × Int × Int) (v : Int × (List Int)) => (((), ((), (i.1, (v.1, ())))), ((i.2.1, ((), ())), ((i.2.2, ((), ())), (v.2, ()))))) (F := fun (i : Int × Int × Int) => impl_emptyPlan_l0F i.1) (fun _ => rfl) fun i k hk v => Par.of_eq (impl_emptyPlan_l0e i.1 i.2.1 i.2.2 k v.1 v.2) (impl_emptyPlan_l0p i.1 (fun a1 a4 => hk (a1, a4)) v.1 v.2)
def c83 : Callee := mkC [.agg [.ro TJob]] 1 [.agg [.ro (.int .i64), .sl (.int .i64)]] fun x => impl_emptyPlan x
theorem e83 (x : PK.dens [.agg [.ro TJob]]) : evalFn Try.prog EL83 or83 Try.f83 (PK.outs [.agg [.ro TJob]] x) =
    impl_emptyPlanK (fun y => some (tupOf ((PK.outs [.agg [.ro (.int .i64), .sl (.int .i64)]] y).take 1), (PK.outs [.agg [.ro (.int .i64), .sl (.int .i64)]] y).drop 1)) x := by kernel_rfl
theorem o83 : LoOk Try.prog EL83 or83 Try.f83.ntmps (loopsIn (codeOf Try.f83)) :=
  LoOk.mk (m := 1) (by kernel_rfl) fun i hi => match i, hi with
    | 0, _ => ⟨Limpl_emptyPlan_l0, by kernel_rfl, impl_emptyPlan_l0o⟩
    | i + 1, hi => absurd hi (by omega)
theorem k83 : CalleeOk Try.prog 83 c83 := callee_mk Try.func83 (code := codeOf Try.f83) (by kernel_rfl) vL83 mixed o83 fun x y h => (e83 x).trans (p83 _ x y h)
end
end Go.OAI
