/- Contracts: GT. -/
import Derived.Test.YtokaffjipngphaaGA
namespace Go.OAI
open Go.Proofs
set_option linter.unusedVariables false
noncomputable section


/-- impl.tonnesIn -/
def EL99 : Nat → Option Callee := env0
theorem vL99 : EnvOk Try.prog EL99 := EnvOk.nil
def simpl_tonnesIn_l0 : LS := ⟨[(2, .one (.fix (.ptr 0 0))), (3, .one (.fix (.ptr 1 0))), (5, .one (.fix (.sref 2))), (13, .one (.dat (.int .i64))), (14, .one (.dat (.int .i64)))], [.box [.dat (.slice (.slice (.int .i64))), .dat (.slice (.int .i64)), .dat (.slice (.int .i64)), .dat (.int .i64), .dat (.int .i64), .dat (.int .i64), .dat (.int .i64), .dat (.int .i64)], .box [.dat (.int .i64), .dat (.slice (.int .i64))], .mat (.int .i64)], []⟩
def simpl_tonnesIn_l0x0 : LS := ⟨[(2, .one (.fix (.ptr 0 0))), (3, .one (.fix (.ptr 1 0))), (5, .one (.fix (.sref 2)))], [.box [.dat (.slice (.slice (.int .i64))), .dat (.slice (.int .i64)), .dat (.slice (.int .i64)), .dat (.int .i64), .dat (.int .i64), .dat (.int .i64), .dat (.int .i64), .dat (.int .i64)], .box [.dat (.int .i64), .dat (.slice (.int .i64))], .mat (.int .i64)], []⟩
def ximpl_tonnesIn_l0 : List (XS (Int × (List (List Int)) × (List Int) × (List Int) × Int × Int × Int × Int × Int × Int × (List Int))) := [⟨.exit 0, ⟨[2, 3, 5], [.slot 2, .slot 3, .slot 5], [], []⟩, simpl_tonnesIn_l0x0, List (List Int), fun i y => (((), ((), ((), ()))), ((i.2.1, (i.2.2.1, (i.2.2.2.1, (i.2.2.2.2.1, (i.2.2.2.2.2.1, (i.2.2.2.2.2.2.1, (i.2.2.2.2.2.2.2.1, (i.2.2.2.2.2.2.2.2.1, ())))))))), ((i.2.2.2.2.2.2.2.2.2.1, (i.2.2.2.2.2.2.2.2.2.2, ())), (y, ()))))⟩]
def impl_tonnesIn_l0K {R : Type} (a0 : Int) (rc : Int → List (List Int) → Option R) (fin : List (List Int) → Option R) (a1 : Int) (a12 : List (List Int)) : Option R :=
  cond (decide (a1 < a0))
  ((some ((List.replicate 2 0 : List Int))).bind fun v1 =>
    cond (decide ((0 : Int) ≤ a1) && decide (a1 < (a12.length : Int)))
    ((some (a12.set (0 + a1.toNat) v1)).bind fun v2 =>
      rc (IntKind.i64.wrap (a1 + 1)) v2)
    (none))
  (fin a12)
def impl_tonnesIn_l0F (a0 : Int) (r : (Int × (List (List Int))) → Option (List (List Int))) (x : Int × (List (List Int))) : Option (List (List Int)) := impl_tonnesIn_l0K a0 (fun a1 a12 => r (a1, a12)) some x.1 x.2
theorem impl_tonnesIn_l0c (a0 : Int) (x : Int × (List (List Int))) : Ct fun r => impl_tonnesIn_l0F a0 r x := by
  unfold impl_tonnesIn_l0F impl_tonnesIn_l0K
  repeat' (first | exact Ct.const | exact Ct.call | refine Ct.cond ?_ ?_ | refine Ct.bind ?_ fun _ => ?_ | refine Ct.sum (fun _ => ?_) fun _ => ?_)
def impl_tonnesIn_l0 (a0 : Int) (a1 : Int) (a12 : List (List Int)) : Option (List (List Int)) := lim (impl_tonnesIn_l0F a0) (a1, a12)
theorem impl_tonnesIn_l0_eq (a0 : Int) (a1 : Int) (a12 : List (List Int)) : impl_tonnesIn_l0 a0 a1 a12 = impl_tonnesIn_l0K a0 (impl_tonnesIn_l0 a0) some a1 a12 := lim_eq (impl_tonnesIn_l0c a0) (a1, a12)
theorem impl_tonnesIn_l0p {R : Type} (a0 : Int) {rc : Int → List (List Int) → Option (List (List Int))} {rc' : Int → List (List Int) → Option R} {fin : List (List Int) → Option R} (hr : ∀ a1 a12, Par fin (rc a1 a12) (rc' a1 a12)) (a1 : Int) (a12 : List (List Int)) : Par fin (impl_tonnesIn_l0K a0 rc some a1 a12) (impl_tonnesIn_l0K a0 rc' fin a1 a12) := by
  unfold impl_tonnesIn_l0K
  repeat' (first | exact .fin | exact .none | exact hr _ _ | refine .cond ?_ ?_ | refine .bind fun _ => ?_ | refine .sum (fun _ => ?_) fun _ => ?_)
def Limpl_tonnesIn_l0 : Loop := mkL ⟨[2, 3, 5, 13, 14], [.slot 2, .slot 3, .slot 5], [], []⟩ simpl_tonnesIn_l0 ximpl_tonnesIn_l0 (fun (x : (Unit × Unit × Unit × Int × Int × Unit) × (((List (List Int)) × (List Int) × (List Int) × Int × Int × Int × Int × Int × Unit) × (Int × (List Int) × Unit) × (List (List Int)) × Unit)) => (x.1.2.2.2.1, (x.2.1.1, (x.2.1.2.1, (x.2.1.2.2.1, (x.2.1.2.2.2.1, (x.2.1.2.2.2.2.1, (x.2.1.2.2.2.2.2.1, (x.2.1.2.2.2.2.2.2.1, (x.2.1.2.2.2.2.2.2.2.1, (x.2.2.1.1, x.2.2.1.2.1))))))))))) fun (x : (Unit × Unit × Unit × Int × Int × Unit) × (((List (List Int)) × (List Int) × (List Int) × Int × Int × Int × Int × Int × Unit) × (Int × (List Int) × Unit) × (List (List Int)) × Unit)) => impl_tonnesIn_l0 x.1.2.2.2.1 x.1.2.2.2.2.1 x.2.2.2.1
def simpl_tonnesIn_l1 : LS := ⟨[(2, .one (.fix (.ptr 0 0))), (5, .one (.fix (.sref 1))), (23, .one (.dat (.slice (.int .i64)))), (24, .one (.dat (.int .i64))), (25, .one (.dat (.int .i64)))], [.box [.dat (.slice (.slice (.int .i64))), .dat (.slice (.int .i64)), .dat (.slice (.int .i64)), .dat (.int .i64), .dat (.int .i64), .dat (.int .i64), .dat (.int .i64), .dat (.int .i64)], .mat (.int .i64)], []⟩
def simpl_tonnesIn_l1x0 : LS := ⟨[(5, .one (.fix (.sref 0)))], [.mat (.int .i64)], []⟩
def ximpl_tonnesIn_l1 : List (XS ((List Int) × Int × (List (List Int)) × (List Int) × (List Int) × Int × Int × Int × Int × Int)) := [⟨.exit 2, ⟨[5], [.slot 5], [], []⟩, simpl_tonnesIn_l1x0, List (List Int), fun i y => (((), ()), (y, ()))⟩]
def impl_tonnesIn_l1K {R : Type} (a0 : List Int) (a1 : Int) (a4 : List Int) (a5 : List Int) (rc : Int → List (List Int) → Option R) (fin : List (List Int) → Option R) (a2 : Int) (a11 : List (List Int)) : Option R :=
  cond (decide (a2 < a1))
  ((lat a0 a2).bind fun e1 =>
    cond (decide (e1 < 0))
    (rc (IntKind.i64.wrap (a2 + 1)) a11)
    (cond (decide ((0 : Int) ≤ e1) && decide (e1 < (a11.length : Int)))
      (cond (decide ((0 : Int) < ((a11.getD (0 + e1.toNat) []).length : Int)))
        ((lat a4 a2).bind fun e2 =>
          cond (decide ((0 : Int) < ((a11.getD (0 + e1.toNat) []).length : Int)))
          ((some (a11.set (0 + e1.toNat) ((a11.getD (0 + e1.toNat) []).set (0 + 0) (IntKind.i64.wrap (((a11.getD (0 + e1.toNat) []).getD (0 + 0) 0) + e2))))).bind fun v3 =>
            (lat a5 a2).bind fun e4 =>
            cond (decide (e4 > 0))
            (cond (decide ((0 : Int) ≤ e1) && decide (e1 < (v3.length : Int)))
              (cond (decide ((1 : Int) < ((v3.getD (0 + e1.toNat) []).length : Int)))
                ((lat a4 a2).bind fun e5 =>
                  cond (decide ((1 : Int) < ((v3.getD (0 + e1.toNat) []).length : Int)))
                  ((some (v3.set (0 + e1.toNat) ((v3.getD (0 + e1.toNat) []).set (0 + 1) (IntKind.i64.wrap (((v3.getD (0 + e1.toNat) []).getD (0 + 1) 0) + e5))))).bind fun v6 =>
                    rc (IntKind.i64.wrap (a2 + 1)) v6)
                  (none))
                (none))
              (none))
            (rc (IntKind.i64.wrap (a2 + 1)) v3))
          (none))
        (none))
      (none)))
  (fin a11)
def impl_tonnesIn_l1F (a0 : List Int) (a1 : Int) (a4 : List Int) (a5 : List Int) (r : (Int × (List (List Int))) → Option (List (List Int))) (x : Int × (List (List Int))) : Option (List (List Int)) := impl_tonnesIn_l1K a0 a1 a4 a5 (fun a2 a11 => r (a2, a11)) some x.1 x.2
theorem impl_tonnesIn_l1c (a0 : List Int) (a1 : Int) (a4 : List Int) (a5 : List Int) (x : Int × (List (List Int))) : Ct fun r => impl_tonnesIn_l1F a0 a1 a4 a5 r x := by
  unfold impl_tonnesIn_l1F impl_tonnesIn_l1K
  repeat' (first | exact Ct.const | exact Ct.call | refine Ct.cond ?_ ?_ | refine Ct.bind ?_ fun _ => ?_ | refine Ct.sum (fun _ => ?_) fun _ => ?_)
def impl_tonnesIn_l1 (a0 : List Int) (a1 : Int) (a4 : List Int) (a5 : List Int) (a2 : Int) (a11 : List (List Int)) : Option (List (List Int)) := lim (impl_tonnesIn_l1F a0 a1 a4 a5) (a2, a11)
theorem impl_tonnesIn_l1_eq (a0 : List Int) (a1 : Int) (a4 : List Int) (a5 : List Int) (a2 : Int) (a11 : List (List Int)) : impl_tonnesIn_l1 a0 a1 a4 a5 a2 a11 = impl_tonnesIn_l1K a0 a1 a4 a5 (impl_tonnesIn_l1 a0 a1 a4 a5) some a2 a11 := lim_eq (impl_tonnesIn_l1c a0 a1 a4 a5) (a2, a11)
theorem impl_tonnesIn_l1p {R : Type} (a0 : List Int) (a1 : Int) (a4 : List Int) (a5 : List Int) {rc : Int → List (List Int) → Option (List (List Int))} {rc' : Int → List (List Int) → Option R} {fin : List (List Int) → Option R} (hr : ∀ a2 a11, Par fin (rc a2 a11) (rc' a2 a11)) (a2 : Int) (a11 : List (List Int)) : Par fin (impl_tonnesIn_l1K a0 a1 a4 a5 rc some a2 a11) (impl_tonnesIn_l1K a0 a1 a4 a5 rc' fin a2 a11) := by
  unfold impl_tonnesIn_l1K
  repeat' (first | exact .fin | exact .none | exact hr _ _ | refine .cond ?_ ?_ | refine .bind fun _ => ?_ | refine .sum (fun _ => ?_) fun _ => ?_)
def Limpl_tonnesIn_l1 : Loop := mkL ⟨[2, 5, 23, 24, 25], [.slot 2, .slot 5], [], []⟩ simpl_tonnesIn_l1 ximpl_tonnesIn_l1 (fun (x : (Unit × Unit × (List Int) × Int × Int × Unit) × (((List (List Int)) × (List Int) × (List Int) × Int × Int × Int × Int × Int × Unit) × (List (List Int)) × Unit)) => (x.1.2.2.1, (x.1.2.2.2.1, (x.2.1.1, (x.2.1.2.1, (x.2.1.2.2.1, (x.2.1.2.2.2.1, (x.2.1.2.2.2.2.1, (x.2.1.2.2.2.2.2.1, (x.2.1.2.2.2.2.2.2.1, x.2.1.2.2.2.2.2.2.2.1)))))))))) fun (x : (Unit × Unit × (List Int) × Int × Int × Unit) × (((List (List Int)) × (List Int) × (List Int) × Int × Int × Int × Int × Int × Unit) × (List (List Int)) × Unit)) => impl_tonnesIn_l1 x.1.2.2.1 x.1.2.2.2.1 x.2.1.2.1 x.2.1.2.2.1 x.1.2.2.2.2.1 x.2.2.1
def impl_tonnesInK {R : Type} (fin : List (List Int) → Option R) (x0 : DJob) (x1 : DPlan) : Option R :=
  cond (decide ((0 : Int) ≤ x0.2.2.2.2.1) && (decide (x0.2.2.2.2.1 ≤ x0.2.2.2.2.1) && decide (x0.2.2.2.2.1 ≤ 1099511627776)))
  ((some ((List.replicate x0.2.2.2.2.1.toNat [] : List (List Int)))).bind fun v1 =>
    (impl_tonnesIn_l0 (v1.length : Int) 0 v1).bind fun y4 =>
    (impl_tonnesIn_l1 x1.2.1 (x1.2.1.length : Int) x0.2.1 x0.2.2.1 0 y4).bind fun y11 =>
    fin y11)
  (none)
def impl_tonnesIn (x0 : DJob) (x1 : DPlan) : Option (List (List Int)) := impl_tonnesInK some x0 x1
theorem p99 {R : Type} (fin : List (List Int) → Option R) (x0 : DJob) (x1 : DPlan) : Par fin (impl_tonnesInK some x0 x1) (impl_tonnesInK fin x0 x1) := by
  unfold impl_tonnesInK
  repeat' (first | exact .fin | exact .none | refine .cond ?_ ?_ | refine .bind fun _ => ?_ | refine .sum (fun _ => ?_) fun _ => ?_)
def or99 : Ora := { lo := addL 8 (Limpl_tonnesIn_l1) (addL 3 (Limpl_tonnesIn_l0) lo0), fin := [] }
theorem impl_tonnesIn_l0e (a0 : Int) (a2 : List (List Int)) (a3 : List Int) (a4 : List Int) (a5 : Int) (a6 : Int) (a7 : Int) (a8 : Int) (a9 : Int) (a10 : Int) (a11 : List Int) (k : Nat) (a1 : Int) (a12 : List (List Int)) : loopC Try.prog EL99 or99 ((loopsIn (codeOf Try.f99)).getD 0 .skip) (Limpl_tonnesIn_l0).h (Limpl_tonnesIn_l0).ho Try.f99.ntmps (k + 1) (simpl_tonnesIn_l0.out (((), ((), ((), (a0, (a1, ()))))), ((a2, (a3, (a4, (a5, (a6, (a7, (a8, (a9, ())))))))), ((a10, (a11, ())), (a12, ()))))) =
    impl_tonnesIn_l0K a0 (fun a1 a12 => loopC Try.prog EL99 or99 ((loopsIn (codeOf Try.f99)).getD 0 .skip) (Limpl_tonnesIn_l0).h (Limpl_tonnesIn_l0).ho Try.f99.ntmps k (simpl_tonnesIn_l0.out (((), ((), ((), (a0, (a1, ()))))), ((a2, (a3, (a4, (a5, (a6, (a7, (a8, (a9, ())))))))), ((a10, (a11, ())), (a12, ())))))) (fun y => some (XS.out ximpl_tonnesIn_l0 (a0, (a2, (a3, (a4, (a5, (a6, (a7, (a8, (a9, (a10, a11)))))))))) y)) a1 a12 := by kernel_rfl
theorem impl_tonnesIn_l0o : LoopOk Try.prog EL99 or99 Try.f99.ntmps ((loopsIn (codeOf Try.f99)).getD 0 .skip) (Limpl_tonnesIn_l0) :=
  loop_lim (hs := simpl_tonnesIn_l0) (xs := ximpl_tonnesIn_l0) (ι := fun (x : (Unit × Unit × Unit × Int × Int × Unit) × (((List (List Int)) × (List Int) × (List Int) × Int × Int × Int × Int × Int × Unit) × (Int × (List Int) × Unit) × (List (List Int)) × Unit)) => (x.1.2.2.2.1, (x.2.1.1, (x.2.1.2.1, (x.2.1.2.2.1, (x.2.1.2.2.2.1, (x.2.1.2.2.2.2.1, (x.2.1.2.2.2.2.2.1, (x.2.1.2.2.2.2.2.2.1, (x.2.1.2.2.2.2.2.2.2.1, (x.2.2.1.1, x.2.2.1.2.1))))))))))) (φ := fun (x : (Unit × Unit × Unit × Int × Int × Unit) × (((List (List Int)) × (List Int) × (List Int) × Int × Int × Int × Int × Int × Unit) × (Int × (List Int) × Unit) × (List (List Int)) × Unit)) => (x.1.2.2.2.2.1, x.2.2.2.1)) (ψ := fun (i : Int × (List (List Int)) × (List Int) × (List Int) × Int × Int × Int × Int × Int × Int × (List Int)) (v : Int × (List (List Int))) => (((), ((), ((), (i.1, (v.1, ()))))), ((i.2.1, (i.2.2.1, (i.2.2.2.1, (i.2.2.2.2.1, (i.2.2.2.2.2.1, (i.2.2.2.2.2.2.1, (i.2.2.2.2.2.2.2.1, (i.2.2.2.2.2.2.2.2.1, ())))))))), ((i.2.2.2.2.2.2.2.2.2.1, (i.2.2.2.2.2.2.2.2.2.2, ())), (v.2, ()))))) (F := fun (i : Int × (List (List Int)) × (List Int) × (List Int) × Int × Int × Int × Int × Int × Int × (List Int)) => impl_tonnesIn_l0F i.1) (fun _ => rfl) fun i k hk v => Par.of_eq (impl_tonnesIn_l0e i.1 i.2.1 i.2.2.1 i.2.2.2.1 i.2.2.2.2.1 i.2.2.2.2.2.1 i.2.2.2.2.2.2.1 i.2.2.2.2.2.2.2.1 i.2.2.2.2.2.2.2.2.1 i.2.2.2.2.2.2.2.2.2.1 i.2.2.2.2.2.2.2.2.2.2 k v.1 v.2) (impl_tonnesIn_l0p i.1 (fun a1 a12 => hk (a1, a12)) v.1 v.2)
theorem impl_tonnesIn_l1e (a0 : List Int) (a1 : Int) (a3 : List (List Int)) (a4 : List Int) (a5 : List Int) (a6 : Int) (a7 : Int) (a8 : Int) (a9 : Int) (a10 : Int) (k : Nat) (a2 : Int) (a11 : List (List Int)) : loopC Try.prog EL99 or99 ((loopsIn (codeOf Try.f99)).getD 1 .skip) (Limpl_tonnesIn_l1).h (Limpl_tonnesIn_l1).ho Try.f99.ntmps (k + 1) (simpl_tonnesIn_l1.out (((), ((), (a0, (a1, (a2, ()))))), ((a3, (a4, (a5, (a6, (a7, (a8, (a9, (a10, ())))))))), (a11, ())))) =
    impl_tonnesIn_l1K a0 a1 a4 a5 (fun a2 a11 => loopC Try.prog EL99 or99 ((loopsIn (codeOf Try.f99)).getD 1 .skip) (Limpl_tonnesIn_l1).h (Limpl_tonnesIn_l1).ho Try.f99.ntmps k (simpl_tonnesIn_l1.out (((), ((), (a0, (a1, (a2, ()))))), ((a3, (a4, (a5, (a6, (a7, (a8, (a9, (a10, ())))))))), (a11, ()))))) (fun y => some (XS.out ximpl_tonnesIn_l1 (a0, (a1, (a3, (a4, (a5, (a6, (a7, (a8, (a9, a10))))))))) y)) a2 a11 := by kernel_rfl
theorem impl_tonnesIn_l1o : LoopOk Try.prog EL99 or99 Try.f99.ntmps ((loopsIn (codeOf Try.f99)).getD 1 .skip) (Limpl_tonnesIn_l1) :=
  loop_lim (hs := simpl_tonnesIn_l1) (xs := ximpl_tonnesIn_l1) (ι := fun (x : (Unit × Unit × (List Int) × Int × Int × Unit) × (((List (List Int)) × (List Int) × (List Int) × Int × Int × Int × Int × Int × Unit) × (List (List Int)) × Unit)) => (x.1.2.2.1, (x.1.2.2.2.1, (x.2.1.1, (x.2.1.2.1, (x.2.1.2.2.1, (x.2.1.2.2.2.1, (x.2.1.2.2.2.2.1, (x.2.1.2.2.2.2.2.1, (x.2.1.2.2.2.2.2.2.1, x.2.1.2.2.2.2.2.2.2.1)))))))))) (φ := fun (x : (Unit × Unit × (List Int) × Int × Int × Unit) × (((List (List Int)) × (List Int) × (List Int) × Int × Int × Int × Int × Int × Unit) × (List (List Int)) × Unit)) => (x.1.2.2.2.2.1, x.2.2.1)) (ψ := fun (i : (List Int) × Int × (List (List Int)) × (List Int) × (List Int) × Int × Int × Int × Int × Int) (v : Int × (List (List Int))) => (((), ((), (i.1, (i.2.1, (v.1, ()))))), ((i.2.2.1, (i.2.2.2.1, (i.2.2.2.2.1, (i.2.2.2.2.2.1, (i.2.2.2.2.2.2.1, (i.2.2.2.2.2.2.2.1, (i.2.2.2.2.2.2.2.2.1, (i.2.2.2.2.2.2.2.2.2, ())))))))), (v.2, ())))) (F := fun (i : (List Int) × Int × (List (List Int)) × (List Int) × (List Int) × Int × Int × Int × Int × Int) => impl_tonnesIn_l1F i.1 i.2.1 i.2.2.2.1 i.2.2.2.2.1) (fun _ => rfl) fun i k hk v => Par.of_eq (impl_tonnesIn_l1e i.1 i.2.1 i.2.2.1 i.2.2.2.1 i.2.2.2.2.1 i.2.2.2.2.2.1 i.2.2.2.2.2.2.1 i.2.2.2.2.2.2.2.1 i.2.2.2.2.2.2.2.2.1 i.2.2.2.2.2.2.2.2.2 k v.1 v.2) (impl_tonnesIn_l1p i.1 i.2.1 i.2.2.2.1 i.2.2.2.2.1 (fun a2 a11 => hk (a2, a11)) v.1 v.2)
def c99 : Callee := mkC [.agg [.ro TJob], .agg [.ro TPlan]] 1 [.one (.mat (.int .i64))] fun x => impl_tonnesIn x.1 x.2
theorem e99 (x : PK.dens [.agg [.ro TJob], .agg [.ro TPlan]]) : evalFn Try.prog EL99 or99 Try.f99 (PK.outs [.agg [.ro TJob], .agg [.ro TPlan]] x) =
    impl_tonnesInK (fun y => some (tupOf ((PK.outs [.one (.mat (.int .i64))] y).take 1), (PK.outs [.one (.mat (.int .i64))] y).drop 1)) x.1 x.2 := by kernel_rfl
theorem o99 : LoOk Try.prog EL99 or99 Try.f99.ntmps (loopsIn (codeOf Try.f99)) :=
  LoOk.mk (m := 2) (by kernel_rfl) fun i hi => match i, hi with
    | 0, _ => ⟨Limpl_tonnesIn_l0, by kernel_rfl, impl_tonnesIn_l0o⟩
    | 1, _ => ⟨Limpl_tonnesIn_l1, by kernel_rfl, impl_tonnesIn_l1o⟩
    | i + 2, hi => absurd hi (by omega)
theorem k99 : CalleeOk Try.prog 99 c99 := callee_mk Try.func99 (code := codeOf Try.f99) (by kernel_rfl) vL99 mixed o99 fun x y h => (e99 x).trans (p99 _ x.1 x.2 y h)

/-- spec.plTonnes -/
def EL100 : Nat → Option Callee := env0
theorem vL100 : EnvOk Try.prog EL100 := EnvOk.nil
def sspec_plTonnes_l1 : LS := ⟨[(2, .one (.fix (.ptr 0 0))), (3, .one (.fix (.ptr 1 0))), (5, .one (.fix (.sref 2))), (6, .one (.dat (.int .i64))), (7, .one (.dat (.int .i64))), (8, .one (.dat (.int .i64))), (18, .one (.dat (.slice (.int .i64)))), (19, .one (.dat (.int .i64))), (20, .one (.dat (.int .i64)))], [.box [.dat (.slice (.slice (.int .i64))), .dat (.slice (.int .i64)), .dat (.slice (.int .i64)), .dat (.int .i64), .dat (.int .i64), .dat (.int .i64), .dat (.int .i64), .dat (.int .i64)], .box [.dat (.int .i64), .dat (.slice (.int .i64))], .mat (.int .i64)], []⟩
def sspec_plTonnes_l1x0 : LS := ⟨[(2, .one (.fix (.ptr 0 0))), (3, .one (.fix (.ptr 1 0))), (5, .one (.fix (.sref 2))), (6, .one (.dat (.int .i64))), (7, .one (.dat (.int .i64))), (8, .one (.dat (.int .i64)))], [.box [.dat (.slice (.slice (.int .i64))), .dat (.slice (.int .i64)), .dat (.slice (.int .i64)), .dat (.int .i64), .dat (.int .i64), .dat (.int .i64), .dat (.int .i64), .dat (.int .i64)], .box [.dat (.int .i64), .dat (.slice (.int .i64))], .mat (.int .i64)], []⟩
def xspec_plTonnes_l1 : List (XS (Int × (List Int) × Int × (List (List Int)) × (List Int) × (List Int) × Int × Int × Int × Int × Int × Int × (List Int) × (List (List Int)))) := [⟨.exit 2, ⟨[2, 3, 5, 6, 7, 8], [.slot 2, .slot 3, .slot 5], [], []⟩, sspec_plTonnes_l1x0, Int × Int, fun i y => (((), ((), ((), (i.1, (y.1, (y.2, ())))))), ((i.2.2.2.1, (i.2.2.2.2.1, (i.2.2.2.2.2.1, (i.2.2.2.2.2.2.1, (i.2.2.2.2.2.2.2.1, (i.2.2.2.2.2.2.2.2.1, (i.2.2.2.2.2.2.2.2.2.1, (i.2.2.2.2.2.2.2.2.2.2.1, ())))))))), ((i.2.2.2.2.2.2.2.2.2.2.2.1, (i.2.2.2.2.2.2.2.2.2.2.2.2.1, ())), (i.2.2.2.2.2.2.2.2.2.2.2.2.2, ()))))⟩]
def spec_plTonnes_l1K {R : Type} (a0 : Int) (a3 : List Int) (a4 : Int) (a7 : List Int) (a8 : List Int) (rc : Int → Int → Int → Option R) (fin : Int × Int → Option R) (a1 : Int) (a2 : Int) (a5 : Int) : Option R :=
  cond (decide (a5 < a4))
  ((lat a3 a5).bind fun e1 =>
    cond (e1 == a0)
    ((lat a7 a5).bind fun e2 =>
      (lat a8 a5).bind fun e3 =>
      cond (decide (e3 > 0))
      ((lat a7 a5).bind fun e4 =>
        rc (IntKind.i64.wrap (a1 + e2)) (IntKind.i64.wrap (a2 + e4)) (IntKind.i64.wrap (a5 + 1)))
      (rc (IntKind.i64.wrap (a1 + e2)) a2 (IntKind.i64.wrap (a5 + 1))))
    (rc a1 a2 (IntKind.i64.wrap (a5 + 1))))
  (fin (a1, a2))
def spec_plTonnes_l1F (a0 : Int) (a3 : List Int) (a4 : Int) (a7 : List Int) (a8 : List Int) (r : (Int × Int × Int) → Option (Int × Int)) (x : Int × Int × Int) : Option (Int × Int) := spec_plTonnes_l1K a0 a3 a4 a7 a8 (fun a1 a2 a5 => r (a1, (a2, a5))) some x.1 x.2.1 x.2.2
theorem spec_plTonnes_l1c (a0 : Int) (a3 : List Int) (a4 : Int) (a7 : List Int) (a8 : List Int) (x : Int × Int × Int) : Ct fun r => spec_plTonnes_l1F a0 a3 a4 a7 a8 r x := by
  unfold spec_plTonnes_l1F spec_plTonnes_l1K
  repeat' (first | exact Ct.const | exact Ct.call | refine Ct.cond ?_ ?_ | refine Ct.bind ?_ fun _ => ?_ | refine Ct.sum (fun _ => ?_) fun _ => ?_)
def spec_plTonnes_l1 (a0 : Int) (a3 : List Int) (a4 : Int) (a7 : List Int) (a8 : List Int) (a1 : Int) (a2 : Int) (a5 : Int) : Option (Int × Int) := lim (spec_plTonnes_l1F a0 a3 a4 a7 a8) (a1, (a2, a5))
theorem spec_plTonnes_l1_eq (a0 : Int) (a3 : List Int) (a4 : Int) (a7 : List Int) (a8 : List Int) (a1 : Int) (a2 : Int) (a5 : Int) : spec_plTonnes_l1 a0 a3 a4 a7 a8 a1 a2 a5 = spec_plTonnes_l1K a0 a3 a4 a7 a8 (spec_plTonnes_l1 a0 a3 a4 a7 a8) some a1 a2 a5 := lim_eq (spec_plTonnes_l1c a0 a3 a4 a7 a8) (a1, (a2, a5))
theorem spec_plTonnes_l1p {R : Type} (a0 : Int) (a3 : List Int) (a4 : Int) (a7 : List Int) (a8 : List Int) {rc : Int → Int → Int → Option (Int × Int)} {rc' : Int → Int → Int → Option R} {fin : Int × Int → Option R} (hr : ∀ a1 a2 a5, Par fin (rc a1 a2 a5) (rc' a1 a2 a5)) (a1 : Int) (a2 : Int) (a5 : Int) : Par fin (spec_plTonnes_l1K a0 a3 a4 a7 a8 rc some a1 a2 a5) (spec_plTonnes_l1K a0 a3 a4 a7 a8 rc' fin a1 a2 a5) := by
  unfold spec_plTonnes_l1K
  repeat' (first | exact .fin | exact .none | exact hr _ _ _ | refine .cond ?_ ?_ | refine .bind fun _ => ?_ | refine .sum (fun _ => ?_) fun _ => ?_)
def Lspec_plTonnes_l1 : Loop := mkL ⟨[2, 3, 5, 6, 7, 8, 18, 19, 20], [.slot 2, .slot 3, .slot 5], [], []⟩ sspec_plTonnes_l1 xspec_plTonnes_l1 (fun (x : (Unit × Unit × Unit × Int × Int × Int × (List Int) × Int × Int × Unit) × (((List (List Int)) × (List Int) × (List Int) × Int × Int × Int × Int × Int × Unit) × (Int × (List Int) × Unit) × (List (List Int)) × Unit)) => (x.1.2.2.2.1, (x.1.2.2.2.2.2.2.1, (x.1.2.2.2.2.2.2.2.1, (x.2.1.1, (x.2.1.2.1, (x.2.1.2.2.1, (x.2.1.2.2.2.1, (x.2.1.2.2.2.2.1, (x.2.1.2.2.2.2.2.1, (x.2.1.2.2.2.2.2.2.1, (x.2.1.2.2.2.2.2.2.2.1, (x.2.2.1.1, (x.2.2.1.2.1, x.2.2.2.1)))))))))))))) fun (x : (Unit × Unit × Unit × Int × Int × Int × (List Int) × Int × Int × Unit) × (((List (List Int)) × (List Int) × (List Int) × Int × Int × Int × Int × Int × Unit) × (Int × (List Int) × Unit) × (List (List Int)) × Unit)) => spec_plTonnes_l1 x.1.2.2.2.1 x.1.2.2.2.2.2.2.1 x.1.2.2.2.2.2.2.2.1 x.2.1.2.1 x.2.1.2.2.1 x.1.2.2.2.2.1 x.1.2.2.2.2.2.1 x.1.2.2.2.2.2.2.2.2.1
def sspec_plTonnes_l0 : LS := ⟨[(2, .one (.fix (.ptr 0 0))), (3, .one (.fix (.ptr 1 0))), (5, .one (.fix (.sref 2))), (6, .one (.dat (.int .i64)))], [.box [.dat (.slice (.slice (.int .i64))), .dat (.slice (.int .i64)), .dat (.slice (.int .i64)), .dat (.int .i64), .dat (.int .i64), .dat (.int .i64), .dat (.int .i64), .dat (.int .i64)], .box [.dat (.int .i64), .dat (.slice (.int .i64))], .mat (.int .i64)], []⟩
def sspec_plTonnes_l0x0 : LS := ⟨[(5, .one (.fix (.sref 0)))], [.mat (.int .i64)], []⟩
def xspec_plTonnes_l0 : List (XS ((List (List Int)) × (List Int) × (List Int) × Int × Int × Int × Int × Int × Int × (List Int))) := [⟨.exit 0, ⟨[5], [.slot 5], [], []⟩, sspec_plTonnes_l0x0, List (List Int), fun i y => (((), ()), (y, ()))⟩]
def spec_plTonnes_l0K {R : Type} (a2 : List Int) (a3 : List Int) (a6 : Int) (a10 : List Int) (rc : Int → List (List Int) → Option R) (fin : List (List Int) → Option R) (a0 : Int) (a11 : List (List Int)) : Option R :=
  cond (decide (a0 < a6))
  ((spec_plTonnes_l1 a0 a10 (a10.length : Int) a2 a3 0 0 0).bind fun y5 =>
    cond (decide (a11.length + [[y5.1, y5.2]].length ≤ 1099511627776))
    ((some (a11 ++ [[y5.1, y5.2]])).bind fun v6 =>
      rc (IntKind.i64.wrap (a0 + 1)) v6)
    (none))
  (fin a11)
def spec_plTonnes_l0F (a2 : List Int) (a3 : List Int) (a6 : Int) (a10 : List Int) (r : (Int × (List (List Int))) → Option (List (List Int))) (x : Int × (List (List Int))) : Option (List (List Int)) := spec_plTonnes_l0K a2 a3 a6 a10 (fun a0 a11 => r (a0, a11)) some x.1 x.2
theorem spec_plTonnes_l0c (a2 : List Int) (a3 : List Int) (a6 : Int) (a10 : List Int) (x : Int × (List (List Int))) : Ct fun r => spec_plTonnes_l0F a2 a3 a6 a10 r x := by
  unfold spec_plTonnes_l0F spec_plTonnes_l0K
  repeat' (first | exact Ct.const | exact Ct.call | refine Ct.cond ?_ ?_ | refine Ct.bind ?_ fun _ => ?_ | refine Ct.sum (fun _ => ?_) fun _ => ?_)
def spec_plTonnes_l0 (a2 : List Int) (a3 : List Int) (a6 : Int) (a10 : List Int) (a0 : Int) (a11 : List (List Int)) : Option (List (List Int)) := lim (spec_plTonnes_l0F a2 a3 a6 a10) (a0, a11)
theorem spec_plTonnes_l0_eq (a2 : List Int) (a3 : List Int) (a6 : Int) (a10 : List Int) (a0 : Int) (a11 : List (List Int)) : spec_plTonnes_l0 a2 a3 a6 a10 a0 a11 = spec_plTonnes_l0K a2 a3 a6 a10 (spec_plTonnes_l0 a2 a3 a6 a10) some a0 a11 := lim_eq (spec_plTonnes_l0c a2 a3 a6 a10) (a0, a11)
theorem spec_plTonnes_l0p {R : Type} (a2 : List Int) (a3 : List Int) (a6 : Int) (a10 : List Int) {rc : Int → List (List Int) → Option (List (List Int))} {rc' : Int → List (List Int) → Option R} {fin : List (List Int) → Option R} (hr : ∀ a0 a11, Par fin (rc a0 a11) (rc' a0 a11)) (a0 : Int) (a11 : List (List Int)) : Par fin (spec_plTonnes_l0K a2 a3 a6 a10 rc some a0 a11) (spec_plTonnes_l0K a2 a3 a6 a10 rc' fin a0 a11) := by
  unfold spec_plTonnes_l0K
  repeat' (first | exact .fin | exact .none | exact hr _ _ | refine .cond ?_ ?_ | refine .bind fun _ => ?_ | refine .sum (fun _ => ?_) fun _ => ?_)
def Lspec_plTonnes_l0 : Loop := mkL ⟨[2, 3, 5, 6], [.slot 2, .slot 3, .slot 5], [], [.ownm (.slot 5) (.int .i64)]⟩ sspec_plTonnes_l0 xspec_plTonnes_l0 (fun (x : (Unit × Unit × Unit × Int × Unit) × (((List (List Int)) × (List Int) × (List Int) × Int × Int × Int × Int × Int × Unit) × (Int × (List Int) × Unit) × (List (List Int)) × Unit)) => (x.2.1.1, (x.2.1.2.1, (x.2.1.2.2.1, (x.2.1.2.2.2.1, (x.2.1.2.2.2.2.1, (x.2.1.2.2.2.2.2.1, (x.2.1.2.2.2.2.2.2.1, (x.2.1.2.2.2.2.2.2.2.1, (x.2.2.1.1, x.2.2.1.2.1)))))))))) fun (x : (Unit × Unit × Unit × Int × Unit) × (((List (List Int)) × (List Int) × (List Int) × Int × Int × Int × Int × Int × Unit) × (Int × (List Int) × Unit) × (List (List Int)) × Unit)) => spec_plTonnes_l0 x.2.1.2.1 x.2.1.2.2.1 x.2.1.2.2.2.2.2.1 x.2.2.1.2.1 x.1.2.2.2.1 x.2.2.2.1
def spec_plTonnesK {R : Type} (fin : List (List Int) → Option R) (x0 : DJob) (x1 : DPlan) : Option R :=
  (spec_plTonnes_l0 x0.2.1 x0.2.2.1 x0.2.2.2.2.1 x1.2.1 0 []).bind fun y12 =>
  fin y12
def spec_plTonnes (x0 : DJob) (x1 : DPlan) : Option (List (List Int)) := spec_plTonnesK some x0 x1
theorem p100 {R : Type} (fin : List (List Int) → Option R) (x0 : DJob) (x1 : DPlan) : Par fin (spec_plTonnesK some x0 x1) (spec_plTonnesK fin x0 x1) := by
  unfold spec_plTonnesK
  repeat' (first | exact .fin | exact .none | refine .cond ?_ ?_ | refine .bind fun _ => ?_ | refine .sum (fun _ => ?_) fun _ => ?_)
def or100 : Ora := { lo := addL 3 (Lspec_plTonnes_l0) (addL 7 (Lspec_plTonnes_l1) lo0), fin := [] }
theorem spec_plTonnes_l1e (a0 : Int) (a3 : List Int) (a4 : Int) (a6 : List (List Int)) (a7 : List Int) (a8 : List Int) (a9 : Int) (a10 : Int) (a11 : Int) (a12 : Int) (a13 : Int) (a14 : Int) (a15 : List Int) (a16 : List (List Int)) (k : Nat) (a1 : Int) (a2 : Int) (a5 : Int) : loopC Try.prog EL100 or100 ((loopsIn (codeOf Try.f100)).getD 1 .skip) (Lspec_plTonnes_l1).h (Lspec_plTonnes_l1).ho Try.f100.ntmps (k + 1) (sspec_plTonnes_l1.out (((), ((), ((), (a0, (a1, (a2, (a3, (a4, (a5, ()))))))))), ((a6, (a7, (a8, (a9, (a10, (a11, (a12, (a13, ())))))))), ((a14, (a15, ())), (a16, ()))))) =
    spec_plTonnes_l1K a0 a3 a4 a7 a8 (fun a1 a2 a5 => loopC Try.prog EL100 or100 ((loopsIn (codeOf Try.f100)).getD 1 .skip) (Lspec_plTonnes_l1).h (Lspec_plTonnes_l1).ho Try.f100.ntmps k (sspec_plTonnes_l1.out (((), ((), ((), (a0, (a1, (a2, (a3, (a4, (a5, ()))))))))), ((a6, (a7, (a8, (a9, (a10, (a11, (a12, (a13, ())))))))), ((a14, (a15, ())), (a16, ())))))) (fun y => some (XS.out xspec_plTonnes_l1 (a0, (a3, (a4, (a6, (a7, (a8, (a9, (a10, (a11, (a12, (a13, (a14, (a15, a16))))))))))))) y)) a1 a2 a5 := by kernel_rfl
theorem spec_plTonnes_l1o : LoopOk Try.prog EL100 or100 Try.f100.ntmps ((loopsIn (codeOf Try.f100)).getD 1 .skip) (Lspec_plTonnes_l1) :=
  loop_lim (hs := sspec_plTonnes_l1) (xs := xspec_plTonnes_l1) (ι := fun (x : (Unit × Unit × Unit × Int × Int × Int × (List Int) × Int × Int × Unit) × (((List (List Int)) × (List Int) × (List Int) × Int × Int × Int × Int × Int × Unit) × (Int × (List Int) × Unit) × (List (List Int)) × Unit)) => (x.1.2.2.2.1, (x.1.2.2.2.2.2.2.1, (x.1.2.2.2.2.2.2.2.1, (x.2.1.1, (x.2.1.2.1, (x.2.1.2.2.1, (x.2.1.2.2.2.1, (x.2.1.2.2.2.2.1, (x.2.1.2.2.2.2.2.1, (x.2.1.2.2.2.2.2.2.1, (x.2.1.2.2.2.2.2.2.2.1, (x.2.2.1.1, (x.2.2.1.2.1, x.2.2.2.1)))))))))))))) (φ := fun (x : (Unit × Unit × Unit × Int × Int × Int × (List Int) × Int × Int × Unit) × (((List (List Int)) × (List Int) × (List Int) × Int × Int × Int × Int × Int × Unit) × (Int × (List Int) × Unit) × (List (List Int)) × Unit)) => (x.1.2.2.2.2.1, (x.1.2.2.2.2.2.1, x.1.2.2.2.2.2.2.2.2.1))) (ψ := fun (i : Int × (List Int) × Int × (List (List Int)) × (List Int) × (List Int) × Int × Int × Int × Int × Int × Int × (List Int) × (List (List Int))) (v : Int × Int × Int) => (((), ((), ((), (i.1, (v.1, (v.2.1, (i.2.1, (i.2.2.1, (v.2.2, ()))))))))), ((i.2.2.2.1, (i.2.2.2.2.1, (i.2.2.2.2.2.1, (i.2.2.2.2.2.2.1, (i.2.2.2.2.2.2.2.1, (i.2.2.2.2.2.2.2.2.1, (i.2.2.2.2.2.2.2.2.2.1, (i.2.2.2.2.2.2.2.2.2.2.1, ())))))))), ((i.2.2.2.2.2.2.2.2.2.2.2.1, (i.2.2.2.2.2.2.2.2.2.2.2.2.1, ())), (i.2.2.2.2.2.2.2.2.2.2.2.2.2, ()))))) (F := fun (i : Int × (List Int) × Int × (List (List Int)) × (List Int) × (List Int) × Int × Int × Int × Int × Int × Int × (List Int) × (List (List Int))) => spec_plTonnes_l1F i.1 i.2.1 i.2.2.1 i.2.2.2.2.1 i.2.2.2.2.2.1) (fun _ => rfl) fun i k hk v => Par.of_eq (spec_plTonnes_l1e i.1 i.2.1 i.2.2.1 i.2.2.2.1 i.2.2.2.2.1 i.2.2.2.2.2.1 i.2.2.2.2.2.2.1 i.2.2.2.2.2.2.2.1 i.2.2.2.2.2.2.2.2.1 i.2.2.2.2.2.2.2.2.2.1 i.2.2.2.2.2.2.2.2.2.2.1 i.2.2.2.2.2.2.2.2.2.2.2.1 i.2.2.2.2.2.2.2.2.2.2.2.2.1 i.2.2.2.2.2.2.2.2.2.2.2.2.2 k v.1 v.2.1 v.2.2) (spec_plTonnes_l1p i.1 i.2.1 i.2.2.1 i.2.2.2.2.1 i.2.2.2.2.2.1 (fun a1 a2 a5 => hk (a1, (a2, a5))) v.1 v.2.1 v.2.2)
theorem spec_plTonnes_l0e (a1 : List (List Int)) (a2 : List Int) (a3 : List Int) (a4 : Int) (a5 : Int) (a6 : Int) (a7 : Int) (a8 : Int) (a9 : Int) (a10 : List Int) (k : Nat) (a0 : Int) (a11 : List (List Int)) : loopC Try.prog EL100 or100 ((loopsIn (codeOf Try.f100)).getD 0 .skip) (Lspec_plTonnes_l0).h (Lspec_plTonnes_l0).ho Try.f100.ntmps (k + 1) (sspec_plTonnes_l0.out (((), ((), ((), (a0, ())))), ((a1, (a2, (a3, (a4, (a5, (a6, (a7, (a8, ())))))))), ((a9, (a10, ())), (a11, ()))))) =
    spec_plTonnes_l0K a2 a3 a6 a10 (fun a0 a11 => loopC Try.prog EL100 or100 ((loopsIn (codeOf Try.f100)).getD 0 .skip) (Lspec_plTonnes_l0).h (Lspec_plTonnes_l0).ho Try.f100.ntmps k (sspec_plTonnes_l0.out (((), ((), ((), (a0, ())))), ((a1, (a2, (a3, (a4, (a5, (a6, (a7, (a8, ())))))))), ((a9, (a10, ())), (a11, ())))))) (fun y => some (XS.out xspec_plTonnes_l0 (a1, (a2, (a3, (a4, (a5, (a6, (a7, (a8, (a9, a10))))))))) y)) a0 a11 := by kernel_rfl
theorem spec_plTonnes_l0o : LoopOk Try.prog EL100 or100 Try.f100.ntmps ((loopsIn (codeOf Try.f100)).getD 0 .skip) (Lspec_plTonnes_l0) :=
  loop_lim (hs := sspec_plTonnes_l0) (xs := xspec_plTonnes_l0) (ι := fun (x : (Unit × Unit × Unit × Int × Unit) × (((List (List Int)) × (List Int) × (List Int) × Int × Int × Int × Int × Int × Unit) × (Int × (List Int) × Unit) × (List (List Int)) × Unit)) => (x.2.1.1, (x.2.1.2.1, (x.2.1.2.2.1, (x.2.1.2.2.2.1, (x.2.1.2.2.2.2.1, (x.2.1.2.2.2.2.2.1, (x.2.1.2.2.2.2.2.2.1, (x.2.1.2.2.2.2.2.2.2.1, (x.2.2.1.1, x.2.2.1.2.1)))))))))) (φ := fun (x : (Unit × Unit × Unit × Int × Unit) × (((List (List Int)) × (List Int) × (List Int) × Int × Int × Int × Int × Int × Unit) × (Int × (List Int) × Unit) × (List (List Int)) × Unit)) => (x.1.2.2.2.1, x.2.2.2.1)) (ψ := fun (i : (List (List Int)) × (List Int) × (List Int) × Int × Int × Int × Int × Int × Int × (List Int)) (v : Int × (List (List Int))) => (((), ((), ((), (v.1, ())))), ((i.1, (i.2.1, (i.2.2.1, (i.2.2.2.1, (i.2.2.2.2.1, (i.2.2.2.2.2.1, (i.2.2.2.2.2.2.1, (i.2.2.2.2.2.2.2.1, ())))))))), ((i.2.2.2.2.2.2.2.2.1, (i.2.2.2.2.2.2.2.2.2, ())), (v.2, ()))))) (F := fun (i : (List (List Int)) × (List Int) × (List Int) × Int × Int × Int × Int × Int × Int × (List Int)) => spec_plTonnes_l0F i.2.1 i.2.2.1 i.2.2.2.2.2.1 i.2.2.2.2.2.2.2.2.2) (fun _ => rfl) fun i k hk v => Par.of_eq (spec_plTonnes_l0e i.1 i.2.1 i.2.2.1 i.2.2.2.1 i.2.2.2.2.1 i.2.2.2.2.2.1 i.2.2.2.2.2.2.1 i.2.2.2.2.2.2.2.1 i.2.2.2.2.2.2.2.2.1 i.2.2.2.2.2.2.2.2.2 k v.1 v.2) (spec_plTonnes_l0p i.2.1 i.2.2.1 i.2.2.2.2.2.1 i.2.2.2.2.2.2.2.2.2 (fun a0 a11 => hk (a0, a11)) v.1 v.2)
def c100 : Callee := mkC [.agg [.ro TJob], .agg [.ro TPlan]] 1 [.one (.mat (.int .i64))] fun x => spec_plTonnes x.1 x.2
theorem e100 (x : PK.dens [.agg [.ro TJob], .agg [.ro TPlan]]) : evalFn Try.prog EL100 or100 Try.f100 (PK.outs [.agg [.ro TJob], .agg [.ro TPlan]] x) =
    spec_plTonnesK (fun y => some (tupOf ((PK.outs [.one (.mat (.int .i64))] y).take 1), (PK.outs [.one (.mat (.int .i64))] y).drop 1)) x.1 x.2 := by kernel_rfl
theorem o100 : LoOk Try.prog EL100 or100 Try.f100.ntmps (loopsIn (codeOf Try.f100)) :=
  LoOk.mk (m := 2) (by kernel_rfl) fun i hi => match i, hi with
    | 0, _ => ⟨Lspec_plTonnes_l0, by kernel_rfl, spec_plTonnes_l0o⟩
    | 1, _ => ⟨Lspec_plTonnes_l1, by kernel_rfl, spec_plTonnes_l1o⟩
    | i + 2, hi => absurd hi (by omega)
theorem k100 : CalleeOk Try.prog 100 c100 := callee_mk Try.func100 (code := codeOf Try.f100) (by kernel_rfl) vL100 mixed o100 fun x y h => (e100 x).trans (p100 _ x.1 x.2 y h)
end
end Go.OAI
