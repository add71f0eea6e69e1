/- Contracts: GFl. -/
import Derived.Test.YtokaffjipngphaaGA
namespace Go.OAI
open Go.Proofs
set_option linter.unusedVariables false
noncomputable section


/-- impl.residual).fromSource -/
def EL96 : Nat → Option Callee := env0
theorem vL96 : EnvOk Try.prog EL96 := EnvOk.nil
def simpl_residual_fromSource_l1 : LS := ⟨[(0, .one (.fix (.ptr 0 0))), (3, .one (.fix (.sref 4))), (4, .one (.win 5)), (5, .one (.dat (.int .i64))), (40, .one (.dat (.slice (.int .i64)))), (41, .one (.dat (.int .i64))), (42, .one (.dat (.int .i64)))], [.box [.dat (.slice (.slice (.int .i64))), .dat (.slice (.int .i64)), .fix (.sref 1), .fix (.sref 2), .fix (.sref 3)], .sl (.int .i64), .sl (.int .i64), .sl (.int .i64), .sl .bool, .sl (.int .i64)], [0]⟩
def simpl_residual_fromSource_l1x0 : LS := ⟨[(0, .one (.fix (.ptr 0 0))), (3, .one (.fix (.sref 4))), (4, .one (.win 5))], [.box [.dat (.slice (.slice (.int .i64))), .dat (.slice (.int .i64)), .fix (.sref 1), .fix (.sref 2), .fix (.sref 3)], .sl (.int .i64), .sl (.int .i64), .sl (.int .i64), .sl .bool, .sl (.int .i64)], [0]⟩
def ximpl_residual_fromSource_l1 : List (XS (Int × (List Int) × Int × (List (List Int)) × (List Int) × (List Int) × (List Int))) := [⟨.exit 2, ⟨[0, 3, 4], [.slot 0, .cell 0 2, .cell 0 3, .cell 0 4, .slot 3, .slot 4], [0], []⟩, simpl_residual_fromSource_l1x0, Nat × Nat × (List Int) × (List Bool) × (List Int), fun i y => (((), ((), ((y.1, y.2.1), ()))), ((i.2.2.2.1, (i.2.2.2.2.1, ((), ((), ((), ()))))), (i.2.2.2.2.2.1, (y.2.2.1, (i.2.2.2.2.2.2, (y.2.2.2.1, (y.2.2.2.2, ())))))))⟩]
def impl_residual_fromSource_l1K {R : Type} (a2 : Int) (a3 : List Int) (a4 : Int) (a7 : List Int) (a8 : List Int) (rc : Nat → Nat → Int → List Int → List Bool → List Int → Option R) (fin : Nat × Nat × (List Int) × (List Bool) × (List Int) → Option R) (a0 : Nat) (a1 : Nat) (a5 : Int) (a9 : List Int) (a11 : List Bool) (a12 : List Int) : Option R :=
  cond (decide (a5 < a4))
  ((lat a3 a5).bind fun e1 =>
    cond (decide ((0 : Int) ≤ e1) && decide (e1 < (a8.length : Int)))
    (cond (decide ((a8.getD (0 + e1.toNat) 0) > 0))
      ((lat a7 e1).bind fun e2 =>
        cond (decide ((0 : Int) ≤ e2) && decide (e2 < (a11.length : Int)))
        (cond (!(a11.getD (0 + e2.toNat) false))
          ((lat a7 e1).bind fun e3 =>
            cond (decide ((0 : Int) ≤ e3) && decide (e3 < (a11.length : Int)))
            ((some (a11.set (0 + e3.toNat) true)).bind fun v4 =>
              (lat a7 e1).bind fun e5 =>
              cond (decide ((0 : Int) ≤ a2) && decide (a2 < (a9.length : Int)))
              (cond (decide ((0 : Int) ≤ e5) && decide (e5 < (a9.length : Int)))
                ((some (a9.set (0 + e5.toNat) (IntKind.i64.wrap ((a9.getD (0 + a2.toNat) 0) + 1)))).bind fun v6 =>
                  (lat a7 e1).bind fun e7 =>
                  cond (decide (((a12.drop a0).take a1).length + [e7].length ≤ 1099511627776))
                  ((some (((a12.drop a0).take a1) ++ [e7])).bind fun v8 =>
                    rc 0 v8.length (IntKind.i64.wrap (a5 + 1)) v6 v4 v8)
                  (none))
                (none))
              (none))
            (none))
          (rc a0 a1 (IntKind.i64.wrap (a5 + 1)) a9 a11 a12))
        (none))
      (rc a0 a1 (IntKind.i64.wrap (a5 + 1)) a9 a11 a12))
    (none))
  (fin (a0, (a1, (a9, (a11, a12)))))
def impl_residual_fromSource_l1F (a2 : Int) (a3 : List Int) (a4 : Int) (a7 : List Int) (a8 : List Int) (r : (Nat × Nat × Int × (List Int) × (List Bool) × (List Int)) → Option (Nat × Nat × (List Int) × (List Bool) × (List Int))) (x : Nat × Nat × Int × (List Int) × (List Bool) × (List Int)) : Option (Nat × Nat × (List Int) × (List Bool) × (List Int)) := impl_residual_fromSource_l1K a2 a3 a4 a7 a8 (fun a0 a1 a5 a9 a11 a12 => r (a0, (a1, (a5, (a9, (a11, a12)))))) some x.1 x.2.1 x.2.2.1 x.2.2.2.1 x.2.2.2.2.1 x.2.2.2.2.2
theorem impl_residual_fromSource_l1c (a2 : Int) (a3 : List Int) (a4 : Int) (a7 : List Int) (a8 : List Int) (x : Nat × Nat × Int × (List Int) × (List Bool) × (List Int)) : Ct fun r => impl_residual_fromSource_l1F a2 a3 a4 a7 a8 r x := by
  unfold impl_residual_fromSource_l1F impl_residual_fromSource_l1K
  repeat' (first | exact Ct.const | exact Ct.call | refine Ct.cond ?_ ?_ | refine Ct.bind ?_ fun _ => ?_ | refine Ct.sum (fun _ => ?_) fun _ => ?_)
def impl_residual_fromSource_l1 (a2 : Int) (a3 : List Int) (a4 : Int) (a7 : List Int) (a8 : List Int) (a0 : Nat) (a1 : Nat) (a5 : Int) (a9 : List Int) (a11 : List Bool) (a12 : List Int) : Option (Nat × Nat × (List Int) × (List Bool) × (List Int)) := lim (impl_residual_fromSource_l1F a2 a3 a4 a7 a8) (a0, (a1, (a5, (a9, (a11, a12)))))
theorem impl_residual_fromSource_l1_eq (a2 : Int) (a3 : List Int) (a4 : Int) (a7 : List Int) (a8 : List Int) (a0 : Nat) (a1 : Nat) (a5 : Int) (a9 : List Int) (a11 : List Bool) (a12 : List Int) : impl_residual_fromSource_l1 a2 a3 a4 a7 a8 a0 a1 a5 a9 a11 a12 = impl_residual_fromSource_l1K a2 a3 a4 a7 a8 (impl_residual_fromSource_l1 a2 a3 a4 a7 a8) some a0 a1 a5 a9 a11 a12 := lim_eq (impl_residual_fromSource_l1c a2 a3 a4 a7 a8) (a0, (a1, (a5, (a9, (a11, a12)))))
theorem impl_residual_fromSource_l1p {R : Type} (a2 : Int) (a3 : List Int) (a4 : Int) (a7 : List Int) (a8 : List Int) {rc : Nat → Nat → Int → List Int → List Bool → List Int → Option (Nat × Nat × (List Int) × (List Bool) × (List Int))} {rc' : Nat → Nat → Int → List Int → List Bool → List Int → Option R} {fin : Nat × Nat × (List Int) × (List Bool) × (List Int) → Option R} (hr : ∀ a0 a1 a5 a9 a11 a12, Par fin (rc a0 a1 a5 a9 a11 a12) (rc' a0 a1 a5 a9 a11 a12)) (a0 : Nat) (a1 : Nat) (a5 : Int) (a9 : List Int) (a11 : List Bool) (a12 : List Int) : Par fin (impl_residual_fromSource_l1K a2 a3 a4 a7 a8 rc some a0 a1 a5 a9 a11 a12) (impl_residual_fromSource_l1K a2 a3 a4 a7 a8 rc' fin a0 a1 a5 a9 a11 a12) := by
  unfold impl_residual_fromSource_l1K
  repeat' (first | exact .fin | exact .none | exact hr _ _ _ _ _ _ | refine .cond ?_ ?_ | refine .bind fun _ => ?_ | refine .sum (fun _ => ?_) fun _ => ?_)
def Limpl_residual_fromSource_l1 : Loop := mkL ⟨[0, 3, 4, 5, 40, 41, 42], [.slot 0, .cell 0 2, .cell 0 3, .cell 0 4, .slot 3, .slot 4], [0], [.win (.slot 4)]⟩ simpl_residual_fromSource_l1 ximpl_residual_fromSource_l1 (fun (x : (Unit × Unit × (Nat × Nat) × Int × (List Int) × Int × Int × Unit) × (((List (List Int)) × (List Int) × Unit × Unit × Unit × Unit) × (List Int) × (List Int) × (List Int) × (List Bool) × (List Int) × Unit)) => (x.1.2.2.2.1, (x.1.2.2.2.2.1, (x.1.2.2.2.2.2.1, (x.2.1.1, (x.2.1.2.1, (x.2.2.1, x.2.2.2.2.1))))))) fun (x : (Unit × Unit × (Nat × Nat) × Int × (List Int) × Int × Int × Unit) × (((List (List Int)) × (List Int) × Unit × Unit × Unit × Unit) × (List Int) × (List Int) × (List Int) × (List Bool) × (List Int) × Unit)) => impl_residual_fromSource_l1 x.1.2.2.2.1 x.1.2.2.2.2.1 x.1.2.2.2.2.2.1 x.2.1.2.1 x.2.2.1 x.1.2.2.1.1 x.1.2.2.1.2 x.1.2.2.2.2.2.2.1 x.2.2.2.1 x.2.2.2.2.2.1 x.2.2.2.2.2.2.1
def simpl_residual_fromSource_l0 : LS := ⟨[(0, .one (.fix (.ptr 0 0))), (3, .one (.fix (.sref 4))), (4, .one (.win 5))], [.box [.dat (.slice (.slice (.int .i64))), .dat (.slice (.int .i64)), .fix (.sref 1), .fix (.sref 2), .fix (.sref 3)], .sl (.int .i64), .sl (.int .i64), .sl (.int .i64), .sl .bool, .sl (.int .i64)], [0]⟩
def simpl_residual_fromSource_l0x0 : LS := ⟨[(0, .one (.fix (.ptr 0 0))), (3, .one (.fix (.sref 4)))], [.box [.dat (.slice (.slice (.int .i64))), .dat (.slice (.int .i64)), .fix (.sref 1), .fix (.sref 2), .fix (.sref 3)], .sl (.int .i64), .sl (.int .i64), .sl (.int .i64), .sl .bool], [0]⟩
def ximpl_residual_fromSource_l0 : List (XS ((List (List Int)) × (List Int) × (List Int) × (List Int))) := [⟨.exit 0, ⟨[0, 3], [.slot 0, .cell 0 2, .cell 0 3, .cell 0 4, .slot 3], [0], []⟩, simpl_residual_fromSource_l0x0, (List Int) × (List Bool), fun i y => (((), ((), ())), ((i.1, (i.2.1, ((), ((), ((), ()))))), (i.2.2.1, (y.1, (i.2.2.2, (y.2, ()))))))⟩]
def impl_residual_fromSource_l0K {R : Type} (a2 : List (List Int)) (a3 : List Int) (a4 : List Int) (rc : Nat → Nat → List Int → List Bool → List Int → Option R) (fin : (List Int) × (List Bool) → Option R) (a0 : Nat) (a1 : Nat) (a5 : List Int) (a7 : List Bool) (a8 : List Int) : Option R :=
  cond (decide ((((a8.drop a0).take a1).length : Int) > 0))
  (cond (decide ((0 : Int) < (((a8.drop a0).take a1).length : Int)))
    (cond (decide ((1 : Int) ≤ (((a8.drop a0).take a1).length : Int)) && decide ((((a8.drop a0).take a1).length : Int) ≤ (((a8.drop a0).take a1).length : Int)))
      ((lat a2 (a8.getD (a0 + 0) 0)).bind fun e1 =>
        (impl_residual_fromSource_l1 (a8.getD (a0 + 0) 0) e1 (e1.length : Int) a3 a4 (a0 + 1) ((((a8.drop a0).take a1).length : Int).toNat - 1) 0 a5 a7 a8).bind fun y18 =>
        rc y18.1 y18.2.1 y18.2.2.1 y18.2.2.2.1 y18.2.2.2.2)
      (none))
    (none))
  (fin (a5, a7))
def impl_residual_fromSource_l0F (a2 : List (List Int)) (a3 : List Int) (a4 : List Int) (r : (Nat × Nat × (List Int) × (List Bool) × (List Int)) → Option ((List Int) × (List Bool))) (x : Nat × Nat × (List Int) × (List Bool) × (List Int)) : Option ((List Int) × (List Bool)) := impl_residual_fromSource_l0K a2 a3 a4 (fun a0 a1 a5 a7 a8 => r (a0, (a1, (a5, (a7, a8))))) some x.1 x.2.1 x.2.2.1 x.2.2.2.1 x.2.2.2.2
theorem impl_residual_fromSource_l0c (a2 : List (List Int)) (a3 : List Int) (a4 : List Int) (x : Nat × Nat × (List Int) × (List Bool) × (List Int)) : Ct fun r => impl_residual_fromSource_l0F a2 a3 a4 r x := by
  unfold impl_residual_fromSource_l0F impl_residual_fromSource_l0K
  repeat' (first | exact Ct.const | exact Ct.call | refine Ct.cond ?_ ?_ | refine Ct.bind ?_ fun _ => ?_ | refine Ct.sum (fun _ => ?_) fun _ => ?_)
def impl_residual_fromSource_l0 (a2 : List (List Int)) (a3 : List Int) (a4 : List Int) (a0 : Nat) (a1 : Nat) (a5 : List Int) (a7 : List Bool) (a8 : List Int) : Option ((List Int) × (List Bool)) := lim (impl_residual_fromSource_l0F a2 a3 a4) (a0, (a1, (a5, (a7, a8))))
theorem impl_residual_fromSource_l0_eq (a2 : List (List Int)) (a3 : List Int) (a4 : List Int) (a0 : Nat) (a1 : Nat) (a5 : List Int) (a7 : List Bool) (a8 : List Int) : impl_residual_fromSource_l0 a2 a3 a4 a0 a1 a5 a7 a8 = impl_residual_fromSource_l0K a2 a3 a4 (impl_residual_fromSource_l0 a2 a3 a4) some a0 a1 a5 a7 a8 := lim_eq (impl_residual_fromSource_l0c a2 a3 a4) (a0, (a1, (a5, (a7, a8))))
theorem impl_residual_fromSource_l0p {R : Type} (a2 : List (List Int)) (a3 : List Int) (a4 : List Int) {rc : Nat → Nat → List Int → List Bool → List Int → Option ((List Int) × (List Bool))} {rc' : Nat → Nat → List Int → List Bool → List Int → Option R} {fin : (List Int) × (List Bool) → Option R} (hr : ∀ a0 a1 a5 a7 a8, Par fin (rc a0 a1 a5 a7 a8) (rc' a0 a1 a5 a7 a8)) (a0 : Nat) (a1 : Nat) (a5 : List Int) (a7 : List Bool) (a8 : List Int) : Par fin (impl_residual_fromSource_l0K a2 a3 a4 rc some a0 a1 a5 a7 a8) (impl_residual_fromSource_l0K a2 a3 a4 rc' fin a0 a1 a5 a7 a8) := by
  unfold impl_residual_fromSource_l0K
  repeat' (first | exact .fin | exact .none | exact hr _ _ _ _ _ | refine .cond ?_ ?_ | refine .bind fun _ => ?_ | refine .sum (fun _ => ?_) fun _ => ?_)
def Limpl_residual_fromSource_l0 : Loop := mkL ⟨[0, 3, 4], [.slot 0, .cell 0 2, .cell 0 3, .cell 0 4, .slot 3, .slot 4], [0], [.win (.slot 4)]⟩ simpl_residual_fromSource_l0 ximpl_residual_fromSource_l0 (fun (x : (Unit × Unit × (Nat × Nat) × Unit) × (((List (List Int)) × (List Int) × Unit × Unit × Unit × Unit) × (List Int) × (List Int) × (List Int) × (List Bool) × (List Int) × Unit)) => (x.2.1.1, (x.2.1.2.1, (x.2.2.1, x.2.2.2.2.1)))) fun (x : (Unit × Unit × (Nat × Nat) × Unit) × (((List (List Int)) × (List Int) × Unit × Unit × Unit × Unit) × (List Int) × (List Int) × (List Int) × (List Bool) × (List Int) × Unit)) => impl_residual_fromSource_l0 x.2.1.1 x.2.1.2.1 x.2.2.1 x.1.2.2.1.1 x.1.2.2.1.2 x.2.2.2.1 x.2.2.2.2.2.1 x.2.2.2.2.2.2.1
def impl_residual_fromSourceK {R : Type} (fin : (List Bool) × ((List (List Int)) × (List Int) × (List Int) × (List Int) × (List Int)) → Option R) (x0 : (List (List Int)) × (List Int) × (List Int) × (List Int) × (List Int)) : Option R :=
  cond (decide ((0 : Int) ≤ (x0.1.length : Int)) && (decide ((x0.1.length : Int) ≤ (x0.1.length : Int)) && decide ((x0.1.length : Int) ≤ 1099511627776)))
  ((some ((List.replicate ((x0.1.length : Int).toNat) 0 : List Int))).bind fun v1 =>
    cond (decide ((0 : Int) ≤ (x0.1.length : Int)) && (decide ((x0.1.length : Int) ≤ (x0.1.length : Int)) && decide ((x0.1.length : Int) ≤ 1099511627776)))
    ((some ((List.replicate ((x0.1.length : Int).toNat) false : List Bool))).bind fun v2 =>
      cond (decide ((0 : Int) < (v2.length : Int)))
      ((some (v2.set (0 + 0) true)).bind fun v3 =>
        (impl_residual_fromSource_l0 x0.1 x0.2.1 x0.2.2.1 0 ([0].length) v1 v3 [0]).bind fun y40 =>
        fin (y40.2, (x0.1, (x0.2.1, (x0.2.2.1, (y40.1, x0.2.2.2.2))))))
      (none))
    (none))
  (none)
def impl_residual_fromSource (x0 : (List (List Int)) × (List Int) × (List Int) × (List Int) × (List Int)) : Option ((List Bool) × ((List (List Int)) × (List Int) × (List Int) × (List Int) × (List Int))) := impl_residual_fromSourceK some x0
theorem p96 {R : Type} (fin : (List Bool) × ((List (List Int)) × (List Int) × (List Int) × (List Int) × (List Int)) → Option R) (x0 : (List (List Int)) × (List Int) × (List Int) × (List Int) × (List Int)) : Par fin (impl_residual_fromSourceK some x0) (impl_residual_fromSourceK fin x0) := by
  unfold impl_residual_fromSourceK
  repeat' (first | exact .fin | exact .none | refine .cond ?_ ?_ | refine .bind fun _ => ?_ | refine .sum (fun _ => ?_) fun _ => ?_)
def or96 : Ora := { lo := addL 5 (Limpl_residual_fromSource_l0) (addL 9 (Limpl_residual_fromSource_l1) lo0), fin := [] }
theorem impl_residual_fromSource_l1e (a2 : Int) (a3 : List Int) (a4 : Int) (a6 : List (List Int)) (a7 : List Int) (a8 : List Int) (a10 : List Int) (k : Nat) (a0 : Nat) (a1 : Nat) (a5 : Int) (a9 : List Int) (a11 : List Bool) (a12 : List Int) : loopC Try.prog EL96 or96 ((loopsIn (codeOf Try.f96)).getD 1 .skip) (Limpl_residual_fromSource_l1).h (Limpl_residual_fromSource_l1).ho Try.f96.ntmps (k + 1) (simpl_residual_fromSource_l1.out (((), ((), ((a0, a1), (a2, (a3, (a4, (a5, ()))))))), ((a6, (a7, ((), ((), ((), ()))))), (a8, (a9, (a10, (a11, (a12, ())))))))) =
    impl_residual_fromSource_l1K a2 a3 a4 a7 a8 (fun a0 a1 a5 a9 a11 a12 => loopC Try.prog EL96 or96 ((loopsIn (codeOf Try.f96)).getD 1 .skip) (Limpl_residual_fromSource_l1).h (Limpl_residual_fromSource_l1).ho Try.f96.ntmps k (simpl_residual_fromSource_l1.out (((), ((), ((a0, a1), (a2, (a3, (a4, (a5, ()))))))), ((a6, (a7, ((), ((), ((), ()))))), (a8, (a9, (a10, (a11, (a12, ()))))))))) (fun y => some (XS.out ximpl_residual_fromSource_l1 (a2, (a3, (a4, (a6, (a7, (a8, a10)))))) y)) a0 a1 a5 a9 a11 a12 := by kernel_rfl
theorem impl_residual_fromSource_l1o : LoopOk Try.prog EL96 or96 Try.f96.ntmps ((loopsIn (codeOf Try.f96)).getD 1 .skip) (Limpl_residual_fromSource_l1) :=
  loop_lim (hs := simpl_residual_fromSource_l1) (xs := ximpl_residual_fromSource_l1) (ι := fun (x : (Unit × Unit × (Nat × Nat) × Int × (List Int) × Int × Int × Unit) × (((List (List Int)) × (List Int) × Unit × Unit × Unit × Unit) × (List Int) × (List Int) × (List Int) × (List Bool) × (List Int) × Unit)) => (x.1.2.2.2.1, (x.1.2.2.2.2.1, (x.1.2.2.2.2.2.1, (x.2.1.1, (x.2.1.2.1, (x.2.2.1, x.2.2.2.2.1))))))) (φ := fun (x : (Unit × Unit × (Nat × Nat) × Int × (List Int) × Int × Int × Unit) × (((List (List Int)) × (List Int) × Unit × Unit × Unit × Unit) × (List Int) × (List Int) × (List Int) × (List Bool) × (List Int) × Unit)) => (x.1.2.2.1.1, (x.1.2.2.1.2, (x.1.2.2.2.2.2.2.1, (x.2.2.2.1, (x.2.2.2.2.2.1, x.2.2.2.2.2.2.1)))))) (ψ := fun (i : Int × (List Int) × Int × (List (List Int)) × (List Int) × (List Int) × (List Int)) (v : Nat × Nat × Int × (List Int) × (List Bool) × (List Int)) => (((), ((), ((v.1, v.2.1), (i.1, (i.2.1, (i.2.2.1, (v.2.2.1, ()))))))), ((i.2.2.2.1, (i.2.2.2.2.1, ((), ((), ((), ()))))), (i.2.2.2.2.2.1, (v.2.2.2.1, (i.2.2.2.2.2.2, (v.2.2.2.2.1, (v.2.2.2.2.2, ())))))))) (F := fun (i : Int × (List Int) × Int × (List (List Int)) × (List Int) × (List Int) × (List Int)) => impl_residual_fromSource_l1F i.1 i.2.1 i.2.2.1 i.2.2.2.2.1 i.2.2.2.2.2.1) (fun _ => rfl) fun i k hk v => Par.of_eq (impl_residual_fromSource_l1e i.1 i.2.1 i.2.2.1 i.2.2.2.1 i.2.2.2.2.1 i.2.2.2.2.2.1 i.2.2.2.2.2.2 k v.1 v.2.1 v.2.2.1 v.2.2.2.1 v.2.2.2.2.1 v.2.2.2.2.2) (impl_residual_fromSource_l1p i.1 i.2.1 i.2.2.1 i.2.2.2.2.1 i.2.2.2.2.2.1 (fun a0 a1 a5 a9 a11 a12 => hk (a0, (a1, (a5, (a9, (a11, a12)))))) v.1 v.2.1 v.2.2.1 v.2.2.2.1 v.2.2.2.2.1 v.2.2.2.2.2)
theorem impl_residual_fromSource_l0e (a2 : List (List Int)) (a3 : List Int) (a4 : List Int) (a6 : List Int) (k : Nat) (a0 : Nat) (a1 : Nat) (a5 : List Int) (a7 : List Bool) (a8 : List Int) : loopC Try.prog EL96 or96 ((loopsIn (codeOf Try.f96)).getD 0 .skip) (Limpl_residual_fromSource_l0).h (Limpl_residual_fromSource_l0).ho Try.f96.ntmps (k + 1) (simpl_residual_fromSource_l0.out (((), ((), ((a0, a1), ()))), ((a2, (a3, ((), ((), ((), ()))))), (a4, (a5, (a6, (a7, (a8, ())))))))) =
    impl_residual_fromSource_l0K a2 a3 a4 (fun a0 a1 a5 a7 a8 => loopC Try.prog EL96 or96 ((loopsIn (codeOf Try.f96)).getD 0 .skip) (Limpl_residual_fromSource_l0).h (Limpl_residual_fromSource_l0).ho Try.f96.ntmps k (simpl_residual_fromSource_l0.out (((), ((), ((a0, a1), ()))), ((a2, (a3, ((), ((), ((), ()))))), (a4, (a5, (a6, (a7, (a8, ()))))))))) (fun y => some (XS.out ximpl_residual_fromSource_l0 (a2, (a3, (a4, a6))) y)) a0 a1 a5 a7 a8 := by kernel_rfl
theorem impl_residual_fromSource_l0o : LoopOk Try.prog EL96 or96 Try.f96.ntmps ((loopsIn (codeOf Try.f96)).getD 0 .skip) (Limpl_residual_fromSource_l0) :=
  loop_lim (hs := simpl_residual_fromSource_l0) (xs := ximpl_residual_fromSource_l0) (ι := fun (x : (Unit × Unit × (Nat × Nat) × Unit) × (((List (List Int)) × (List Int) × Unit × Unit × Unit × Unit) × (List Int) × (List Int) × (List Int) × (List Bool) × (List Int) × Unit)) => (x.2.1.1, (x.2.1.2.1, (x.2.2.1, x.2.2.2.2.1)))) (φ := fun (x : (Unit × Unit × (Nat × Nat) × Unit) × (((List (List Int)) × (List Int) × Unit × Unit × Unit × Unit) × (List Int) × (List Int) × (List Int) × (List Bool) × (List Int) × Unit)) => (x.1.2.2.1.1, (x.1.2.2.1.2, (x.2.2.2.1, (x.2.2.2.2.2.1, x.2.2.2.2.2.2.1))))) (ψ := fun (i : (List (List Int)) × (List Int) × (List Int) × (List Int)) (v : Nat × Nat × (List Int) × (List Bool) × (List Int)) => (((), ((), ((v.1, v.2.1), ()))), ((i.1, (i.2.1, ((), ((), ((), ()))))), (i.2.2.1, (v.2.2.1, (i.2.2.2, (v.2.2.2.1, (v.2.2.2.2, ())))))))) (F := fun (i : (List (List Int)) × (List Int) × (List Int) × (List Int)) => impl_residual_fromSource_l0F i.1 i.2.1 i.2.2.1) (fun _ => rfl) fun i k hk v => Par.of_eq (impl_residual_fromSource_l0e i.1 i.2.1 i.2.2.1 i.2.2.2 k v.1 v.2.1 v.2.2.1 v.2.2.2.1 v.2.2.2.2) (impl_residual_fromSource_l0p i.1 i.2.1 i.2.2.1 (fun a0 a1 a5 a7 a8 => hk (a0, (a1, (a5, (a7, a8))))) v.1 v.2.1 v.2.2.1 v.2.2.2.1 v.2.2.2.2)
def c96 : Callee := mkC [.box [.ro (.slice (.slice (.int .i64))), .ro (.slice (.int .i64)), .sl (.int .i64), .sl (.int .i64), .sl (.int .i64)]] 1 [.one (.sl .bool), .box [.ro (.slice (.slice (.int .i64))), .ro (.slice (.int .i64)), .sl (.int .i64), .sl (.int .i64), .sl (.int .i64)]] fun x => impl_residual_fromSource x
theorem e96 (x : PK.dens [.box [.ro (.slice (.slice (.int .i64))), .ro (.slice (.int .i64)), .sl (.int .i64), .sl (.int .i64), .sl (.int .i64)]]) : evalFn Try.prog EL96 or96 Try.f96 (PK.outs [.box [.ro (.slice (.slice (.int .i64))), .ro (.slice (.int .i64)), .sl (.int .i64), .sl (.int .i64), .sl (.int .i64)]] x) =
    impl_residual_fromSourceK (fun y => some (tupOf ((PK.outs [.one (.sl .bool), .box [.ro (.slice (.slice (.int .i64))), .ro (.slice (.int .i64)), .sl (.int .i64), .sl (.int .i64), .sl (.int .i64)]] y).take 1), (PK.outs [.one (.sl .bool), .box [.ro (.slice (.slice (.int .i64))), .ro (.slice (.int .i64)), .sl (.int .i64), .sl (.int .i64), .sl (.int .i64)]] y).drop 1)) x := by kernel_rfl
theorem o96 : LoOk Try.prog EL96 or96 Try.f96.ntmps (loopsIn (codeOf Try.f96)) :=
  LoOk.mk (m := 2) (by kernel_rfl) fun i hi => match i, hi with
    | 0, _ => ⟨Limpl_residual_fromSource_l0, by kernel_rfl, impl_residual_fromSource_l0o⟩
    | 1, _ => ⟨Limpl_residual_fromSource_l1, by kernel_rfl, impl_residual_fromSource_l1o⟩
    | i + 2, hi => absurd hi (by omega)
theorem k96 : CalleeOk Try.prog 96 c96 := callee_mk Try.func96 (code := codeOf Try.f96) (by kernel_rfl) vL96 mixed o96 fun x y h => (e96 x).trans (p96 _ x y h)

/-- impl.residual).push -/
def EL115 : Nat → Option Callee := env0
theorem vL115 : EnvOk Try.prog EL115 := EnvOk.nil
def simpl_residual_push_l0 : LS := ⟨[(0, .one (.fix (.ptr 0 0))), (1, .one (.dat (.int .i64))), (2, .one (.dat (.int .i64)))], [.box [.dat (.slice (.slice (.int .i64))), .dat (.slice (.int .i64)), .fix (.sref 1), .fix (.sref 2), .fix (.sref 3)], .sl (.int .i64), .sl (.int .i64), .sl (.int .i64)], [0]⟩
def simpl_residual_push_l0x0 : LS := ⟨[(0, .one (.fix (.ptr 0 0))), (6, .one (.dat (.int .i64)))], [.box [.dat (.slice (.slice (.int .i64))), .dat (.slice (.int .i64)), .fix (.sref 1), .fix (.sref 2), .fix (.sref 3)], .sl (.int .i64), .sl (.int .i64), .sl (.int .i64)], [0]⟩
def simpl_residual_push_l0x1 : LS := ⟨[(0, .one (.fix (.ptr 0 0)))], [.box [.dat (.slice (.slice (.int .i64))), .dat (.slice (.int .i64)), .fix (.sref 1), .fix (.sref 2), .fix (.sref 3)], .sl (.int .i64), .sl (.int .i64), .sl (.int .i64)], [0]⟩
def ximpl_residual_push_l0 : List (XS (Int × Int)) := [⟨.ret, ⟨[0, 6], [.slot 0, .cell 0 2, .cell 0 3, .cell 0 4], [0], []⟩, simpl_residual_push_l0x0, Int × (List (List Int)) × (List Int) × (List Int) × (List Int) × (List Int), fun i y => (((), (y.1, ())), ((y.2.1, (y.2.2.1, ((), ((), ((), ()))))), (y.2.2.2.1, (y.2.2.2.2.1, (y.2.2.2.2.2, ())))))⟩,
  ⟨.exit 0, ⟨[0], [.slot 0, .cell 0 2, .cell 0 3, .cell 0 4], [0], []⟩, simpl_residual_push_l0x1, (List (List Int)) × (List Int) × (List Int) × (List Int) × (List Int), fun i y => (((), ()), ((y.1, (y.2.1, ((), ((), ((), ()))))), (y.2.2.1, (y.2.2.2.1, (y.2.2.2.2, ())))))⟩]
def impl_residual_push_l0K {R : Type} (slf : (((List (List Int)) × (List Int) × (List Int) × (List Int) × (List Int)) × Int × Int) → Option (Int × ((List (List Int)) × (List Int) × (List Int) × (List Int) × (List Int)))) (a0 : Int) (a1 : Int) (rc : List (List Int) → List Int → List Int → List Int → List Int → Option R) (fin : ((Int × (List (List Int)) × (List Int) × (List Int) × (List Int) × (List Int)) ⊕ ((List (List Int)) × (List Int) × (List Int) × (List Int) × (List Int))) → Option R) (a2 : List (List Int)) (a3 : List Int) (a4 : List Int) (a5 : List Int) (a6 : List Int) : Option R :=
  cond (decide ((0 : Int) ≤ a0) && decide (a0 < (a6.length : Int)))
  ((lat a2 a0).bind fun e1 =>
    cond (decide ((a6.getD (0 + a0.toNat) 0) < (e1.length : Int)))
    ((lat a2 a0).bind fun e2 =>
      cond (decide ((0 : Int) ≤ a0) && decide (a0 < (a6.length : Int)))
      ((lat e2 (a6.getD (0 + a0.toNat) 0)).bind fun e3 =>
        cond (decide ((0 : Int) ≤ e3) && decide (e3 < (a4.length : Int)))
        (cond ((a4.getD (0 + e3.toNat) 0) == 0)
          (cond (decide ((0 : Int) ≤ a0) && decide (a0 < (a6.length : Int)))
            (cond (decide ((0 : Int) ≤ a0) && decide (a0 < (a6.length : Int)))
              ((some (a6.set (0 + a0.toNat) (IntKind.i64.wrap ((a6.getD (0 + a0.toNat) 0) + 1)))).bind fun v4 =>
                rc a2 a3 a4 a5 v4)
              (none))
            (none))
          ((lat a3 e3).bind fun e5 =>
            cond (decide ((0 : Int) ≤ e5) && decide (e5 < (a5.length : Int)))
            (cond (decide ((0 : Int) ≤ a0) && decide (a0 < (a5.length : Int)))
              (cond ((a5.getD (0 + e5.toNat) 0) != (IntKind.i64.wrap ((a5.getD (0 + a0.toNat) 0) + 1)))
                (cond (decide ((0 : Int) ≤ a0) && decide (a0 < (a6.length : Int)))
                  (cond (decide ((0 : Int) ≤ a0) && decide (a0 < (a6.length : Int)))
                    ((some (a6.set (0 + a0.toNat) (IntKind.i64.wrap ((a6.getD (0 + a0.toNat) 0) + 1)))).bind fun v6 =>
                      rc a2 a3 a4 a5 v6)
                    (none))
                  (none))
                ((lat a3 e3).bind fun e7 =>
                  cond (decide ((0 : Int) ≤ e3) && decide (e3 < (a4.length : Int)))
                  ((slf ((a2, (a3, (a4, (a5, a6)))), (e7, if (a4.getD (0 + e3.toNat) 0) < a1 then a4.getD (0 + e3.toNat) 0 else a1))).bind fun y8 =>
                    cond (decide (y8.1 > 0))
                    (cond (decide ((0 : Int) ≤ e3) && decide (e3 < (y8.2.2.2.1.length : Int)))
                      (cond (decide ((0 : Int) ≤ e3) && decide (e3 < (y8.2.2.2.1.length : Int)))
                        ((some (y8.2.2.2.1.set (0 + e3.toNat) (IntKind.i64.wrap ((y8.2.2.2.1.getD (0 + e3.toNat) 0) - y8.1)))).bind fun v9 =>
                          cond (decide ((0 : Int) ≤ xorI .i64 e3 1) && decide (xorI .i64 e3 1 < (v9.length : Int)))
                          (cond (decide ((0 : Int) ≤ xorI .i64 e3 1) && decide (xorI .i64 e3 1 < (v9.length : Int)))
                            ((some (v9.set (0 + (xorI .i64 e3 1).toNat) (IntKind.i64.wrap ((v9.getD (0 + (xorI .i64 e3 1).toNat) 0) + y8.1)))).bind fun v10 =>
                              fin (.inl (y8.1, (y8.2.1, (y8.2.2.1, (v10, y8.2.2.2.2))))))
                            (none))
                          (none))
                        (none))
                      (none))
                    (cond (decide ((0 : Int) ≤ a0) && decide (a0 < (y8.2.2.2.2.2.length : Int)))
                      (cond (decide ((0 : Int) ≤ a0) && decide (a0 < (y8.2.2.2.2.2.length : Int)))
                        ((some (y8.2.2.2.2.2.set (0 + a0.toNat) (IntKind.i64.wrap ((y8.2.2.2.2.2.getD (0 + a0.toNat) 0) + 1)))).bind fun v11 =>
                          rc y8.2.1 y8.2.2.1 y8.2.2.2.1 y8.2.2.2.2.1 v11)
                        (none))
                      (none)))
                  (none)))
              (none))
            (none)))
        (none))
      (none))
    (fin (.inr (a2, (a3, (a4, (a5, a6)))))))
  (none)
def impl_residual_push_l0F (slf : (((List (List Int)) × (List Int) × (List Int) × (List Int) × (List Int)) × Int × Int) → Option (Int × ((List (List Int)) × (List Int) × (List Int) × (List Int) × (List Int)))) (a0 : Int) (a1 : Int) (r : ((List (List Int)) × (List Int) × (List Int) × (List Int) × (List Int)) → Option ((Int × (List (List Int)) × (List Int) × (List Int) × (List Int) × (List Int)) ⊕ ((List (List Int)) × (List Int) × (List Int) × (List Int) × (List Int)))) (x : (List (List Int)) × (List Int) × (List Int) × (List Int) × (List Int)) : Option ((Int × (List (List Int)) × (List Int) × (List Int) × (List Int) × (List Int)) ⊕ ((List (List Int)) × (List Int) × (List Int) × (List Int) × (List Int))) := impl_residual_push_l0K slf a0 a1 (fun a2 a3 a4 a5 a6 => r (a2, (a3, (a4, (a5, a6))))) some x.1 x.2.1 x.2.2.1 x.2.2.2.1 x.2.2.2.2
theorem impl_residual_push_l0c (slf : (((List (List Int)) × (List Int) × (List Int) × (List Int) × (List Int)) × Int × Int) → Option (Int × ((List (List Int)) × (List Int) × (List Int) × (List Int) × (List Int)))) (a0 : Int) (a1 : Int) (x : (List (List Int)) × (List Int) × (List Int) × (List Int) × (List Int)) : Ct fun r => impl_residual_push_l0F slf a0 a1 r x := by
  unfold impl_residual_push_l0F impl_residual_push_l0K
  repeat' (first | exact Ct.const | exact Ct.call | refine Ct.cond ?_ ?_ | refine Ct.bind ?_ fun _ => ?_ | refine Ct.sum (fun _ => ?_) fun _ => ?_)
theorem impl_residual_push_l0d (a0 : Int) (a1 : Int) (D : ((List (List Int)) × (List Int) × (List Int) × (List Int) × (List Int)) → ((((List (List Int)) × (List Int) × (List Int) × (List Int) × (List Int)) × Int × Int) → Option (Int × ((List (List Int)) × (List Int) × (List Int) × (List Int) × (List Int)))) → Option ((Int × (List (List Int)) × (List Int) × (List Int) × (List Int) × (List Int)) ⊕ ((List (List Int)) × (List Int) × (List Int) × (List Int) × (List Int)))) (hD : ∀ a, Ct (D a)) (x : (List (List Int)) × (List Int) × (List Int) × (List Int) × (List Int)) : Ct fun slf => impl_residual_push_l0F slf a0 a1 (fun a => D a slf) x := by
  unfold impl_residual_push_l0F impl_residual_push_l0K
  repeat' (first | exact Ct.const | exact Ct.call | exact hD _ | refine Ct.cond ?_ ?_ | refine Ct.bind ?_ fun _ => ?_ | refine Ct.sum (fun _ => ?_) fun _ => ?_)
def impl_residual_push_l0 (slf : (((List (List Int)) × (List Int) × (List Int) × (List Int) × (List Int)) × Int × Int) → Option (Int × ((List (List Int)) × (List Int) × (List Int) × (List Int) × (List Int)))) (a0 : Int) (a1 : Int) (a2 : List (List Int)) (a3 : List Int) (a4 : List Int) (a5 : List Int) (a6 : List Int) : Option ((Int × (List (List Int)) × (List Int) × (List Int) × (List Int) × (List Int)) ⊕ ((List (List Int)) × (List Int) × (List Int) × (List Int) × (List Int))) := lim (impl_residual_push_l0F slf a0 a1) (a2, (a3, (a4, (a5, a6))))
theorem impl_residual_push_l0_eq (slf : (((List (List Int)) × (List Int) × (List Int) × (List Int) × (List Int)) × Int × Int) → Option (Int × ((List (List Int)) × (List Int) × (List Int) × (List Int) × (List Int)))) (a0 : Int) (a1 : Int) (a2 : List (List Int)) (a3 : List Int) (a4 : List Int) (a5 : List Int) (a6 : List Int) : impl_residual_push_l0 slf a0 a1 a2 a3 a4 a5 a6 = impl_residual_push_l0K slf a0 a1 (impl_residual_push_l0 slf a0 a1) some a2 a3 a4 a5 a6 := lim_eq (impl_residual_push_l0c slf a0 a1) (a2, (a3, (a4, (a5, a6))))
theorem impl_residual_push_l0s (a0 : Int) (a1 : Int) (x : (List (List Int)) × (List Int) × (List Int) × (List Int) × (List Int)) : Ct fun slf => lim (impl_residual_push_l0F slf a0 a1) x := Ct.lim (fun slf a => impl_residual_push_l0c slf a0 a1 a) (impl_residual_push_l0d a0 a1) x
theorem impl_residual_push_l0p {R : Type} (slf : (((List (List Int)) × (List Int) × (List Int) × (List Int) × (List Int)) × Int × Int) → Option (Int × ((List (List Int)) × (List Int) × (List Int) × (List Int) × (List Int)))) (a0 : Int) (a1 : Int) {rc : List (List Int) → List Int → List Int → List Int → List Int → Option ((Int × (List (List Int)) × (List Int) × (List Int) × (List Int) × (List Int)) ⊕ ((List (List Int)) × (List Int) × (List Int) × (List Int) × (List Int)))} {rc' : List (List Int) → List Int → List Int → List Int → List Int → Option R} {fin : ((Int × (List (List Int)) × (List Int) × (List Int) × (List Int) × (List Int)) ⊕ ((List (List Int)) × (List Int) × (List Int) × (List Int) × (List Int))) → Option R} (hr : ∀ a2 a3 a4 a5 a6, Par fin (rc a2 a3 a4 a5 a6) (rc' a2 a3 a4 a5 a6)) (a2 : List (List Int)) (a3 : List Int) (a4 : List Int) (a5 : List Int) (a6 : List Int) : Par fin (impl_residual_push_l0K slf a0 a1 rc some a2 a3 a4 a5 a6) (impl_residual_push_l0K slf a0 a1 rc' fin a2 a3 a4 a5 a6) := by
  unfold impl_residual_push_l0K
  repeat' (first | exact .fin | exact .none | exact hr _ _ _ _ _ | refine .cond ?_ ?_ | refine .bind fun _ => ?_ | refine .sum (fun _ => ?_) fun _ => ?_)
def Limpl_residual_push_l0 (slf : (((List (List Int)) × (List Int) × (List Int) × (List Int) × (List Int)) × Int × Int) → Option (Int × ((List (List Int)) × (List Int) × (List Int) × (List Int) × (List Int)))) : Loop := mkL ⟨[0, 1, 2], [.slot 0, .cell 0 2, .cell 0 3, .cell 0 4], [0], []⟩ simpl_residual_push_l0 ximpl_residual_push_l0 (fun (x : (Unit × Int × Int × Unit) × (((List (List Int)) × (List Int) × Unit × Unit × Unit × Unit) × (List Int) × (List Int) × (List Int) × Unit)) => (x.1.2.1, x.1.2.2.1)) fun (x : (Unit × Int × Int × Unit) × (((List (List Int)) × (List Int) × Unit × Unit × Unit × Unit) × (List Int) × (List Int) × (List Int) × Unit)) => impl_residual_push_l0 slf x.1.2.1 x.1.2.2.1 x.2.1.1 x.2.1.2.1 x.2.2.1 x.2.2.2.1 x.2.2.2.2.1
def impl_residual_pushK {R : Type} (slf : (((List (List Int)) × (List Int) × (List Int) × (List Int) × (List Int)) × Int × Int) → Option (Int × ((List (List Int)) × (List Int) × (List Int) × (List Int) × (List Int)))) (fin : Int × ((List (List Int)) × (List Int) × (List Int) × (List Int) × (List Int)) → Option R) (x0 : (List (List Int)) × (List Int) × (List Int) × (List Int) × (List Int)) (x1 : Int) (x2 : Int) : Option R :=
  cond (x1 == (IntKind.i64.wrap ((x0.1.length : Int) - 1)))
  (fin (x2, x0))
  ((impl_residual_push_l0 slf x1 x2 x0.1 x0.2.1 x0.2.2.1 x0.2.2.2.1 x0.2.2.2.2).bind fun y12 =>
    sumO y12 (fun y13 =>
    fin y13)
    (fun y14 =>
    fin (0, y14)))
def impl_residual_pushF (slf : (((List (List Int)) × (List Int) × (List Int) × (List Int) × (List Int)) × Int × Int) → Option (Int × ((List (List Int)) × (List Int) × (List Int) × (List Int) × (List Int)))) (x : ((List (List Int)) × (List Int) × (List Int) × (List Int) × (List Int)) × Int × Int) : Option (Int × ((List (List Int)) × (List Int) × (List Int) × (List Int) × (List Int))) := impl_residual_pushK slf some x.1 x.2.1 x.2.2
theorem impl_residual_pushc (x : ((List (List Int)) × (List Int) × (List Int) × (List Int) × (List Int)) × Int × Int) : Ct fun slf => impl_residual_pushF slf x := by
  unfold impl_residual_pushF impl_residual_pushK
  repeat' (first | exact Ct.const | exact Ct.call | exact impl_residual_push_l0s _ _ _ | refine Ct.cond ?_ ?_ | refine Ct.bind ?_ fun _ => ?_ | refine Ct.sum (fun _ => ?_) fun _ => ?_)
def impl_residual_push (x0 : (List (List Int)) × (List Int) × (List Int) × (List Int) × (List Int)) (x1 : Int) (x2 : Int) : Option (Int × ((List (List Int)) × (List Int) × (List Int) × (List Int) × (List Int))) := lim impl_residual_pushF (x0, (x1, x2))
theorem impl_residual_push_eq (x0 : (List (List Int)) × (List Int) × (List Int) × (List Int) × (List Int)) (x1 : Int) (x2 : Int) : impl_residual_push x0 x1 x2 = impl_residual_pushK (fun x => impl_residual_push x.1 x.2.1 x.2.2) some x0 x1 x2 := lim_eq impl_residual_pushc (x0, (x1, x2))
theorem p115 {R : Type} (slf : (((List (List Int)) × (List Int) × (List Int) × (List Int) × (List Int)) × Int × Int) → Option (Int × ((List (List Int)) × (List Int) × (List Int) × (List Int) × (List Int)))) (fin : Int × ((List (List Int)) × (List Int) × (List Int) × (List Int) × (List Int)) → Option R) (x0 : (List (List Int)) × (List Int) × (List Int) × (List Int) × (List Int)) (x1 : Int) (x2 : Int) : Par fin (impl_residual_pushK slf some x0 x1 x2) (impl_residual_pushK slf fin x0 x1 x2) := by
  unfold impl_residual_pushK
  repeat' (first | exact .fin | exact .none | refine .cond ?_ ?_ | refine .bind fun _ => ?_ | refine .sum (fun _ => ?_) fun _ => ?_)
def or115 (slf : (((List (List Int)) × (List Int) × (List Int) × (List Int) × (List Int)) × Int × Int) → Option (Int × ((List (List Int)) × (List Int) × (List Int) × (List Int) × (List Int)))) : Ora := { lo := addL 3 (Limpl_residual_push_l0 slf) lo0, fin := [] }
theorem impl_residual_push_l0e (slf : (((List (List Int)) × (List Int) × (List Int) × (List Int) × (List Int)) × Int × Int) → Option (Int × ((List (List Int)) × (List Int) × (List Int) × (List Int) × (List Int)))) (a0 : Int) (a1 : Int) (k : Nat) (a2 : List (List Int)) (a3 : List Int) (a4 : List Int) (a5 : List Int) (a6 : List Int) : loopC Try.prog (addE 115 (mkC [.box [.ro (.slice (.slice (.int .i64))), .ro (.slice (.int .i64)), .sl (.int .i64), .sl (.int .i64), .sl (.int .i64)], .one (.ro (.int .i64)), .one (.ro (.int .i64))] 1 [.one (.ro (.int .i64)), .box [.ro (.slice (.slice (.int .i64))), .ro (.slice (.int .i64)), .sl (.int .i64), .sl (.int .i64), .sl (.int .i64)]] slf) EL115) (or115 slf) ((loopsIn (codeOf Try.f115)).getD 0 .skip) (Limpl_residual_push_l0 slf).h (Limpl_residual_push_l0 slf).ho Try.f115.ntmps (k + 1) (simpl_residual_push_l0.out (((), (a0, (a1, ()))), ((a2, (a3, ((), ((), ((), ()))))), (a4, (a5, (a6, ())))))) =
    impl_residual_push_l0K slf a0 a1 (fun a2 a3 a4 a5 a6 => loopC Try.prog (addE 115 (mkC [.box [.ro (.slice (.slice (.int .i64))), .ro (.slice (.int .i64)), .sl (.int .i64), .sl (.int .i64), .sl (.int .i64)], .one (.ro (.int .i64)), .one (.ro (.int .i64))] 1 [.one (.ro (.int .i64)), .box [.ro (.slice (.slice (.int .i64))), .ro (.slice (.int .i64)), .sl (.int .i64), .sl (.int .i64), .sl (.int .i64)]] slf) EL115) (or115 slf) ((loopsIn (codeOf Try.f115)).getD 0 .skip) (Limpl_residual_push_l0 slf).h (Limpl_residual_push_l0 slf).ho Try.f115.ntmps k (simpl_residual_push_l0.out (((), (a0, (a1, ()))), ((a2, (a3, ((), ((), ((), ()))))), (a4, (a5, (a6, ()))))))) (fun y => some (XS.out ximpl_residual_push_l0 (a0, a1) y)) a2 a3 a4 a5 a6 := by kernel_rfl
theorem impl_residual_push_l0o (slf : (((List (List Int)) × (List Int) × (List Int) × (List Int) × (List Int)) × Int × Int) → Option (Int × ((List (List Int)) × (List Int) × (List Int) × (List Int) × (List Int)))) : LoopOk Try.prog (addE 115 (mkC [.box [.ro (.slice (.slice (.int .i64))), .ro (.slice (.int .i64)), .sl (.int .i64), .sl (.int .i64), .sl (.int .i64)], .one (.ro (.int .i64)), .one (.ro (.int .i64))] 1 [.one (.ro (.int .i64)), .box [.ro (.slice (.slice (.int .i64))), .ro (.slice (.int .i64)), .sl (.int .i64), .sl (.int .i64), .sl (.int .i64)]] slf) EL115) (or115 slf) Try.f115.ntmps ((loopsIn (codeOf Try.f115)).getD 0 .skip) (Limpl_residual_push_l0 slf) :=
  loop_lim (hs := simpl_residual_push_l0) (xs := ximpl_residual_push_l0) (ι := fun (x : (Unit × Int × Int × Unit) × (((List (List Int)) × (List Int) × Unit × Unit × Unit × Unit) × (List Int) × (List Int) × (List Int) × Unit)) => (x.1.2.1, x.1.2.2.1)) (φ := fun (x : (Unit × Int × Int × Unit) × (((List (List Int)) × (List Int) × Unit × Unit × Unit × Unit) × (List Int) × (List Int) × (List Int) × Unit)) => (x.2.1.1, (x.2.1.2.1, (x.2.2.1, (x.2.2.2.1, x.2.2.2.2.1))))) (ψ := fun (i : Int × Int) (v : (List (List Int)) × (List Int) × (List Int) × (List Int) × (List Int)) => (((), (i.1, (i.2, ()))), ((v.1, (v.2.1, ((), ((), ((), ()))))), (v.2.2.1, (v.2.2.2.1, (v.2.2.2.2, ())))))) (F := fun (i : Int × Int) => impl_residual_push_l0F slf i.1 i.2) (fun _ => rfl) fun i k hk v => Par.of_eq (impl_residual_push_l0e slf i.1 i.2 k v.1 v.2.1 v.2.2.1 v.2.2.2.1 v.2.2.2.2) (impl_residual_push_l0p slf i.1 i.2 (fun a2 a3 a4 a5 a6 => hk (a2, (a3, (a4, (a5, a6))))) v.1 v.2.1 v.2.2.1 v.2.2.2.1 v.2.2.2.2)
def c115 : Callee := mkC [.box [.ro (.slice (.slice (.int .i64))), .ro (.slice (.int .i64)), .sl (.int .i64), .sl (.int .i64), .sl (.int .i64)], .one (.ro (.int .i64)), .one (.ro (.int .i64))] 1 [.one (.ro (.int .i64)), .box [.ro (.slice (.slice (.int .i64))), .ro (.slice (.int .i64)), .sl (.int .i64), .sl (.int .i64), .sl (.int .i64)]] fun x => impl_residual_push x.1 x.2.1 x.2.2
theorem e115 (slf : (((List (List Int)) × (List Int) × (List Int) × (List Int) × (List Int)) × Int × Int) → Option (Int × ((List (List Int)) × (List Int) × (List Int) × (List Int) × (List Int)))) (x : PK.dens [.box [.ro (.slice (.slice (.int .i64))), .ro (.slice (.int .i64)), .sl (.int .i64), .sl (.int .i64), .sl (.int .i64)], .one (.ro (.int .i64)), .one (.ro (.int .i64))]) : evalFn Try.prog (addE 115 (mkC [.box [.ro (.slice (.slice (.int .i64))), .ro (.slice (.int .i64)), .sl (.int .i64), .sl (.int .i64), .sl (.int .i64)], .one (.ro (.int .i64)), .one (.ro (.int .i64))] 1 [.one (.ro (.int .i64)), .box [.ro (.slice (.slice (.int .i64))), .ro (.slice (.int .i64)), .sl (.int .i64), .sl (.int .i64), .sl (.int .i64)]] slf) EL115) (or115 slf) Try.f115 (PK.outs [.box [.ro (.slice (.slice (.int .i64))), .ro (.slice (.int .i64)), .sl (.int .i64), .sl (.int .i64), .sl (.int .i64)], .one (.ro (.int .i64)), .one (.ro (.int .i64))] x) =
    impl_residual_pushK slf (fun y => some (tupOf ((PK.outs [.one (.ro (.int .i64)), .box [.ro (.slice (.slice (.int .i64))), .ro (.slice (.int .i64)), .sl (.int .i64), .sl (.int .i64), .sl (.int .i64)]] y).take 1), (PK.outs [.one (.ro (.int .i64)), .box [.ro (.slice (.slice (.int .i64))), .ro (.slice (.int .i64)), .sl (.int .i64), .sl (.int .i64), .sl (.int .i64)]] y).drop 1)) x.1 x.2.1 x.2.2 := by kernel_rfl
theorem o115 (slf : (((List (List Int)) × (List Int) × (List Int) × (List Int) × (List Int)) × Int × Int) → Option (Int × ((List (List Int)) × (List Int) × (List Int) × (List Int) × (List Int)))) : LoOk Try.prog (addE 115 (mkC [.box [.ro (.slice (.slice (.int .i64))), .ro (.slice (.int .i64)), .sl (.int .i64), .sl (.int .i64), .sl (.int .i64)], .one (.ro (.int .i64)), .one (.ro (.int .i64))] 1 [.one (.ro (.int .i64)), .box [.ro (.slice (.slice (.int .i64))), .ro (.slice (.int .i64)), .sl (.int .i64), .sl (.int .i64), .sl (.int .i64)]] slf) EL115) (or115 slf) Try.f115.ntmps (loopsIn (codeOf Try.f115)) :=
  LoOk.mk (m := 1) (by kernel_rfl) fun i hi => match i, hi with
    | 0, _ => ⟨Limpl_residual_push_l0 slf, by kernel_rfl, impl_residual_push_l0o slf⟩
    | i + 1, hi => absurd hi (by omega)
theorem k115 : CalleeOk Try.prog 115 c115 := callee_rec (ps := [.box [.ro (.slice (.slice (.int .i64))), .ro (.slice (.int .i64)), .sl (.int .i64), .sl (.int .i64), .sl (.int .i64)], .one (.ro (.int .i64)), .one (.ro (.int .i64))]) (rs := [.one (.ro (.int .i64)), .box [.ro (.slice (.slice (.int .i64))), .ro (.slice (.int .i64)), .sl (.int .i64), .sl (.int .i64), .sl (.int .i64)]]) (F := impl_residual_pushF) fun slf hs => callee_mk Try.func115 (code := codeOf Try.f115) (by kernel_rfl) (vL115.add Try.func115 rfl (by kernel_rfl) hs) mixed (o115 slf) fun x y h => (e115 slf x).trans (p115 slf _ x.1 x.2.1 x.2.2 y h)

/-- impl.residual).run -/
def EL95 : Nat → Option Callee := addE 115 c115 (addE 96 c96 env0)
theorem vL95 : EnvOk Try.prog EL95 := (EnvOk.nil.add Try.func96 rfl (by kernel_rfl) k96).add Try.func115 rfl (by kernel_rfl) k115
def simpl_residual_run_l1 : LS := ⟨[(0, .one (.fix (.ptr 0 0))), (3, .one (.dat (.int .i64)))], [.box [.dat (.slice (.slice (.int .i64))), .dat (.slice (.int .i64)), .fix (.sref 1), .fix (.sref 2), .fix (.sref 3)], .sl (.int .i64), .sl (.int .i64), .sl (.int .i64)], [0]⟩
def simpl_residual_run_l1x0 : LS := ⟨[(0, .one (.fix (.ptr 0 0))), (3, .one (.dat (.int .i64)))], [.box [.dat (.slice (.slice (.int .i64))), .dat (.slice (.int .i64)), .fix (.sref 1), .fix (.sref 2), .fix (.sref 3)], .sl (.int .i64), .sl (.int .i64), .sl (.int .i64)], [0]⟩
def ximpl_residual_run_l1 : List (XS (Unit)) := [⟨.exit 2, ⟨[0, 3], [.slot 0, .cell 0 2, .cell 0 3, .cell 0 4], [0], []⟩, simpl_residual_run_l1x0, Int × (List (List Int)) × (List Int) × (List Int) × (List Int) × (List Int), fun i y => (((), (y.1, ())), ((y.2.1, (y.2.2.1, ((), ((), ((), ()))))), (y.2.2.2.1, (y.2.2.2.2.1, (y.2.2.2.2.2, ())))))⟩]
def impl_residual_run_l1K {R : Type} (rc : Int → List (List Int) → List Int → List Int → List Int → List Int → Option R) (fin : Int × (List (List Int)) × (List Int) × (List Int) × (List Int) × (List Int) → Option R) (a0 : Int) (a1 : List (List Int)) (a2 : List Int) (a3 : List Int) (a4 : List Int) (a5 : List Int) : Option R :=
  (impl_residual_push (a1, (a2, (a3, (a4, a5)))) 0 1152921504606846976).bind fun y1 =>
  cond (y1.1 == 0)
  (fin (a0, y1.2))
  (rc (IntKind.i64.wrap (a0 + y1.1)) y1.2.1 y1.2.2.1 y1.2.2.2.1 y1.2.2.2.2.1 y1.2.2.2.2.2)
def impl_residual_run_l1F (r : (Int × (List (List Int)) × (List Int) × (List Int) × (List Int) × (List Int)) → Option (Int × (List (List Int)) × (List Int) × (List Int) × (List Int) × (List Int))) (x : Int × (List (List Int)) × (List Int) × (List Int) × (List Int) × (List Int)) : Option (Int × (List (List Int)) × (List Int) × (List Int) × (List Int) × (List Int)) := impl_residual_run_l1K (fun a0 a1 a2 a3 a4 a5 => r (a0, (a1, (a2, (a3, (a4, a5)))))) some x.1 x.2.1 x.2.2.1 x.2.2.2.1 x.2.2.2.2.1 x.2.2.2.2.2
theorem impl_residual_run_l1c (x : Int × (List (List Int)) × (List Int) × (List Int) × (List Int) × (List Int)) : Ct fun r => impl_residual_run_l1F r x := by
  unfold impl_residual_run_l1F impl_residual_run_l1K
  repeat' (first | exact Ct.const | exact Ct.call | refine Ct.cond ?_ ?_ | refine Ct.bind ?_ fun _ => ?_ | refine Ct.sum (fun _ => ?_) fun _ => ?_)
def impl_residual_run_l1 (a0 : Int) (a1 : List (List Int)) (a2 : List Int) (a3 : List Int) (a4 : List Int) (a5 : List Int) : Option (Int × (List (List Int)) × (List Int) × (List Int) × (List Int) × (List Int)) := lim (impl_residual_run_l1F) (a0, (a1, (a2, (a3, (a4, a5)))))
theorem impl_residual_run_l1_eq (a0 : Int) (a1 : List (List Int)) (a2 : List Int) (a3 : List Int) (a4 : List Int) (a5 : List Int) : impl_residual_run_l1 a0 a1 a2 a3 a4 a5 = impl_residual_run_l1K (impl_residual_run_l1) some a0 a1 a2 a3 a4 a5 := lim_eq (impl_residual_run_l1c) (a0, (a1, (a2, (a3, (a4, a5)))))
theorem impl_residual_run_l1p {R : Type} {rc : Int → List (List Int) → List Int → List Int → List Int → List Int → Option (Int × (List (List Int)) × (List Int) × (List Int) × (List Int) × (List Int))} {rc' : Int → List (List Int) → List Int → List Int → List Int → List Int → Option R} {fin : Int × (List (List Int)) × (List Int) × (List Int) × (List Int) × (List Int) → Option R} (hr : ∀ a0 a1 a2 a3 a4 a5, Par fin (rc a0 a1 a2 a3 a4 a5) (rc' a0 a1 a2 a3 a4 a5)) (a0 : Int) (a1 : List (List Int)) (a2 : List Int) (a3 : List Int) (a4 : List Int) (a5 : List Int) : Par fin (impl_residual_run_l1K rc some a0 a1 a2 a3 a4 a5) (impl_residual_run_l1K rc' fin a0 a1 a2 a3 a4 a5) := by
  unfold impl_residual_run_l1K
  repeat' (first | exact .fin | exact .none | exact hr _ _ _ _ _ _ | refine .cond ?_ ?_ | refine .bind fun _ => ?_ | refine .sum (fun _ => ?_) fun _ => ?_)
def Limpl_residual_run_l1 : Loop := mkL ⟨[0, 3], [.slot 0, .cell 0 2, .cell 0 3, .cell 0 4], [0], []⟩ simpl_residual_run_l1 ximpl_residual_run_l1 (fun (x : (Unit × Int × Unit) × (((List (List Int)) × (List Int) × Unit × Unit × Unit × Unit) × (List Int) × (List Int) × (List Int) × Unit)) => ()) fun (x : (Unit × Int × Unit) × (((List (List Int)) × (List Int) × Unit × Unit × Unit × Unit) × (List Int) × (List Int) × (List Int) × Unit)) => impl_residual_run_l1 x.1.2.1 x.2.1.1 x.2.1.2.1 x.2.2.1 x.2.2.2.1 x.2.2.2.2.1
def simpl_residual_run_l0 : LS := ⟨[(0, .one (.fix (.ptr 0 0))), (3, .one (.dat (.int .i64)))], [.box [.dat (.slice (.slice (.int .i64))), .dat (.slice (.int .i64)), .fix (.sref 1), .fix (.sref 2), .fix (.sref 3)], .sl (.int .i64), .sl (.int .i64), .sl (.int .i64)], [0]⟩
def simpl_residual_run_l0x0 : LS := ⟨[(0, .one (.fix (.ptr 0 0))), (3, .one (.dat (.int .i64)))], [.box [.dat (.slice (.slice (.int .i64))), .dat (.slice (.int .i64)), .fix (.sref 1), .fix (.sref 2), .fix (.sref 3)], .sl (.int .i64), .sl (.int .i64), .sl (.int .i64)], [0]⟩
def ximpl_residual_run_l0 : List (XS (Unit)) := [⟨.exit 0, ⟨[0, 3], [.slot 0, .cell 0 2, .cell 0 3, .cell 0 4], [0], []⟩, simpl_residual_run_l0x0, Int × (List (List Int)) × (List Int) × (List Int) × (List Int) × (List Int), fun i y => (((), (y.1, ())), ((y.2.1, (y.2.2.1, ((), ((), ((), ()))))), (y.2.2.2.1, (y.2.2.2.2.1, (y.2.2.2.2.2, ())))))⟩]
def impl_residual_run_l0K {R : Type} (rc : Int → List (List Int) → List Int → List Int → List Int → List Int → Option R) (fin : Int × (List (List Int)) × (List Int) × (List Int) × (List Int) × (List Int) → Option R) (a0 : Int) (a1 : List (List Int)) (a2 : List Int) (a3 : List Int) (a4 : List Int) (a5 : List Int) : Option R :=
  (impl_residual_fromSource (a1, (a2, (a3, (a4, a5))))).bind fun y1 =>
  cond (eqP y1.2.1 a1 && true)
  (cond (decide ((0 : Int) ≤ IntKind.i64.wrap ((a1.length : Int) - 1)) && decide (IntKind.i64.wrap ((a1.length : Int) - 1) < (y1.1.length : Int)))
    (cond (y1.1.getD (0 + (IntKind.i64.wrap ((a1.length : Int) - 1)).toNat) false)
      (cond (decide ((0 : Int) ≤ (y1.2.1.length : Int)) && (decide ((y1.2.1.length : Int) ≤ (y1.2.1.length : Int)) && decide ((y1.2.1.length : Int) ≤ 1099511627776)))
        ((some ((List.replicate ((y1.2.1.length : Int).toNat) 0 : List Int))).bind fun v2 =>
          (impl_residual_run_l1 a0 y1.2.1 y1.2.2.1 y1.2.2.2.1 y1.2.2.2.2.1 v2).bind fun y4 =>
          rc y4.1 y4.2.1 y4.2.2.1 y4.2.2.2.1 y4.2.2.2.2.1 y4.2.2.2.2.2)
        (none))
      (fin (a0, y1.2)))
    (none))
  (none)
def impl_residual_run_l0F (r : (Int × (List (List Int)) × (List Int) × (List Int) × (List Int) × (List Int)) → Option (Int × (List (List Int)) × (List Int) × (List Int) × (List Int) × (List Int))) (x : Int × (List (List Int)) × (List Int) × (List Int) × (List Int) × (List Int)) : Option (Int × (List (List Int)) × (List Int) × (List Int) × (List Int) × (List Int)) := impl_residual_run_l0K (fun a0 a1 a2 a3 a4 a5 => r (a0, (a1, (a2, (a3, (a4, a5)))))) some x.1 x.2.1 x.2.2.1 x.2.2.2.1 x.2.2.2.2.1 x.2.2.2.2.2
theorem impl_residual_run_l0c (x : Int × (List (List Int)) × (List Int) × (List Int) × (List Int) × (List Int)) : Ct fun r => impl_residual_run_l0F r x := by
  unfold impl_residual_run_l0F impl_residual_run_l0K
  repeat' (first | exact Ct.const | exact Ct.call | refine Ct.cond ?_ ?_ | refine Ct.bind ?_ fun _ => ?_ | refine Ct.sum (fun _ => ?_) fun _ => ?_)
def impl_residual_run_l0 (a0 : Int) (a1 : List (List Int)) (a2 : List Int) (a3 : List Int) (a4 : List Int) (a5 : List Int) : Option (Int × (List (List Int)) × (List Int) × (List Int) × (List Int) × (List Int)) := lim (impl_residual_run_l0F) (a0, (a1, (a2, (a3, (a4, a5)))))
theorem impl_residual_run_l0_eq (a0 : Int) (a1 : List (List Int)) (a2 : List Int) (a3 : List Int) (a4 : List Int) (a5 : List Int) : impl_residual_run_l0 a0 a1 a2 a3 a4 a5 = impl_residual_run_l0K (impl_residual_run_l0) some a0 a1 a2 a3 a4 a5 := lim_eq (impl_residual_run_l0c) (a0, (a1, (a2, (a3, (a4, a5)))))
theorem impl_residual_run_l0p {R : Type} {rc : Int → List (List Int) → List Int → List Int → List Int → List Int → Option (Int × (List (List Int)) × (List Int) × (List Int) × (List Int) × (List Int))} {rc' : Int → List (List Int) → List Int → List Int → List Int → List Int → Option R} {fin : Int × (List (List Int)) × (List Int) × (List Int) × (List Int) × (List Int) → Option R} (hr : ∀ a0 a1 a2 a3 a4 a5, Par fin (rc a0 a1 a2 a3 a4 a5) (rc' a0 a1 a2 a3 a4 a5)) (a0 : Int) (a1 : List (List Int)) (a2 : List Int) (a3 : List Int) (a4 : List Int) (a5 : List Int) : Par fin (impl_residual_run_l0K rc some a0 a1 a2 a3 a4 a5) (impl_residual_run_l0K rc' fin a0 a1 a2 a3 a4 a5) := by
  unfold impl_residual_run_l0K
  repeat' (first | exact .fin | exact .none | exact hr _ _ _ _ _ _ | refine .cond ?_ ?_ | refine .bind fun _ => ?_ | refine .sum (fun _ => ?_) fun _ => ?_)
def Limpl_residual_run_l0 : Loop := mkL ⟨[0, 3], [.slot 0, .cell 0 2, .cell 0 3, .cell 0 4], [0], []⟩ simpl_residual_run_l0 ximpl_residual_run_l0 (fun (x : (Unit × Int × Unit) × (((List (List Int)) × (List Int) × Unit × Unit × Unit × Unit) × (List Int) × (List Int) × (List Int) × Unit)) => ()) fun (x : (Unit × Int × Unit) × (((List (List Int)) × (List Int) × Unit × Unit × Unit × Unit) × (List Int) × (List Int) × (List Int) × Unit)) => impl_residual_run_l0 x.1.2.1 x.2.1.1 x.2.1.2.1 x.2.2.1 x.2.2.2.1 x.2.2.2.2.1
def impl_residual_runK {R : Type} (fin : Int × ((List (List Int)) × (List Int) × (List Int) × (List Int) × (List Int)) → Option R) (x0 : (List (List Int)) × (List Int) × (List Int) × (List Int) × (List Int)) : Option R :=
  (impl_residual_run_l0 0 x0.1 x0.2.1 x0.2.2.1 x0.2.2.2.1 x0.2.2.2.2).bind fun y5 =>
  fin y5
def impl_residual_run (x0 : (List (List Int)) × (List Int) × (List Int) × (List Int) × (List Int)) : Option (Int × ((List (List Int)) × (List Int) × (List Int) × (List Int) × (List Int))) := impl_residual_runK some x0
theorem p95 {R : Type} (fin : Int × ((List (List Int)) × (List Int) × (List Int) × (List Int) × (List Int)) → Option R) (x0 : (List (List Int)) × (List Int) × (List Int) × (List Int) × (List Int)) : Par fin (impl_residual_runK some x0) (impl_residual_runK fin x0) := by
  unfold impl_residual_runK
  repeat' (first | exact .fin | exact .none | refine .cond ?_ ?_ | refine .bind fun _ => ?_ | refine .sum (fun _ => ?_) fun _ => ?_)
def or95 : Ora := { lo := addL 2 (Limpl_residual_run_l0) (addL 4 (Limpl_residual_run_l1) lo0), fin := [], kc := fun i => bif (decide (i = 2)) then [(0, 0)] else [] }
theorem impl_residual_run_l1e (k : Nat) (a0 : Int) (a1 : List (List Int)) (a2 : List Int) (a3 : List Int) (a4 : List Int) (a5 : List Int) : loopC Try.prog EL95 or95 ((loopsIn (codeOf Try.f95)).getD 1 .skip) (Limpl_residual_run_l1).h (Limpl_residual_run_l1).ho Try.f95.ntmps (k + 1) (simpl_residual_run_l1.out (((), (a0, ())), ((a1, (a2, ((), ((), ((), ()))))), (a3, (a4, (a5, ())))))) =
    impl_residual_run_l1K (fun a0 a1 a2 a3 a4 a5 => loopC Try.prog EL95 or95 ((loopsIn (codeOf Try.f95)).getD 1 .skip) (Limpl_residual_run_l1).h (Limpl_residual_run_l1).ho Try.f95.ntmps k (simpl_residual_run_l1.out (((), (a0, ())), ((a1, (a2, ((), ((), ((), ()))))), (a3, (a4, (a5, ()))))))) (fun y => some (XS.out ximpl_residual_run_l1 () y)) a0 a1 a2 a3 a4 a5 := by kernel_rfl
theorem impl_residual_run_l1o : LoopOk Try.prog EL95 or95 Try.f95.ntmps ((loopsIn (codeOf Try.f95)).getD 1 .skip) (Limpl_residual_run_l1) :=
  loop_lim (hs := simpl_residual_run_l1) (xs := ximpl_residual_run_l1) (ι := fun (x : (Unit × Int × Unit) × (((List (List Int)) × (List Int) × Unit × Unit × Unit × Unit) × (List Int) × (List Int) × (List Int) × Unit)) => ()) (φ := fun (x : (Unit × Int × Unit) × (((List (List Int)) × (List Int) × Unit × Unit × Unit × Unit) × (List Int) × (List Int) × (List Int) × Unit)) => (x.1.2.1, (x.2.1.1, (x.2.1.2.1, (x.2.2.1, (x.2.2.2.1, x.2.2.2.2.1)))))) (ψ := fun (i : Unit) (v : Int × (List (List Int)) × (List Int) × (List Int) × (List Int) × (List Int)) => (((), (v.1, ())), ((v.2.1, (v.2.2.1, ((), ((), ((), ()))))), (v.2.2.2.1, (v.2.2.2.2.1, (v.2.2.2.2.2, ())))))) (F := fun (i : Unit) => impl_residual_run_l1F) (fun _ => rfl) fun i k hk v => Par.of_eq (impl_residual_run_l1e k v.1 v.2.1 v.2.2.1 v.2.2.2.1 v.2.2.2.2.1 v.2.2.2.2.2) (impl_residual_run_l1p (fun a0 a1 a2 a3 a4 a5 => hk (a0, (a1, (a2, (a3, (a4, a5)))))) v.1 v.2.1 v.2.2.1 v.2.2.2.1 v.2.2.2.2.1 v.2.2.2.2.2)
theorem impl_residual_run_l0e (k : Nat) (a0 : Int) (a1 : List (List Int)) (a2 : List Int) (a3 : List Int) (a4 : List Int) (a5 : List Int) : loopC Try.prog EL95 or95 ((loopsIn (codeOf Try.f95)).getD 0 .skip) (Limpl_residual_run_l0).h (Limpl_residual_run_l0).ho Try.f95.ntmps (k + 1) (simpl_residual_run_l0.out (((), (a0, ())), ((a1, (a2, ((), ((), ((), ()))))), (a3, (a4, (a5, ())))))) =
    impl_residual_run_l0K (fun a0 a1 a2 a3 a4 a5 => loopC Try.prog EL95 or95 ((loopsIn (codeOf Try.f95)).getD 0 .skip) (Limpl_residual_run_l0).h (Limpl_residual_run_l0).ho Try.f95.ntmps k (simpl_residual_run_l0.out (((), (a0, ())), ((a1, (a2, ((), ((), ((), ()))))), (a3, (a4, (a5, ()))))))) (fun y => some (XS.out ximpl_residual_run_l0 () y)) a0 a1 a2 a3 a4 a5 := by kernel_rfl
theorem impl_residual_run_l0o : LoopOk Try.prog EL95 or95 Try.f95.ntmps ((loopsIn (codeOf Try.f95)).getD 0 .skip) (Limpl_residual_run_l0) :=
  loop_lim (hs := simpl_residual_run_l0) (xs := ximpl_residual_run_l0) (ι := fun (x : (Unit × Int × Unit) × (((List (List Int)) × (List Int) × Unit × Unit × Unit × Unit) × (List Int) × (List Int) × (List Int) × Unit)) => ()) (φ := fun (x : (Unit × Int × Unit) × (((List (List Int)) × (List Int) × Unit × Unit × Unit × Unit) × (List Int) × (List Int) × (List Int) × Unit)) => (x.1.2.1, (x.2.1.1, (x.2.1.2.1, (x.2.2.1, (x.2.2.2.1, x.2.2.2.2.1)))))) (ψ := fun (i : Unit) (v : Int × (List (List Int)) × (List Int) × (List Int) × (List Int) × (List Int)) => (((), (v.1, ())), ((v.2.1, (v.2.2.1, ((), ((), ((), ()))))), (v.2.2.2.1, (v.2.2.2.2.1, (v.2.2.2.2.2, ())))))) (F := fun (i : Unit) => impl_residual_run_l0F) (fun _ => rfl) fun i k hk v => Par.of_eq (impl_residual_run_l0e k v.1 v.2.1 v.2.2.1 v.2.2.2.1 v.2.2.2.2.1 v.2.2.2.2.2) (impl_residual_run_l0p (fun a0 a1 a2 a3 a4 a5 => hk (a0, (a1, (a2, (a3, (a4, a5)))))) v.1 v.2.1 v.2.2.1 v.2.2.2.1 v.2.2.2.2.1 v.2.2.2.2.2)
def c95 : Callee := mkC [.box [.ro (.slice (.slice (.int .i64))), .ro (.slice (.int .i64)), .sl (.int .i64), .sl (.int .i64), .sl (.int .i64)]] 1 [.one (.ro (.int .i64)), .box [.ro (.slice (.slice (.int .i64))), .ro (.slice (.int .i64)), .sl (.int .i64), .sl (.int .i64), .sl (.int .i64)]] fun x => impl_residual_run x
theorem e95 (x : PK.dens [.box [.ro (.slice (.slice (.int .i64))), .ro (.slice (.int .i64)), .sl (.int .i64), .sl (.int .i64), .sl (.int .i64)]]) : evalFn Try.prog EL95 or95 Try.f95 (PK.outs [.box [.ro (.slice (.slice (.int .i64))), .ro (.slice (.int .i64)), .sl (.int .i64), .sl (.int .i64), .sl (.int .i64)]] x) =
    impl_residual_runK (fun y => some (tupOf ((PK.outs [.one (.ro (.int .i64)), .box [.ro (.slice (.slice (.int .i64))), .ro (.slice (.int .i64)), .sl (.int .i64), .sl (.int .i64), .sl (.int .i64)]] y).take 1), (PK.outs [.one (.ro (.int .i64)), .box [.ro (.slice (.slice (.int .i64))), .ro (.slice (.int .i64)), .sl (.int .i64), .sl (.int .i64), .sl (.int .i64)]] y).drop 1)) x := by kernel_rfl
theorem o95 : LoOk Try.prog EL95 or95 Try.f95.ntmps (loopsIn (codeOf Try.f95)) :=
  LoOk.mk (m := 2) (by kernel_rfl) fun i hi => match i, hi with
    | 0, _ => ⟨Limpl_residual_run_l0, by kernel_rfl, impl_residual_run_l0o⟩
    | 1, _ => ⟨Limpl_residual_run_l1, by kernel_rfl, impl_residual_run_l1o⟩
    | i + 2, hi => absurd hi (by omega)
theorem k95 : CalleeOk Try.prog 95 c95 := callee_mk Try.func95 (code := codeOf Try.f95) (by kernel_rfl) vL95 mixed o95 fun x y h => (e95 x).trans (p95 _ x y h)

/-- impl.newResidual -/
def EL94 : Nat → Option Callee := env0
theorem vL94 : EnvOk Try.prog EL94 := EnvOk.nil
def simpl_newResidual_l0 : LS := ⟨[(5, .one (.fix (.ptr 0 0))), (12, .one (.dat (.slice TEdge))), (13, .one (.dat (.int .i64))), (14, .one (.dat (.int .i64)))], [.box [.fix (.sref 1), .fix (.sref 2), .fix (.sref 3), .fix .nils, .fix .nils], .mat (.int .i64), .sl (.int .i64), .sl (.int .i64)], []⟩
def simpl_newResidual_l0x0 : LS := ⟨[(5, .one (.fix (.ptr 0 0)))], [.box [.fix (.sref 1), .fix (.sref 2), .fix (.sref 3), .fix .nils, .fix .nils], .mat (.int .i64), .sl (.int .i64), .sl (.int .i64)], []⟩
def ximpl_newResidual_l0 : List (XS ((List DEdge) × Int)) := [⟨.exit 0, ⟨[5], [.slot 5, .cell 5 0, .cell 5 1, .cell 5 2], [], []⟩, simpl_newResidual_l0x0, (List (List Int)) × (List Int) × (List Int), fun i y => (((), ()), (((), ((), ((), ((), ((), ()))))), (y.1, (y.2.1, (y.2.2, ())))))⟩]
def impl_newResidual_l0K {R : Type} (a0 : List DEdge) (a1 : Int) (rc : Int → List (List Int) → List Int → List Int → Option R) (fin : (List (List Int)) × (List Int) × (List Int) → Option R) (a2 : Int) (a3 : List (List Int)) (a4 : List Int) (a5 : List Int) : Option R :=
  cond (decide (a2 < a1))
  ((lat a0 a2).bind fun e1 =>
    cond (decide ((0 : Int) ≤ e1.1) && decide (e1.1 < (a3.length : Int)))
    (cond (decide (0 + e1.1.toNat = e1.1.toNat))
      (cond (decide ((a3.getD e1.1.toNat []).length + [(a4.length : Int)].length ≤ 1099511627776))
        ((some ((a3.getD e1.1.toNat []) ++ [(a4.length : Int)])).bind fun v2 =>
          cond (decide ((0 : Int) ≤ e1.1) && decide (e1.1 < (a3.length : Int)))
          (cond (decide (0 + e1.1.toNat = e1.1.toNat) && true)
            (cond (decide ((0 : Int) ≤ e1.2.1) && decide (e1.2.1 < ((a3.set (0 + e1.1.toNat) v2).length : Int)))
              (cond (decide (0 + e1.2.1.toNat = e1.2.1.toNat))
                (cond (decide (((a3.set (0 + e1.1.toNat) v2).getD e1.2.1.toNat []).length + [IntKind.i64.wrap ((a4.length : Int) + 1)].length ≤ 1099511627776))
                  ((some (((a3.set (0 + e1.1.toNat) v2).getD e1.2.1.toNat []) ++ [IntKind.i64.wrap ((a4.length : Int) + 1)])).bind fun v3 =>
                    cond (decide ((0 : Int) ≤ e1.2.1) && decide (e1.2.1 < ((a3.set (0 + e1.1.toNat) v2).length : Int)))
                    (cond (decide (0 + e1.2.1.toNat = e1.2.1.toNat) && true)
                      (cond (decide (a4.length + [e1.2.1, e1.1].length ≤ 1099511627776))
                        ((some (a4 ++ [e1.2.1, e1.1])).bind fun v4 =>
                          cond (decide (a5.length + [e1.2.2.1, 0].length ≤ 1099511627776))
                          ((some (a5 ++ [e1.2.2.1, 0])).bind fun v5 =>
                            rc (IntKind.i64.wrap (a2 + 1)) ((a3.set (0 + e1.1.toNat) v2).set (0 + e1.2.1.toNat) v3) v4 v5)
                          (none))
                        (none))
                      (none))
                    (none))
                  (none))
                (none))
              (none))
            (none))
          (none))
        (none))
      (none))
    (none))
  (fin (a3, (a4, a5)))
def impl_newResidual_l0F (a0 : List DEdge) (a1 : Int) (r : (Int × (List (List Int)) × (List Int) × (List Int)) → Option ((List (List Int)) × (List Int) × (List Int))) (x : Int × (List (List Int)) × (List Int) × (List Int)) : Option ((List (List Int)) × (List Int) × (List Int)) := impl_newResidual_l0K a0 a1 (fun a2 a3 a4 a5 => r (a2, (a3, (a4, a5)))) some x.1 x.2.1 x.2.2.1 x.2.2.2
theorem impl_newResidual_l0c (a0 : List DEdge) (a1 : Int) (x : Int × (List (List Int)) × (List Int) × (List Int)) : Ct fun r => impl_newResidual_l0F a0 a1 r x := by
  unfold impl_newResidual_l0F impl_newResidual_l0K
  repeat' (first | exact Ct.const | exact Ct.call | refine Ct.cond ?_ ?_ | refine Ct.bind ?_ fun _ => ?_ | refine Ct.sum (fun _ => ?_) fun _ => ?_)
def impl_newResidual_l0 (a0 : List DEdge) (a1 : Int) (a2 : Int) (a3 : List (List Int)) (a4 : List Int) (a5 : List Int) : Option ((List (List Int)) × (List Int) × (List Int)) := lim (impl_newResidual_l0F a0 a1) (a2, (a3, (a4, a5)))
theorem impl_newResidual_l0_eq (a0 : List DEdge) (a1 : Int) (a2 : Int) (a3 : List (List Int)) (a4 : List Int) (a5 : List Int) : impl_newResidual_l0 a0 a1 a2 a3 a4 a5 = impl_newResidual_l0K a0 a1 (impl_newResidual_l0 a0 a1) some a2 a3 a4 a5 := lim_eq (impl_newResidual_l0c a0 a1) (a2, (a3, (a4, a5)))
theorem impl_newResidual_l0p {R : Type} (a0 : List DEdge) (a1 : Int) {rc : Int → List (List Int) → List Int → List Int → Option ((List (List Int)) × (List Int) × (List Int))} {rc' : Int → List (List Int) → List Int → List Int → Option R} {fin : (List (List Int)) × (List Int) × (List Int) → Option R} (hr : ∀ a2 a3 a4 a5, Par fin (rc a2 a3 a4 a5) (rc' a2 a3 a4 a5)) (a2 : Int) (a3 : List (List Int)) (a4 : List Int) (a5 : List Int) : Par fin (impl_newResidual_l0K a0 a1 rc some a2 a3 a4 a5) (impl_newResidual_l0K a0 a1 rc' fin a2 a3 a4 a5) := by
  unfold impl_newResidual_l0K
  repeat' (first | exact .fin | exact .none | exact hr _ _ _ _ | refine .cond ?_ ?_ | refine .bind fun _ => ?_ | refine .sum (fun _ => ?_) fun _ => ?_)
def Limpl_newResidual_l0 : Loop := mkL ⟨[5, 12, 13, 14], [.slot 5, .cell 5 0, .cell 5 1, .cell 5 2], [], [.own (.cell 5 1) (.int .i64), .own (.cell 5 2) (.int .i64)]⟩ simpl_newResidual_l0 ximpl_newResidual_l0 (fun (x : (Unit × (List DEdge) × Int × Int × Unit) × ((Unit × Unit × Unit × Unit × Unit × Unit) × (List (List Int)) × (List Int) × (List Int) × Unit)) => (x.1.2.1, x.1.2.2.1)) fun (x : (Unit × (List DEdge) × Int × Int × Unit) × ((Unit × Unit × Unit × Unit × Unit × Unit) × (List (List Int)) × (List Int) × (List Int) × Unit)) => impl_newResidual_l0 x.1.2.1 x.1.2.2.1 x.1.2.2.2.1 x.2.2.1 x.2.2.2.1 x.2.2.2.2.1
def impl_newResidualK {R : Type} (fin : (List (List Int)) × (List Int) × (List Int) × (List Int) × (List Int) → Option R) (x0 : Int) (x1 : List DEdge) : Option R :=
  cond (decide ((0 : Int) ≤ x0) && (decide (x0 ≤ x0) && decide (x0 ≤ 1099511627776)))
  ((some ((List.replicate x0.toNat [] : List (List Int)))).bind fun v1 =>
    (impl_newResidual_l0 x1 (x1.length : Int) 0 v1 [] []).bind fun y12 =>
    fin (y12.1, (y12.2.1, (y12.2.2, ([], [])))))
  (none)
def impl_newResidual (x0 : Int) (x1 : List DEdge) : Option ((List (List Int)) × (List Int) × (List Int) × (List Int) × (List Int)) := impl_newResidualK some x0 x1
theorem p94 {R : Type} (fin : (List (List Int)) × (List Int) × (List Int) × (List Int) × (List Int) → Option R) (x0 : Int) (x1 : List DEdge) : Par fin (impl_newResidualK some x0 x1) (impl_newResidualK fin x0 x1) := by
  unfold impl_newResidualK
  repeat' (first | exact .fin | exact .none | refine .cond ?_ ?_ | refine .bind fun _ => ?_ | refine .sum (fun _ => ?_) fun _ => ?_)
def or94 : Ora := { lo := addL 3 (Limpl_newResidual_l0) lo0, fin := [.own (.cell 4 3) (.int .i64), .own (.cell 4 4) (.int .i64)], fz := fun i => cond (decide (i = 5)) [.take (.cell 5 0) (.cell 7 0)] <| cond (decide (i = 6)) [.take (.cell 5 0) (.cell 7 1)] <| [] }
theorem impl_newResidual_l0e (a0 : List DEdge) (a1 : Int) (k : Nat) (a2 : Int) (a3 : List (List Int)) (a4 : List Int) (a5 : List Int) : loopC Try.prog EL94 or94 ((loopsIn (codeOf Try.f94)).getD 0 .skip) (Limpl_newResidual_l0).h (Limpl_newResidual_l0).ho Try.f94.ntmps (k + 1) (simpl_newResidual_l0.out (((), (a0, (a1, (a2, ())))), (((), ((), ((), ((), ((), ()))))), (a3, (a4, (a5, ())))))) =
    impl_newResidual_l0K a0 a1 (fun a2 a3 a4 a5 => loopC Try.prog EL94 or94 ((loopsIn (codeOf Try.f94)).getD 0 .skip) (Limpl_newResidual_l0).h (Limpl_newResidual_l0).ho Try.f94.ntmps k (simpl_newResidual_l0.out (((), (a0, (a1, (a2, ())))), (((), ((), ((), ((), ((), ()))))), (a3, (a4, (a5, ()))))))) (fun y => some (XS.out ximpl_newResidual_l0 (a0, a1) y)) a2 a3 a4 a5 := by kernel_rfl
theorem impl_newResidual_l0o : LoopOk Try.prog EL94 or94 Try.f94.ntmps ((loopsIn (codeOf Try.f94)).getD 0 .skip) (Limpl_newResidual_l0) :=
  loop_lim (hs := simpl_newResidual_l0) (xs := ximpl_newResidual_l0) (ι := fun (x : (Unit × (List DEdge) × Int × Int × Unit) × ((Unit × Unit × Unit × Unit × Unit × Unit) × (List (List Int)) × (List Int) × (List Int) × Unit)) => (x.1.2.1, x.1.2.2.1)) (φ := fun (x : (Unit × (List DEdge) × Int × Int × Unit) × ((Unit × Unit × Unit × Unit × Unit × Unit) × (List (List Int)) × (List Int) × (List Int) × Unit)) => (x.1.2.2.2.1, (x.2.2.1, (x.2.2.2.1, x.2.2.2.2.1)))) (ψ := fun (i : (List DEdge) × Int) (v : Int × (List (List Int)) × (List Int) × (List Int)) => (((), (i.1, (i.2, (v.1, ())))), (((), ((), ((), ((), ((), ()))))), (v.2.1, (v.2.2.1, (v.2.2.2, ())))))) (F := fun (i : (List DEdge) × Int) => impl_newResidual_l0F i.1 i.2) (fun _ => rfl) fun i k hk v => Par.of_eq (impl_newResidual_l0e i.1 i.2 k v.1 v.2.1 v.2.2.1 v.2.2.2) (impl_newResidual_l0p i.1 i.2 (fun a2 a3 a4 a5 => hk (a2, (a3, (a4, a5)))) v.1 v.2.1 v.2.2.1 v.2.2.2)
def c94 : Callee := mkC [.one (.ro (.int .i64)), .one (.ro (.slice TEdge))] 1 [.box [.mat (.int .i64), .sl (.int .i64), .sl (.int .i64), .sl (.int .i64), .sl (.int .i64)]] fun x => impl_newResidual x.1 x.2
theorem e94 (x : PK.dens [.one (.ro (.int .i64)), .one (.ro (.slice TEdge))]) : evalFn Try.prog EL94 or94 Try.f94 (PK.outs [.one (.ro (.int .i64)), .one (.ro (.slice TEdge))] x) =
    impl_newResidualK (fun y => some (tupOf ((PK.outs [.box [.mat (.int .i64), .sl (.int .i64), .sl (.int .i64), .sl (.int .i64), .sl (.int .i64)]] y).take 1), (PK.outs [.box [.mat (.int .i64), .sl (.int .i64), .sl (.int .i64), .sl (.int .i64), .sl (.int .i64)]] y).drop 1)) x.1 x.2 := by kernel_rfl
theorem o94 : LoOk Try.prog EL94 or94 Try.f94.ntmps (loopsIn (codeOf Try.f94)) :=
  LoOk.mk (m := 1) (by kernel_rfl) fun i hi => match i, hi with
    | 0, _ => ⟨Limpl_newResidual_l0, by kernel_rfl, impl_newResidual_l0o⟩
    | i + 1, hi => absurd hi (by omega)
theorem k94 : CalleeOk Try.prog 94 c94 := callee_mk Try.func94 (code := codeOf Try.f94) (by kernel_rfl) vL94 mixed o94 fun x y h => (e94 x).trans (p94 _ x.1 x.2 y h)

/-- spec.mfStart -/
def EL110 : Nat → Option Callee := env0
theorem vL110 : EnvOk Try.prog EL110 := EnvOk.nil
def sspec_mfStart_l0 : LS := ⟨[(5, .one (.fix (.ptr 0 0))), (13, .one (.dat (.slice TEdge))), (14, .one (.dat (.int .i64))), (15, .one (.dat (.int .i64)))], [.box [.dat (.int .i64), .fix (.sref 1), .fix (.sref 2), .fix (.sref 3)], .sl (.int .i64), .sl (.int .i64), .mat (.int .i64)], []⟩
def sspec_mfStart_l0x0 : LS := ⟨[(5, .one (.fix (.ptr 0 0)))], [.box [.dat (.int .i64), .fix (.sref 1), .fix (.sref 2), .fix (.sref 3)], .sl (.int .i64), .sl (.int .i64), .mat (.int .i64)], []⟩
def xspec_mfStart_l0 : List (XS ((List DEdge) × Int × Int)) := [⟨.exit 0, ⟨[5], [.slot 5, .cell 5 1, .cell 5 2, .cell 5 3], [], []⟩, sspec_mfStart_l0x0, (List Int) × (List Int) × (List (List Int)), fun i y => (((), ()), ((i.2.2, ((), ((), ((), ())))), (y.1, (y.2.1, (y.2.2, ())))))⟩]
def spec_mfStart_l0K {R : Type} (a0 : List DEdge) (a1 : Int) (rc : Int → List Int → List Int → List (List Int) → Option R) (fin : (List Int) × (List Int) × (List (List Int)) → Option R) (a2 : Int) (a4 : List Int) (a5 : List Int) (a6 : List (List Int)) : Option R :=
  cond (decide (a2 < a1))
  ((lat a0 a2).bind fun e1 =>
    cond (decide (a4.length + [e1.2.1, e1.1].length ≤ 1099511627776))
    ((some (a4 ++ [e1.2.1, e1.1])).bind fun v2 =>
      cond (decide (a5.length + [e1.2.2.1, 0].length ≤ 1099511627776))
      ((some (a5 ++ [e1.2.2.1, 0])).bind fun v3 =>
        cond (decide ((0 : Int) ≤ e1.1) && decide (e1.1 < (a6.length : Int)))
        (cond (decide (0 + e1.1.toNat = e1.1.toNat))
          (cond (decide ((a6.getD e1.1.toNat []).length + [IntKind.i64.wrap (2 * a2)].length ≤ 1099511627776))
            ((some ((a6.getD e1.1.toNat []) ++ [IntKind.i64.wrap (2 * a2)])).bind fun v4 =>
              cond (decide ((0 : Int) ≤ e1.1) && decide (e1.1 < (a6.length : Int)))
              (cond (decide (0 + e1.1.toNat = e1.1.toNat) && true)
                (cond (decide ((0 : Int) ≤ e1.2.1) && decide (e1.2.1 < ((a6.set (0 + e1.1.toNat) v4).length : Int)))
                  (cond (decide (0 + e1.2.1.toNat = e1.2.1.toNat))
                    (cond (decide (((a6.set (0 + e1.1.toNat) v4).getD e1.2.1.toNat []).length + [IntKind.i64.wrap ((IntKind.i64.wrap (2 * a2)) + 1)].length ≤ 1099511627776))
                      ((some (((a6.set (0 + e1.1.toNat) v4).getD e1.2.1.toNat []) ++ [IntKind.i64.wrap ((IntKind.i64.wrap (2 * a2)) + 1)])).bind fun v5 =>
                        cond (decide ((0 : Int) ≤ e1.2.1) && decide (e1.2.1 < ((a6.set (0 + e1.1.toNat) v4).length : Int)))
                        (cond (decide (0 + e1.2.1.toNat = e1.2.1.toNat) && true)
                          (rc (IntKind.i64.wrap (a2 + 1)) v2 v3 ((a6.set (0 + e1.1.toNat) v4).set (0 + e1.2.1.toNat) v5))
                          (none))
                        (none))
                      (none))
                    (none))
                  (none))
                (none))
              (none))
            (none))
          (none))
        (none))
      (none))
    (none))
  (fin (a4, (a5, a6)))
def spec_mfStart_l0F (a0 : List DEdge) (a1 : Int) (r : (Int × (List Int) × (List Int) × (List (List Int))) → Option ((List Int) × (List Int) × (List (List Int)))) (x : Int × (List Int) × (List Int) × (List (List Int))) : Option ((List Int) × (List Int) × (List (List Int))) := spec_mfStart_l0K a0 a1 (fun a2 a4 a5 a6 => r (a2, (a4, (a5, a6)))) some x.1 x.2.1 x.2.2.1 x.2.2.2
theorem spec_mfStart_l0c (a0 : List DEdge) (a1 : Int) (x : Int × (List Int) × (List Int) × (List (List Int))) : Ct fun r => spec_mfStart_l0F a0 a1 r x := by
  unfold spec_mfStart_l0F spec_mfStart_l0K
  repeat' (first | exact Ct.const | exact Ct.call | refine Ct.cond ?_ ?_ | refine Ct.bind ?_ fun _ => ?_ | refine Ct.sum (fun _ => ?_) fun _ => ?_)
def spec_mfStart_l0 (a0 : List DEdge) (a1 : Int) (a2 : Int) (a4 : List Int) (a5 : List Int) (a6 : List (List Int)) : Option ((List Int) × (List Int) × (List (List Int))) := lim (spec_mfStart_l0F a0 a1) (a2, (a4, (a5, a6)))
theorem spec_mfStart_l0_eq (a0 : List DEdge) (a1 : Int) (a2 : Int) (a4 : List Int) (a5 : List Int) (a6 : List (List Int)) : spec_mfStart_l0 a0 a1 a2 a4 a5 a6 = spec_mfStart_l0K a0 a1 (spec_mfStart_l0 a0 a1) some a2 a4 a5 a6 := lim_eq (spec_mfStart_l0c a0 a1) (a2, (a4, (a5, a6)))
theorem spec_mfStart_l0p {R : Type} (a0 : List DEdge) (a1 : Int) {rc : Int → List Int → List Int → List (List Int) → Option ((List Int) × (List Int) × (List (List Int)))} {rc' : Int → List Int → List Int → List (List Int) → Option R} {fin : (List Int) × (List Int) × (List (List Int)) → Option R} (hr : ∀ a2 a4 a5 a6, Par fin (rc a2 a4 a5 a6) (rc' a2 a4 a5 a6)) (a2 : Int) (a4 : List Int) (a5 : List Int) (a6 : List (List Int)) : Par fin (spec_mfStart_l0K a0 a1 rc some a2 a4 a5 a6) (spec_mfStart_l0K a0 a1 rc' fin a2 a4 a5 a6) := by
  unfold spec_mfStart_l0K
  repeat' (first | exact .fin | exact .none | exact hr _ _ _ _ | refine .cond ?_ ?_ | refine .bind fun _ => ?_ | refine .sum (fun _ => ?_) fun _ => ?_)
def Lspec_mfStart_l0 : Loop := mkL ⟨[5, 13, 14, 15], [.slot 5, .cell 5 1, .cell 5 2, .cell 5 3], [], [.own (.cell 5 1) (.int .i64), .own (.cell 5 2) (.int .i64)]⟩ sspec_mfStart_l0 xspec_mfStart_l0 (fun (x : (Unit × (List DEdge) × Int × Int × Unit) × ((Int × Unit × Unit × Unit × Unit) × (List Int) × (List Int) × (List (List Int)) × Unit)) => (x.1.2.1, (x.1.2.2.1, x.2.1.1))) fun (x : (Unit × (List DEdge) × Int × Int × Unit) × ((Int × Unit × Unit × Unit × Unit) × (List Int) × (List Int) × (List (List Int)) × Unit)) => spec_mfStart_l0 x.1.2.1 x.1.2.2.1 x.1.2.2.2.1 x.2.2.1 x.2.2.2.1 x.2.2.2.2.1
def spec_mfStartK {R : Type} (fin : Int × (List Int) × (List Int) × (List (List Int)) → Option R) (x0 : Int) (x1 : List DEdge) : Option R :=
  cond (decide ((0 : Int) ≤ x0) && (decide (x0 ≤ x0) && decide (x0 ≤ 1099511627776)))
  ((some ((List.replicate x0.toNat [] : List (List Int)))).bind fun v1 =>
    (spec_mfStart_l0 x1 (x1.length : Int) 0 [] [] v1).bind fun y12 =>
    fin (x0, y12))
  (none)
def spec_mfStart (x0 : Int) (x1 : List DEdge) : Option (Int × (List Int) × (List Int) × (List (List Int))) := spec_mfStartK some x0 x1
theorem p110 {R : Type} (fin : Int × (List Int) × (List Int) × (List (List Int)) → Option R) (x0 : Int) (x1 : List DEdge) : Par fin (spec_mfStartK some x0 x1) (spec_mfStartK fin x0 x1) := by
  unfold spec_mfStartK
  repeat' (first | exact .fin | exact .none | refine .cond ?_ ?_ | refine .bind fun _ => ?_ | refine .sum (fun _ => ?_) fun _ => ?_)
def or110 : Ora := { lo := addL 3 (Lspec_mfStart_l0) lo0, fin := [], fz := fun i => cond (decide (i = 7)) [.take (.cell 5 3) (.cell 7 0)] <| cond (decide (i = 8)) [.take (.cell 5 3) (.cell 7 1)] <| [] }
theorem spec_mfStart_l0e (a0 : List DEdge) (a1 : Int) (a3 : Int) (k : Nat) (a2 : Int) (a4 : List Int) (a5 : List Int) (a6 : List (List Int)) : loopC Try.prog EL110 or110 ((loopsIn (codeOf Try.f110)).getD 0 .skip) (Lspec_mfStart_l0).h (Lspec_mfStart_l0).ho Try.f110.ntmps (k + 1) (sspec_mfStart_l0.out (((), (a0, (a1, (a2, ())))), ((a3, ((), ((), ((), ())))), (a4, (a5, (a6, ())))))) =
    spec_mfStart_l0K a0 a1 (fun a2 a4 a5 a6 => loopC Try.prog EL110 or110 ((loopsIn (codeOf Try.f110)).getD 0 .skip) (Lspec_mfStart_l0).h (Lspec_mfStart_l0).ho Try.f110.ntmps k (sspec_mfStart_l0.out (((), (a0, (a1, (a2, ())))), ((a3, ((), ((), ((), ())))), (a4, (a5, (a6, ()))))))) (fun y => some (XS.out xspec_mfStart_l0 (a0, (a1, a3)) y)) a2 a4 a5 a6 := by kernel_rfl
theorem spec_mfStart_l0o : LoopOk Try.prog EL110 or110 Try.f110.ntmps ((loopsIn (codeOf Try.f110)).getD 0 .skip) (Lspec_mfStart_l0) :=
  loop_lim (hs := sspec_mfStart_l0) (xs := xspec_mfStart_l0) (ι := fun (x : (Unit × (List DEdge) × Int × Int × Unit) × ((Int × Unit × Unit × Unit × Unit) × (List Int) × (List Int) × (List (List Int)) × Unit)) => (x.1.2.1, (x.1.2.2.1, x.2.1.1))) (φ := fun (x : (Unit × (List DEdge) × Int × Int × Unit) × ((Int × Unit × Unit × Unit × Unit) × (List Int) × (List Int) × (List (List Int)) × Unit)) => (x.1.2.2.2.1, (x.2.2.1, (x.2.2.2.1, x.2.2.2.2.1)))) (ψ := fun (i : (List DEdge) × Int × Int) (v : Int × (List Int) × (List Int) × (List (List Int))) => (((), (i.1, (i.2.1, (v.1, ())))), ((i.2.2, ((), ((), ((), ())))), (v.2.1, (v.2.2.1, (v.2.2.2, ())))))) (F := fun (i : (List DEdge) × Int × Int) => spec_mfStart_l0F i.1 i.2.1) (fun _ => rfl) fun i k hk v => Par.of_eq (spec_mfStart_l0e i.1 i.2.1 i.2.2 k v.1 v.2.1 v.2.2.1 v.2.2.2) (spec_mfStart_l0p i.1 i.2.1 (fun a2 a4 a5 a6 => hk (a2, (a4, (a5, a6)))) v.1 v.2.1 v.2.2.1 v.2.2.2)
def c110 : Callee := mkC [.one (.ro (.int .i64)), .one (.ro (.slice TEdge))] 1 [.box [.ro (.int .i64), .sl (.int .i64), .sl (.int .i64), .mat (.int .i64)]] fun x => spec_mfStart x.1 x.2
theorem e110 (x : PK.dens [.one (.ro (.int .i64)), .one (.ro (.slice TEdge))]) : evalFn Try.prog EL110 or110 Try.f110 (PK.outs [.one (.ro (.int .i64)), .one (.ro (.slice TEdge))] x) =
    spec_mfStartK (fun y => some (tupOf ((PK.outs [.box [.ro (.int .i64), .sl (.int .i64), .sl (.int .i64), .mat (.int .i64)]] y).take 1), (PK.outs [.box [.ro (.int .i64), .sl (.int .i64), .sl (.int .i64), .mat (.int .i64)]] y).drop 1)) x.1 x.2 := by kernel_rfl
theorem o110 : LoOk Try.prog EL110 or110 Try.f110.ntmps (loopsIn (codeOf Try.f110)) :=
  LoOk.mk (m := 1) (by kernel_rfl) fun i hi => match i, hi with
    | 0, _ => ⟨Lspec_mfStart_l0, by kernel_rfl, spec_mfStart_l0o⟩
    | i + 1, hi => absurd hi (by omega)
theorem k110 : CalleeOk Try.prog 110 c110 := callee_mk Try.func110 (code := codeOf Try.f110) (by kernel_rfl) vL110 mixed o110 fun x y h => (e110 x).trans (p110 _ x.1 x.2 y h)

/-- spec.mfState).levels -/
def EL112 : Nat → Option Callee := env0
theorem vL112 : EnvOk Try.prog EL112 := EnvOk.nil
def sspec_mfState_levels_l0 : LS := ⟨[(0, .one (.fix (.ptr 0 0))), (3, .one (.fix (.sref 2))), (15, .one (.dat (.int .i64))), (16, .one (.dat (.int .i64)))], [.box [.dat (.int .i64), .dat (.slice (.int .i64)), .fix (.sref 1), .dat (.slice (.slice (.int .i64)))], .sl (.int .i64), .sl (.int .i64)], [0]⟩
def sspec_mfState_levels_l0x0 : LS := ⟨[(0, .one (.fix (.ptr 0 0))), (3, .one (.fix (.sref 2)))], [.box [.dat (.int .i64), .dat (.slice (.int .i64)), .fix (.sref 1), .dat (.slice (.slice (.int .i64)))], .sl (.int .i64), .sl (.int .i64)], [0]⟩
def xspec_mfState_levels_l0 : List (XS (Int × Int × (List Int) × (List (List Int)) × (List Int))) := [⟨.exit 0, ⟨[0, 3], [.slot 0, .cell 0 2, .slot 3], [0], []⟩, sspec_mfState_levels_l0x0, List Int, fun i y => (((), ((), ())), ((i.2.1, (i.2.2.1, ((), (i.2.2.2.1, ())))), (i.2.2.2.2, (y, ()))))⟩]
def spec_mfState_levels_l0K {R : Type} (a0 : Int) (rc : Int → List Int → Option R) (fin : List Int → Option R) (a1 : Int) (a6 : List Int) : Option R :=
  cond (decide (a1 < a0))
  (cond (decide ((0 : Int) ≤ a1) && decide (a1 < (a6.length : Int)))
    ((some (a6.set (0 + a1.toNat) (-1))).bind fun v1 =>
      rc (IntKind.i64.wrap (a1 + 1)) v1)
    (none))
  (fin a6)
def spec_mfState_levels_l0F (a0 : Int) (r : (Int × (List Int)) → Option (List Int)) (x : Int × (List Int)) : Option (List Int) := spec_mfState_levels_l0K a0 (fun a1 a6 => r (a1, a6)) some x.1 x.2
theorem spec_mfState_levels_l0c (a0 : Int) (x : Int × (List Int)) : Ct fun r => spec_mfState_levels_l0F a0 r x := by
  unfold spec_mfState_levels_l0F spec_mfState_levels_l0K
  repeat' (first | exact Ct.const | exact Ct.call | refine Ct.cond ?_ ?_ | refine Ct.bind ?_ fun _ => ?_ | refine Ct.sum (fun _ => ?_) fun _ => ?_)
def spec_mfState_levels_l0 (a0 : Int) (a1 : Int) (a6 : List Int) : Option (List Int) := lim (spec_mfState_levels_l0F a0) (a1, a6)
theorem spec_mfState_levels_l0_eq (a0 : Int) (a1 : Int) (a6 : List Int) : spec_mfState_levels_l0 a0 a1 a6 = spec_mfState_levels_l0K a0 (spec_mfState_levels_l0 a0) some a1 a6 := lim_eq (spec_mfState_levels_l0c a0) (a1, a6)
theorem spec_mfState_levels_l0p {R : Type} (a0 : Int) {rc : Int → List Int → Option (List Int)} {rc' : Int → List Int → Option R} {fin : List Int → Option R} (hr : ∀ a1 a6, Par fin (rc a1 a6) (rc' a1 a6)) (a1 : Int) (a6 : List Int) : Par fin (spec_mfState_levels_l0K a0 rc some a1 a6) (spec_mfState_levels_l0K a0 rc' fin a1 a6) := by
  unfold spec_mfState_levels_l0K
  repeat' (first | exact .fin | exact .none | exact hr _ _ | refine .cond ?_ ?_ | refine .bind fun _ => ?_ | refine .sum (fun _ => ?_) fun _ => ?_)
def Lspec_mfState_levels_l0 : Loop := mkL ⟨[0, 3, 15, 16], [.slot 0, .cell 0 2, .slot 3], [0], []⟩ sspec_mfState_levels_l0 xspec_mfState_levels_l0 (fun (x : (Unit × Unit × Int × Int × Unit) × ((Int × (List Int) × Unit × (List (List Int)) × Unit) × (List Int) × (List Int) × Unit)) => (x.1.2.2.1, (x.2.1.1, (x.2.1.2.1, (x.2.1.2.2.2.1, x.2.2.1))))) fun (x : (Unit × Unit × Int × Int × Unit) × ((Int × (List Int) × Unit × (List (List Int)) × Unit) × (List Int) × (List Int) × Unit)) => spec_mfState_levels_l0 x.1.2.2.1 x.1.2.2.2.1 x.2.2.2.1
def sspec_mfState_levels_l2 : LS := ⟨[(0, .one (.fix (.ptr 0 0))), (3, .one (.fix (.sref 2))), (5, .one (.fix (.sref 3))), (6, .one (.dat (.int .i64))), (41, .one (.dat (.slice (.int .i64)))), (42, .one (.dat (.int .i64))), (43, .one (.dat (.int .i64)))], [.box [.dat (.int .i64), .dat (.slice (.int .i64)), .fix (.sref 1), .dat (.slice (.slice (.int .i64)))], .sl (.int .i64), .sl (.int .i64), .sl (.int .i64)], [0]⟩
def sspec_mfState_levels_l2x0 : LS := ⟨[(0, .one (.fix (.ptr 0 0))), (3, .one (.fix (.sref 2))), (5, .one (.fix (.sref 3))), (6, .one (.dat (.int .i64)))], [.box [.dat (.int .i64), .dat (.slice (.int .i64)), .fix (.sref 1), .dat (.slice (.slice (.int .i64)))], .sl (.int .i64), .sl (.int .i64), .sl (.int .i64)], [0]⟩
def xspec_mfState_levels_l2 : List (XS (Int × (List Int) × Int × Int × (List Int) × (List (List Int)) × (List Int))) := [⟨.exit 4, ⟨[0, 3, 5, 6], [.slot 0, .cell 0 2, .slot 3, .slot 5], [0], []⟩, sspec_mfState_levels_l2x0, (List Int) × (List Int), fun i y => (((), ((), ((), (i.1, ())))), ((i.2.2.2.1, (i.2.2.2.2.1, ((), (i.2.2.2.2.2.1, ())))), (i.2.2.2.2.2.2, (y.1, (y.2, ())))))⟩]
def spec_mfState_levels_l2K {R : Type} (a0 : Int) (a1 : List Int) (a2 : Int) (a5 : List Int) (a7 : List Int) (rc : Int → List Int → List Int → Option R) (fin : (List Int) × (List Int) → Option R) (a3 : Int) (a8 : List Int) (a9 : List Int) : Option R :=
  cond (decide (a3 < a2))
  ((lat a1 a3).bind fun e1 =>
    cond (decide ((0 : Int) ≤ e1) && decide (e1 < (a7.length : Int)))
    (cond (decide ((a7.getD (0 + e1.toNat) 0) > 0))
      ((lat a5 e1).bind fun e2 =>
        cond (decide ((0 : Int) ≤ e2) && decide (e2 < (a8.length : Int)))
        (cond (decide ((a8.getD (0 + e2.toNat) 0) < 0))
          ((lat a5 e1).bind fun e3 =>
            cond (decide ((0 : Int) ≤ a0) && decide (a0 < (a9.length : Int)))
            (cond (decide ((0 : Int) ≤ a9.getD (0 + a0.toNat) 0) && decide (a9.getD (0 + a0.toNat) 0 < (a8.length : Int)))
              ((some (IntKind.i64.wrap ((a8.getD (0 + (a9.getD (0 + a0.toNat) 0).toNat) 0) + 1))).bind fun v4 =>
                cond (decide ((0 : Int) ≤ e3) && decide (e3 < (a8.length : Int)))
                ((some (a8.set (0 + e3.toNat) v4)).bind fun v5 =>
                  (lat a5 e1).bind fun e6 =>
                  cond (decide (a9.length + [e6].length ≤ 1099511627776))
                  (rc (IntKind.i64.wrap (a3 + 1)) v5 (a9 ++ [e6]))
                  (none))
                (none))
              (none))
            (none))
          (rc (IntKind.i64.wrap (a3 + 1)) a8 a9))
        (none))
      (rc (IntKind.i64.wrap (a3 + 1)) a8 a9))
    (none))
  (fin (a8, a9))
def spec_mfState_levels_l2F (a0 : Int) (a1 : List Int) (a2 : Int) (a5 : List Int) (a7 : List Int) (r : (Int × (List Int) × (List Int)) → Option ((List Int) × (List Int))) (x : Int × (List Int) × (List Int)) : Option ((List Int) × (List Int)) := spec_mfState_levels_l2K a0 a1 a2 a5 a7 (fun a3 a8 a9 => r (a3, (a8, a9))) some x.1 x.2.1 x.2.2
theorem spec_mfState_levels_l2c (a0 : Int) (a1 : List Int) (a2 : Int) (a5 : List Int) (a7 : List Int) (x : Int × (List Int) × (List Int)) : Ct fun r => spec_mfState_levels_l2F a0 a1 a2 a5 a7 r x := by
  unfold spec_mfState_levels_l2F spec_mfState_levels_l2K
  repeat' (first | exact Ct.const | exact Ct.call | refine Ct.cond ?_ ?_ | refine Ct.bind ?_ fun _ => ?_ | refine Ct.sum (fun _ => ?_) fun _ => ?_)
def spec_mfState_levels_l2 (a0 : Int) (a1 : List Int) (a2 : Int) (a5 : List Int) (a7 : List Int) (a3 : Int) (a8 : List Int) (a9 : List Int) : Option ((List Int) × (List Int)) := lim (spec_mfState_levels_l2F a0 a1 a2 a5 a7) (a3, (a8, a9))
theorem spec_mfState_levels_l2_eq (a0 : Int) (a1 : List Int) (a2 : Int) (a5 : List Int) (a7 : List Int) (a3 : Int) (a8 : List Int) (a9 : List Int) : spec_mfState_levels_l2 a0 a1 a2 a5 a7 a3 a8 a9 = spec_mfState_levels_l2K a0 a1 a2 a5 a7 (spec_mfState_levels_l2 a0 a1 a2 a5 a7) some a3 a8 a9 := lim_eq (spec_mfState_levels_l2c a0 a1 a2 a5 a7) (a3, (a8, a9))
theorem spec_mfState_levels_l2p {R : Type} (a0 : Int) (a1 : List Int) (a2 : Int) (a5 : List Int) (a7 : List Int) {rc : Int → List Int → List Int → Option ((List Int) × (List Int))} {rc' : Int → List Int → List Int → Option R} {fin : (List Int) × (List Int) → Option R} (hr : ∀ a3 a8 a9, Par fin (rc a3 a8 a9) (rc' a3 a8 a9)) (a3 : Int) (a8 : List Int) (a9 : List Int) : Par fin (spec_mfState_levels_l2K a0 a1 a2 a5 a7 rc some a3 a8 a9) (spec_mfState_levels_l2K a0 a1 a2 a5 a7 rc' fin a3 a8 a9) := by
  unfold spec_mfState_levels_l2K
  repeat' (first | exact .fin | exact .none | exact hr _ _ _ | refine .cond ?_ ?_ | refine .bind fun _ => ?_ | refine .sum (fun _ => ?_) fun _ => ?_)
def Lspec_mfState_levels_l2 : Loop := mkL ⟨[0, 3, 5, 6, 41, 42, 43], [.slot 0, .cell 0 2, .slot 3, .slot 5], [0], []⟩ sspec_mfState_levels_l2 xspec_mfState_levels_l2 (fun (x : (Unit × Unit × Unit × Int × (List Int) × Int × Int × Unit) × ((Int × (List Int) × Unit × (List (List Int)) × Unit) × (List Int) × (List Int) × (List Int) × Unit)) => (x.1.2.2.2.1, (x.1.2.2.2.2.1, (x.1.2.2.2.2.2.1, (x.2.1.1, (x.2.1.2.1, (x.2.1.2.2.2.1, x.2.2.1))))))) fun (x : (Unit × Unit × Unit × Int × (List Int) × Int × Int × Unit) × ((Int × (List Int) × Unit × (List (List Int)) × Unit) × (List Int) × (List Int) × (List Int) × Unit)) => spec_mfState_levels_l2 x.1.2.2.2.1 x.1.2.2.2.2.1 x.1.2.2.2.2.2.1 x.2.1.2.1 x.2.2.1 x.1.2.2.2.2.2.2.1 x.2.2.2.1 x.2.2.2.2.1
def sspec_mfState_levels_l1 : LS := ⟨[(0, .one (.fix (.ptr 0 0))), (3, .one (.fix (.sref 2))), (5, .one (.fix (.sref 3))), (6, .one (.dat (.int .i64)))], [.box [.dat (.int .i64), .dat (.slice (.int .i64)), .fix (.sref 1), .dat (.slice (.slice (.int .i64)))], .sl (.int .i64), .sl (.int .i64), .sl (.int .i64)], [0]⟩
def sspec_mfState_levels_l1x0 : LS := ⟨[(0, .one (.fix (.ptr 0 0))), (3, .one (.fix (.sref 2)))], [.box [.dat (.int .i64), .dat (.slice (.int .i64)), .fix (.sref 1), .dat (.slice (.slice (.int .i64)))], .sl (.int .i64), .sl (.int .i64)], [0]⟩
def xspec_mfState_levels_l1 : List (XS (Int × (List Int) × (List (List Int)) × (List Int))) := [⟨.exit 2, ⟨[0, 3], [.slot 0, .cell 0 2, .slot 3], [0], []⟩, sspec_mfState_levels_l1x0, List Int, fun i y => (((), ((), ())), ((i.1, (i.2.1, ((), (i.2.2.1, ())))), (i.2.2.2, (y, ()))))⟩]
def spec_mfState_levels_l1K {R : Type} (a2 : List Int) (a3 : List (List Int)) (a4 : List Int) (rc : Int → List Int → List Int → Option R) (fin : List Int → Option R) (a0 : Int) (a5 : List Int) (a6 : List Int) : Option R :=
  cond (decide (a0 < (a6.length : Int)))
  (cond (decide ((0 : Int) ≤ a0) && decide (a0 < (a6.length : Int)))
    ((lat a3 (a6.getD (0 + a0.toNat) 0)).bind fun e1 =>
      (spec_mfState_levels_l2 a0 e1 (e1.length : Int) a2 a4 0 a5 a6).bind fun y8 =>
      rc (IntKind.i64.wrap (a0 + 1)) y8.1 y8.2)
    (none))
  (fin a5)
def spec_mfState_levels_l1F (a2 : List Int) (a3 : List (List Int)) (a4 : List Int) (r : (Int × (List Int) × (List Int)) → Option (List Int)) (x : Int × (List Int) × (List Int)) : Option (List Int) := spec_mfState_levels_l1K a2 a3 a4 (fun a0 a5 a6 => r (a0, (a5, a6))) some x.1 x.2.1 x.2.2
theorem spec_mfState_levels_l1c (a2 : List Int) (a3 : List (List Int)) (a4 : List Int) (x : Int × (List Int) × (List Int)) : Ct fun r => spec_mfState_levels_l1F a2 a3 a4 r x := by
  unfold spec_mfState_levels_l1F spec_mfState_levels_l1K
  repeat' (first | exact Ct.const | exact Ct.call | refine Ct.cond ?_ ?_ | refine Ct.bind ?_ fun _ => ?_ | refine Ct.sum (fun _ => ?_) fun _ => ?_)
def spec_mfState_levels_l1 (a2 : List Int) (a3 : List (List Int)) (a4 : List Int) (a0 : Int) (a5 : List Int) (a6 : List Int) : Option (List Int) := lim (spec_mfState_levels_l1F a2 a3 a4) (a0, (a5, a6))
theorem spec_mfState_levels_l1_eq (a2 : List Int) (a3 : List (List Int)) (a4 : List Int) (a0 : Int) (a5 : List Int) (a6 : List Int) : spec_mfState_levels_l1 a2 a3 a4 a0 a5 a6 = spec_mfState_levels_l1K a2 a3 a4 (spec_mfState_levels_l1 a2 a3 a4) some a0 a5 a6 := lim_eq (spec_mfState_levels_l1c a2 a3 a4) (a0, (a5, a6))
theorem spec_mfState_levels_l1p {R : Type} (a2 : List Int) (a3 : List (List Int)) (a4 : List Int) {rc : Int → List Int → List Int → Option (List Int)} {rc' : Int → List Int → List Int → Option R} {fin : List Int → Option R} (hr : ∀ a0 a5 a6, Par fin (rc a0 a5 a6) (rc' a0 a5 a6)) (a0 : Int) (a5 : List Int) (a6 : List Int) : Par fin (spec_mfState_levels_l1K a2 a3 a4 rc some a0 a5 a6) (spec_mfState_levels_l1K a2 a3 a4 rc' fin a0 a5 a6) := by
  unfold spec_mfState_levels_l1K
  repeat' (first | exact .fin | exact .none | exact hr _ _ _ | refine .cond ?_ ?_ | refine .bind fun _ => ?_ | refine .sum (fun _ => ?_) fun _ => ?_)
def Lspec_mfState_levels_l1 : Loop := mkL ⟨[0, 3, 5, 6], [.slot 0, .cell 0 2, .slot 3, .slot 5], [0], []⟩ sspec_mfState_levels_l1 xspec_mfState_levels_l1 (fun (x : (Unit × Unit × Unit × Int × Unit) × ((Int × (List Int) × Unit × (List (List Int)) × Unit) × (List Int) × (List Int) × (List Int) × Unit)) => (x.2.1.1, (x.2.1.2.1, (x.2.1.2.2.2.1, x.2.2.1)))) fun (x : (Unit × Unit × Unit × Int × Unit) × ((Int × (List Int) × Unit × (List (List Int)) × Unit) × (List Int) × (List Int) × (List Int) × Unit)) => spec_mfState_levels_l1 x.2.1.2.1 x.2.1.2.2.2.1 x.2.2.1 x.1.2.2.2.1 x.2.2.2.1 x.2.2.2.2.1
def spec_mfState_levelsK {R : Type} (fin : (List Int) × (Int × (List Int) × (List Int) × (List (List Int))) → Option R) (x0 : Int × (List Int) × (List Int) × (List (List Int))) : Option R :=
  cond (decide ((0 : Int) ≤ x0.1) && (decide (x0.1 ≤ x0.1) && decide (x0.1 ≤ 1099511627776)))
  ((some ((List.replicate x0.1.toNat 0 : List Int))).bind fun v1 =>
    (spec_mfState_levels_l0 (v1.length : Int) 0 v1).bind fun y3 =>
    cond (decide ((0 : Int) < (y3.length : Int)))
    ((some (y3.set (0 + 0) 0)).bind fun v4 =>
      (spec_mfState_levels_l1 x0.2.1 x0.2.2.2 x0.2.2.1 0 v4 [0]).bind fun y13 =>
      fin (y13, x0))
    (none))
  (none)
def spec_mfState_levels (x0 : Int × (List Int) × (List Int) × (List (List Int))) : Option ((List Int) × (Int × (List Int) × (List Int) × (List (List Int)))) := spec_mfState_levelsK some x0
theorem p112 {R : Type} (fin : (List Int) × (Int × (List Int) × (List Int) × (List (List Int))) → Option R) (x0 : Int × (List Int) × (List Int) × (List (List Int))) : Par fin (spec_mfState_levelsK some x0) (spec_mfState_levelsK fin x0) := by
  unfold spec_mfState_levelsK
  repeat' (first | exact .fin | exact .none | refine .cond ?_ ?_ | refine .bind fun _ => ?_ | refine .sum (fun _ => ?_) fun _ => ?_)
def or112 : Ora := { lo := addL 10 (Lspec_mfState_levels_l1) (addL 13 (Lspec_mfState_levels_l2) (addL 3 (Lspec_mfState_levels_l0) lo0)), fin := [] }
theorem spec_mfState_levels_l0e (a0 : Int) (a2 : Int) (a3 : List Int) (a4 : List (List Int)) (a5 : List Int) (k : Nat) (a1 : Int) (a6 : List Int) : loopC Try.prog EL112 or112 ((loopsIn (codeOf Try.f112)).getD 0 .skip) (Lspec_mfState_levels_l0).h (Lspec_mfState_levels_l0).ho Try.f112.ntmps (k + 1) (sspec_mfState_levels_l0.out (((), ((), (a0, (a1, ())))), ((a2, (a3, ((), (a4, ())))), (a5, (a6, ()))))) =
    spec_mfState_levels_l0K a0 (fun a1 a6 => loopC Try.prog EL112 or112 ((loopsIn (codeOf Try.f112)).getD 0 .skip) (Lspec_mfState_levels_l0).h (Lspec_mfState_levels_l0).ho Try.f112.ntmps k (sspec_mfState_levels_l0.out (((), ((), (a0, (a1, ())))), ((a2, (a3, ((), (a4, ())))), (a5, (a6, ())))))) (fun y => some (XS.out xspec_mfState_levels_l0 (a0, (a2, (a3, (a4, a5)))) y)) a1 a6 := by kernel_rfl
theorem spec_mfState_levels_l0o : LoopOk Try.prog EL112 or112 Try.f112.ntmps ((loopsIn (codeOf Try.f112)).getD 0 .skip) (Lspec_mfState_levels_l0) :=
  loop_lim (hs := sspec_mfState_levels_l0) (xs := xspec_mfState_levels_l0) (ι := fun (x : (Unit × Unit × Int × Int × Unit) × ((Int × (List Int) × Unit × (List (List Int)) × Unit) × (List Int) × (List Int) × Unit)) => (x.1.2.2.1, (x.2.1.1, (x.2.1.2.1, (x.2.1.2.2.2.1, x.2.2.1))))) (φ := fun (x : (Unit × Unit × Int × Int × Unit) × ((Int × (List Int) × Unit × (List (List Int)) × Unit) × (List Int) × (List Int) × Unit)) => (x.1.2.2.2.1, x.2.2.2.1)) (ψ := fun (i : Int × Int × (List Int) × (List (List Int)) × (List Int)) (v : Int × (List Int)) => (((), ((), (i.1, (v.1, ())))), ((i.2.1, (i.2.2.1, ((), (i.2.2.2.1, ())))), (i.2.2.2.2, (v.2, ()))))) (F := fun (i : Int × Int × (List Int) × (List (List Int)) × (List Int)) => spec_mfState_levels_l0F i.1) (fun _ => rfl) fun i k hk v => Par.of_eq (spec_mfState_levels_l0e i.1 i.2.1 i.2.2.1 i.2.2.2.1 i.2.2.2.2 k v.1 v.2) (spec_mfState_levels_l0p i.1 (fun a1 a6 => hk (a1, a6)) v.1 v.2)
theorem spec_mfState_levels_l2e (a0 : Int) (a1 : List Int) (a2 : Int) (a4 : Int) (a5 : List Int) (a6 : List (List Int)) (a7 : List Int) (k : Nat) (a3 : Int) (a8 : List Int) (a9 : List Int) : loopC Try.prog EL112 or112 ((loopsIn (codeOf Try.f112)).getD 2 .skip) (Lspec_mfState_levels_l2).h (Lspec_mfState_levels_l2).ho Try.f112.ntmps (k + 1) (sspec_mfState_levels_l2.out (((), ((), ((), (a0, (a1, (a2, (a3, ()))))))), ((a4, (a5, ((), (a6, ())))), (a7, (a8, (a9, ())))))) =
    spec_mfState_levels_l2K a0 a1 a2 a5 a7 (fun a3 a8 a9 => loopC Try.prog EL112 or112 ((loopsIn (codeOf Try.f112)).getD 2 .skip) (Lspec_mfState_levels_l2).h (Lspec_mfState_levels_l2).ho Try.f112.ntmps k (sspec_mfState_levels_l2.out (((), ((), ((), (a0, (a1, (a2, (a3, ()))))))), ((a4, (a5, ((), (a6, ())))), (a7, (a8, (a9, ()))))))) (fun y => some (XS.out xspec_mfState_levels_l2 (a0, (a1, (a2, (a4, (a5, (a6, a7)))))) y)) a3 a8 a9 := by kernel_rfl
theorem spec_mfState_levels_l2o : LoopOk Try.prog EL112 or112 Try.f112.ntmps ((loopsIn (codeOf Try.f112)).getD 2 .skip) (Lspec_mfState_levels_l2) :=
  loop_lim (hs := sspec_mfState_levels_l2) (xs := xspec_mfState_levels_l2) (ι := fun (x : (Unit × Unit × Unit × Int × (List Int) × Int × Int × Unit) × ((Int × (List Int) × Unit × (List (List Int)) × Unit) × (List Int) × (List Int) × (List Int) × Unit)) => (x.1.2.2.2.1, (x.1.2.2.2.2.1, (x.1.2.2.2.2.2.1, (x.2.1.1, (x.2.1.2.1, (x.2.1.2.2.2.1, x.2.2.1))))))) (φ := fun (x : (Unit × Unit × Unit × Int × (List Int) × Int × Int × Unit) × ((Int × (List Int) × Unit × (List (List Int)) × Unit) × (List Int) × (List Int) × (List Int) × Unit)) => (x.1.2.2.2.2.2.2.1, (x.2.2.2.1, x.2.2.2.2.1))) (ψ := fun (i : Int × (List Int) × Int × Int × (List Int) × (List (List Int)) × (List Int)) (v : Int × (List Int) × (List Int)) => (((), ((), ((), (i.1, (i.2.1, (i.2.2.1, (v.1, ()))))))), ((i.2.2.2.1, (i.2.2.2.2.1, ((), (i.2.2.2.2.2.1, ())))), (i.2.2.2.2.2.2, (v.2.1, (v.2.2, ())))))) (F := fun (i : Int × (List Int) × Int × Int × (List Int) × (List (List Int)) × (List Int)) => spec_mfState_levels_l2F i.1 i.2.1 i.2.2.1 i.2.2.2.2.1 i.2.2.2.2.2.2) (fun _ => rfl) fun i k hk v => Par.of_eq (spec_mfState_levels_l2e i.1 i.2.1 i.2.2.1 i.2.2.2.1 i.2.2.2.2.1 i.2.2.2.2.2.1 i.2.2.2.2.2.2 k v.1 v.2.1 v.2.2) (spec_mfState_levels_l2p i.1 i.2.1 i.2.2.1 i.2.2.2.2.1 i.2.2.2.2.2.2 (fun a3 a8 a9 => hk (a3, (a8, a9))) v.1 v.2.1 v.2.2)
theorem spec_mfState_levels_l1e (a1 : Int) (a2 : List Int) (a3 : List (List Int)) (a4 : List Int) (k : Nat) (a0 : Int) (a5 : List Int) (a6 : List Int) : loopC Try.prog EL112 or112 ((loopsIn (codeOf Try.f112)).getD 1 .skip) (Lspec_mfState_levels_l1).h (Lspec_mfState_levels_l1).ho Try.f112.ntmps (k + 1) (sspec_mfState_levels_l1.out (((), ((), ((), (a0, ())))), ((a1, (a2, ((), (a3, ())))), (a4, (a5, (a6, ())))))) =
    spec_mfState_levels_l1K a2 a3 a4 (fun a0 a5 a6 => loopC Try.prog EL112 or112 ((loopsIn (codeOf Try.f112)).getD 1 .skip) (Lspec_mfState_levels_l1).h (Lspec_mfState_levels_l1).ho Try.f112.ntmps k (sspec_mfState_levels_l1.out (((), ((), ((), (a0, ())))), ((a1, (a2, ((), (a3, ())))), (a4, (a5, (a6, ()))))))) (fun y => some (XS.out xspec_mfState_levels_l1 (a1, (a2, (a3, a4))) y)) a0 a5 a6 := by kernel_rfl
theorem spec_mfState_levels_l1o : LoopOk Try.prog EL112 or112 Try.f112.ntmps ((loopsIn (codeOf Try.f112)).getD 1 .skip) (Lspec_mfState_levels_l1) :=
  loop_lim (hs := sspec_mfState_levels_l1) (xs := xspec_mfState_levels_l1) (ι := fun (x : (Unit × Unit × Unit × Int × Unit) × ((Int × (List Int) × Unit × (List (List Int)) × Unit) × (List Int) × (List Int) × (List Int) × Unit)) => (x.2.1.1, (x.2.1.2.1, (x.2.1.2.2.2.1, x.2.2.1)))) (φ := fun (x : (Unit × Unit × Unit × Int × Unit) × ((Int × (List Int) × Unit × (List (List Int)) × Unit) × (List Int) × (List Int) × (List Int) × Unit)) => (x.1.2.2.2.1, (x.2.2.2.1, x.2.2.2.2.1))) (ψ := fun (i : Int × (List Int) × (List (List Int)) × (List Int)) (v : Int × (List Int) × (List Int)) => (((), ((), ((), (v.1, ())))), ((i.1, (i.2.1, ((), (i.2.2.1, ())))), (i.2.2.2, (v.2.1, (v.2.2, ())))))) (F := fun (i : Int × (List Int) × (List (List Int)) × (List Int)) => spec_mfState_levels_l1F i.2.1 i.2.2.1 i.2.2.2) (fun _ => rfl) fun i k hk v => Par.of_eq (spec_mfState_levels_l1e i.1 i.2.1 i.2.2.1 i.2.2.2 k v.1 v.2.1 v.2.2) (spec_mfState_levels_l1p i.2.1 i.2.2.1 i.2.2.2 (fun a0 a5 a6 => hk (a0, (a5, a6))) v.1 v.2.1 v.2.2)
def c112 : Callee := mkC [.box [.ro (.int .i64), .ro (.slice (.int .i64)), .sl (.int .i64), .ro (.slice (.slice (.int .i64)))]] 1 [.one (.sl (.int .i64)), .box [.ro (.int .i64), .ro (.slice (.int .i64)), .sl (.int .i64), .ro (.slice (.slice (.int .i64)))]] fun x => spec_mfState_levels x
theorem e112 (x : PK.dens [.box [.ro (.int .i64), .ro (.slice (.int .i64)), .sl (.int .i64), .ro (.slice (.slice (.int .i64)))]]) : evalFn Try.prog EL112 or112 Try.f112 (PK.outs [.box [.ro (.int .i64), .ro (.slice (.int .i64)), .sl (.int .i64), .ro (.slice (.slice (.int .i64)))]] x) =
    spec_mfState_levelsK (fun y => some (tupOf ((PK.outs [.one (.sl (.int .i64)), .box [.ro (.int .i64), .ro (.slice (.int .i64)), .sl (.int .i64), .ro (.slice (.slice (.int .i64)))]] y).take 1), (PK.outs [.one (.sl (.int .i64)), .box [.ro (.int .i64), .ro (.slice (.int .i64)), .sl (.int .i64), .ro (.slice (.slice (.int .i64)))]] y).drop 1)) x := by kernel_rfl
theorem o112 : LoOk Try.prog EL112 or112 Try.f112.ntmps (loopsIn (codeOf Try.f112)) :=
  LoOk.mk (m := 3) (by kernel_rfl) fun i hi => match i, hi with
    | 0, _ => ⟨Lspec_mfState_levels_l0, by kernel_rfl, spec_mfState_levels_l0o⟩
    | 1, _ => ⟨Lspec_mfState_levels_l1, by kernel_rfl, spec_mfState_levels_l1o⟩
    | 2, _ => ⟨Lspec_mfState_levels_l2, by kernel_rfl, spec_mfState_levels_l2o⟩
    | i + 3, hi => absurd hi (by omega)
theorem k112 : CalleeOk Try.prog 112 c112 := callee_mk Try.func112 (code := codeOf Try.f112) (by kernel_rfl) vL112 mixed o112 fun x y h => (e112 x).trans (p112 _ x y h)

/-- spec.l1Least -/
def EL118 : Nat → Option Callee := env0
theorem vL118 : EnvOk Try.prog EL118 := EnvOk.nil
def spec_l1LeastK {R : Type} (fin : Int → Option R) (x0 : Int) (x1 : Int) : Option R :=
  cond (decide (x0 < x1))
  (fin x0)
  (fin x1)
def spec_l1Least (x0 : Int) (x1 : Int) : Option (Int) := spec_l1LeastK some x0 x1
theorem p118 {R : Type} (fin : Int → Option R) (x0 : Int) (x1 : Int) : Par fin (spec_l1LeastK some x0 x1) (spec_l1LeastK fin x0 x1) := by
  unfold spec_l1LeastK
  repeat' (first | exact .fin | exact .none | refine .cond ?_ ?_ | refine .bind fun _ => ?_ | refine .sum (fun _ => ?_) fun _ => ?_)
def c118 : Callee := mkC [.one (.ro (.int .i64)), .one (.ro (.int .i64))] 1 [.one (.ro (.int .i64))] fun x => spec_l1Least x.1 x.2
theorem e118 (x : PK.dens [.one (.ro (.int .i64)), .one (.ro (.int .i64))]) : evalFn Try.prog EL118 or0 Try.f118 (PK.outs [.one (.ro (.int .i64)), .one (.ro (.int .i64))] x) =
    spec_l1LeastK (fun y => some (tupOf ((PK.outs [.one (.ro (.int .i64))] y).take 1), (PK.outs [.one (.ro (.int .i64))] y).drop 1)) x.1 x.2 := by kernel_rfl
theorem k118 : CalleeOk Try.prog 118 c118 := callee_mk Try.func118 (code := codeOf Try.f118) (by kernel_rfl) vL118 mixed (LoOk.nil (by kernel_rfl)) fun x y h => (e118 x).trans (p118 _ x.1 x.2 y h)

/-- spec.mfState).push -/
def EL116 : Nat → Option Callee := addE 118 c118 env0
theorem vL116 : EnvOk Try.prog EL116 := EnvOk.nil.add Try.func118 rfl (by kernel_rfl) k118
def sspec_mfState_push_l0 : LS := ⟨[(0, .one (.fix (.ptr 0 0))), (1, .one (.dat (.int .i64))), (2, .one (.dat (.int .i64))), (3, .one (.dat (.slice (.int .i64)))), (4, .one (.fix (.sref 2)))], [.box [.dat (.int .i64), .dat (.slice (.int .i64)), .fix (.sref 1), .dat (.slice (.slice (.int .i64)))], .sl (.int .i64), .sl (.int .i64)], [0, 4]⟩
def sspec_mfState_push_l0x0 : LS := ⟨[(0, .one (.fix (.ptr 0 0))), (4, .one (.fix (.sref 2))), (10, .one (.dat (.int .i64)))], [.box [.dat (.int .i64), .dat (.slice (.int .i64)), .fix (.sref 1), .dat (.slice (.slice (.int .i64)))], .sl (.int .i64), .sl (.int .i64)], [0, 4]⟩
def sspec_mfState_push_l0x1 : LS := ⟨[(0, .one (.fix (.ptr 0 0))), (4, .one (.fix (.sref 2)))], [.box [.dat (.int .i64), .dat (.slice (.int .i64)), .fix (.sref 1), .dat (.slice (.slice (.int .i64)))], .sl (.int .i64), .sl (.int .i64)], [0, 4]⟩
def xspec_mfState_push_l0 : List (XS (Int × Int × (List Int))) := [⟨.ret, ⟨[0, 4, 10], [.slot 0, .cell 0 2, .slot 4], [0, 4], []⟩, sspec_mfState_push_l0x0, Int × Int × (List Int) × (List (List Int)) × (List Int) × (List Int), fun i y => (((), ((), (y.1, ()))), ((y.2.1, (y.2.2.1, ((), (y.2.2.2.1, ())))), (y.2.2.2.2.1, (y.2.2.2.2.2, ()))))⟩,
  ⟨.exit 0, ⟨[0, 4], [.slot 0, .cell 0 2, .slot 4], [0, 4], []⟩, sspec_mfState_push_l0x1, Int × (List Int) × (List (List Int)) × (List Int) × (List Int), fun i y => (((), ((), ())), ((y.1, (y.2.1, ((), (y.2.2.1, ())))), (y.2.2.2.1, (y.2.2.2.2, ()))))⟩]
def spec_mfState_push_l0K {R : Type} (slf : ((Int × (List Int) × (List Int) × (List (List Int))) × Int × Int × (List Int) × (List Int)) → Option (Int × (Int × (List Int) × (List Int) × (List (List Int))) × (List Int))) (a0 : Int) (a1 : Int) (a2 : List Int) (rc : Int → List Int → List (List Int) → List Int → List Int → Option R) (fin : ((Int × Int × (List Int) × (List (List Int)) × (List Int) × (List Int)) ⊕ (Int × (List Int) × (List (List Int)) × (List Int) × (List Int))) → Option R) (a3 : Int) (a4 : List Int) (a5 : List (List Int)) (a6 : List Int) (a7 : List Int) : Option R :=
  cond (decide ((0 : Int) ≤ a0) && decide (a0 < (a7.length : Int)))
  ((lat a5 a0).bind fun e1 =>
    cond (decide ((a7.getD (0 + a0.toNat) 0) < (e1.length : Int)))
    ((lat a5 a0).bind fun e2 =>
      cond (decide ((0 : Int) ≤ a0) && decide (a0 < (a7.length : Int)))
      ((lat e2 (a7.getD (0 + a0.toNat) 0)).bind fun e3 =>
        cond (decide ((0 : Int) ≤ e3) && decide (e3 < (a6.length : Int)))
        (cond ((a6.getD (0 + e3.toNat) 0) == 0)
          (cond (decide ((0 : Int) ≤ a0) && decide (a0 < (a7.length : Int)))
            (cond (decide ((0 : Int) ≤ a0) && decide (a0 < (a7.length : Int)))
              ((some (a7.set (0 + a0.toNat) (IntKind.i64.wrap ((a7.getD (0 + a0.toNat) 0) + 1)))).bind fun v4 =>
                rc a3 a4 a5 a6 v4)
              (none))
            (none))
          ((lat a4 e3).bind fun e5 =>
            (lat a2 e5).bind fun e6 =>
            (lat a2 a0).bind fun e7 =>
            cond (e6 != (IntKind.i64.wrap (e7 + 1)))
            (cond (decide ((0 : Int) ≤ a0) && decide (a0 < (a7.length : Int)))
              (cond (decide ((0 : Int) ≤ a0) && decide (a0 < (a7.length : Int)))
                ((some (a7.set (0 + a0.toNat) (IntKind.i64.wrap ((a7.getD (0 + a0.toNat) 0) + 1)))).bind fun v8 =>
                  rc a3 a4 a5 a6 v8)
                (none))
              (none))
            ((lat a4 e3).bind fun e9 =>
              cond (decide ((0 : Int) ≤ e3) && decide (e3 < (a6.length : Int)))
              ((spec_l1Least a1 (a6.getD (0 + e3.toNat) 0)).bind fun y10 =>
                (slf ((a3, (a4, (a6, a5))), (e9, (y10, (a2, a7))))).bind fun y11 =>
                cond (decide (y11.1 > 0))
                (cond (decide ((0 : Int) ≤ e3) && decide (e3 < (y11.2.1.2.2.1.length : Int)))
                  (cond (decide ((0 : Int) ≤ e3) && decide (e3 < (y11.2.1.2.2.1.length : Int)))
                    ((some (y11.2.1.2.2.1.set (0 + e3.toNat) (IntKind.i64.wrap ((y11.2.1.2.2.1.getD (0 + e3.toNat) 0) - y11.1)))).bind fun v12 =>
                      cond (decide ((0 : Int) ≤ xorI .i64 e3 1) && decide (xorI .i64 e3 1 < (v12.length : Int)))
                      (cond (decide ((0 : Int) ≤ xorI .i64 e3 1) && decide (xorI .i64 e3 1 < (v12.length : Int)))
                        ((some (v12.set (0 + (xorI .i64 e3 1).toNat) (IntKind.i64.wrap ((v12.getD (0 + (xorI .i64 e3 1).toNat) 0) + y11.1)))).bind fun v13 =>
                          fin (.inl (y11.1, (y11.2.1.1, (y11.2.1.2.1, (y11.2.1.2.2.2, (v13, y11.2.2)))))))
                        (none))
                      (none))
                    (none))
                  (none))
                (cond (decide ((0 : Int) ≤ a0) && decide (a0 < (y11.2.2.length : Int)))
                  (cond (decide ((0 : Int) ≤ a0) && decide (a0 < (y11.2.2.length : Int)))
                    ((some (y11.2.2.set (0 + a0.toNat) (IntKind.i64.wrap ((y11.2.2.getD (0 + a0.toNat) 0) + 1)))).bind fun v14 =>
                      rc y11.2.1.1 y11.2.1.2.1 y11.2.1.2.2.2 y11.2.1.2.2.1 v14)
                    (none))
                  (none)))
              (none))))
        (none))
      (none))
    (fin (.inr (a3, (a4, (a5, (a6, a7)))))))
  (none)
def spec_mfState_push_l0F (slf : ((Int × (List Int) × (List Int) × (List (List Int))) × Int × Int × (List Int) × (List Int)) → Option (Int × (Int × (List Int) × (List Int) × (List (List Int))) × (List Int))) (a0 : Int) (a1 : Int) (a2 : List Int) (r : (Int × (List Int) × (List (List Int)) × (List Int) × (List Int)) → Option ((Int × Int × (List Int) × (List (List Int)) × (List Int) × (List Int)) ⊕ (Int × (List Int) × (List (List Int)) × (List Int) × (List Int)))) (x : Int × (List Int) × (List (List Int)) × (List Int) × (List Int)) : Option ((Int × Int × (List Int) × (List (List Int)) × (List Int) × (List Int)) ⊕ (Int × (List Int) × (List (List Int)) × (List Int) × (List Int))) := spec_mfState_push_l0K slf a0 a1 a2 (fun a3 a4 a5 a6 a7 => r (a3, (a4, (a5, (a6, a7))))) some x.1 x.2.1 x.2.2.1 x.2.2.2.1 x.2.2.2.2
theorem spec_mfState_push_l0c (slf : ((Int × (List Int) × (List Int) × (List (List Int))) × Int × Int × (List Int) × (List Int)) → Option (Int × (Int × (List Int) × (List Int) × (List (List Int))) × (List Int))) (a0 : Int) (a1 : Int) (a2 : List Int) (x : Int × (List Int) × (List (List Int)) × (List Int) × (List Int)) : Ct fun r => spec_mfState_push_l0F slf a0 a1 a2 r x := by
  unfold spec_mfState_push_l0F spec_mfState_push_l0K
  repeat' (first | exact Ct.const | exact Ct.call | refine Ct.cond ?_ ?_ | refine Ct.bind ?_ fun _ => ?_ | refine Ct.sum (fun _ => ?_) fun _ => ?_)
theorem spec_mfState_push_l0d (a0 : Int) (a1 : Int) (a2 : List Int) (D : (Int × (List Int) × (List (List Int)) × (List Int) × (List Int)) → (((Int × (List Int) × (List Int) × (List (List Int))) × Int × Int × (List Int) × (List Int)) → Option (Int × (Int × (List Int) × (List Int) × (List (List Int))) × (List Int))) → Option ((Int × Int × (List Int) × (List (List Int)) × (List Int) × (List Int)) ⊕ (Int × (List Int) × (List (List Int)) × (List Int) × (List Int)))) (hD : ∀ a, Ct (D a)) (x : Int × (List Int) × (List (List Int)) × (List Int) × (List Int)) : Ct fun slf => spec_mfState_push_l0F slf a0 a1 a2 (fun a => D a slf) x := by
  unfold spec_mfState_push_l0F spec_mfState_push_l0K
  repeat' (first | exact Ct.const | exact Ct.call | exact hD _ | refine Ct.cond ?_ ?_ | refine Ct.bind ?_ fun _ => ?_ | refine Ct.sum (fun _ => ?_) fun _ => ?_)
def spec_mfState_push_l0 (slf : ((Int × (List Int) × (List Int) × (List (List Int))) × Int × Int × (List Int) × (List Int)) → Option (Int × (Int × (List Int) × (List Int) × (List (List Int))) × (List Int))) (a0 : Int) (a1 : Int) (a2 : List Int) (a3 : Int) (a4 : List Int) (a5 : List (List Int)) (a6 : List Int) (a7 : List Int) : Option ((Int × Int × (List Int) × (List (List Int)) × (List Int) × (List Int)) ⊕ (Int × (List Int) × (List (List Int)) × (List Int) × (List Int))) := lim (spec_mfState_push_l0F slf a0 a1 a2) (a3, (a4, (a5, (a6, a7))))
theorem spec_mfState_push_l0_eq (slf : ((Int × (List Int) × (List Int) × (List (List Int))) × Int × Int × (List Int) × (List Int)) → Option (Int × (Int × (List Int) × (List Int) × (List (List Int))) × (List Int))) (a0 : Int) (a1 : Int) (a2 : List Int) (a3 : Int) (a4 : List Int) (a5 : List (List Int)) (a6 : List Int) (a7 : List Int) : spec_mfState_push_l0 slf a0 a1 a2 a3 a4 a5 a6 a7 = spec_mfState_push_l0K slf a0 a1 a2 (spec_mfState_push_l0 slf a0 a1 a2) some a3 a4 a5 a6 a7 := lim_eq (spec_mfState_push_l0c slf a0 a1 a2) (a3, (a4, (a5, (a6, a7))))
theorem spec_mfState_push_l0s (a0 : Int) (a1 : Int) (a2 : List Int) (x : Int × (List Int) × (List (List Int)) × (List Int) × (List Int)) : Ct fun slf => lim (spec_mfState_push_l0F slf a0 a1 a2) x := Ct.lim (fun slf a => spec_mfState_push_l0c slf a0 a1 a2 a) (spec_mfState_push_l0d a0 a1 a2) x
theorem spec_mfState_push_l0p {R : Type} (slf : ((Int × (List Int) × (List Int) × (List (List Int))) × Int × Int × (List Int) × (List Int)) → Option (Int × (Int × (List Int) × (List Int) × (List (List Int))) × (List Int))) (a0 : Int) (a1 : Int) (a2 : List Int) {rc : Int → List Int → List (List Int) → List Int → List Int → Option ((Int × Int × (List Int) × (List (List Int)) × (List Int) × (List Int)) ⊕ (Int × (List Int) × (List (List Int)) × (List Int) × (List Int)))} {rc' : Int → List Int → List (List Int) → List Int → List Int → Option R} {fin : ((Int × Int × (List Int) × (List (List Int)) × (List Int) × (List Int)) ⊕ (Int × (List Int) × (List (List Int)) × (List Int) × (List Int))) → Option R} (hr : ∀ a3 a4 a5 a6 a7, Par fin (rc a3 a4 a5 a6 a7) (rc' a3 a4 a5 a6 a7)) (a3 : Int) (a4 : List Int) (a5 : List (List Int)) (a6 : List Int) (a7 : List Int) : Par fin (spec_mfState_push_l0K slf a0 a1 a2 rc some a3 a4 a5 a6 a7) (spec_mfState_push_l0K slf a0 a1 a2 rc' fin a3 a4 a5 a6 a7) := by
  unfold spec_mfState_push_l0K
  repeat' (first | exact .fin | exact .none | exact hr _ _ _ _ _ | refine .cond ?_ ?_ | refine .bind fun _ => ?_ | refine .sum (fun _ => ?_) fun _ => ?_)
def Lspec_mfState_push_l0 (slf : ((Int × (List Int) × (List Int) × (List (List Int))) × Int × Int × (List Int) × (List Int)) → Option (Int × (Int × (List Int) × (List Int) × (List (List Int))) × (List Int))) : Loop := mkL ⟨[0, 1, 2, 3, 4], [.slot 0, .cell 0 2, .slot 4], [0, 4], []⟩ sspec_mfState_push_l0 xspec_mfState_push_l0 (fun (x : (Unit × Int × Int × (List Int) × Unit × Unit) × ((Int × (List Int) × Unit × (List (List Int)) × Unit) × (List Int) × (List Int) × Unit)) => (x.1.2.1, (x.1.2.2.1, x.1.2.2.2.1))) fun (x : (Unit × Int × Int × (List Int) × Unit × Unit) × ((Int × (List Int) × Unit × (List (List Int)) × Unit) × (List Int) × (List Int) × Unit)) => spec_mfState_push_l0 slf x.1.2.1 x.1.2.2.1 x.1.2.2.2.1 x.2.1.1 x.2.1.2.1 x.2.1.2.2.2.1 x.2.2.1 x.2.2.2.1
def spec_mfState_pushK {R : Type} (slf : ((Int × (List Int) × (List Int) × (List (List Int))) × Int × Int × (List Int) × (List Int)) → Option (Int × (Int × (List Int) × (List Int) × (List (List Int))) × (List Int))) (fin : Int × (Int × (List Int) × (List Int) × (List (List Int))) × (List Int) → Option R) (x0 : Int × (List Int) × (List Int) × (List (List Int))) (x1 : Int) (x2 : Int) (x3 : List Int) (x4 : List Int) : Option R :=
  cond (x1 == (IntKind.i64.wrap (x0.1 - 1)))
  (fin (x2, (x0, x4)))
  ((spec_mfState_push_l0 slf x1 x2 x3 x0.1 x0.2.1 x0.2.2.2 x0.2.2.1 x4).bind fun y15 =>
    sumO y15 (fun y16 =>
    fin (y16.1, ((y16.2.1, (y16.2.2.1, (y16.2.2.2.2.1, y16.2.2.2.1))), y16.2.2.2.2.2)))
    (fun y17 =>
    fin (0, ((y17.1, (y17.2.1, (y17.2.2.2.1, y17.2.2.1))), y17.2.2.2.2))))
def spec_mfState_pushF (slf : ((Int × (List Int) × (List Int) × (List (List Int))) × Int × Int × (List Int) × (List Int)) → Option (Int × (Int × (List Int) × (List Int) × (List (List Int))) × (List Int))) (x : (Int × (List Int) × (List Int) × (List (List Int))) × Int × Int × (List Int) × (List Int)) : Option (Int × (Int × (List Int) × (List Int) × (List (List Int))) × (List Int)) := spec_mfState_pushK slf some x.1 x.2.1 x.2.2.1 x.2.2.2.1 x.2.2.2.2
theorem spec_mfState_pushc (x : (Int × (List Int) × (List Int) × (List (List Int))) × Int × Int × (List Int) × (List Int)) : Ct fun slf => spec_mfState_pushF slf x := by
  unfold spec_mfState_pushF spec_mfState_pushK
  repeat' (first | exact Ct.const | exact Ct.call | exact spec_mfState_push_l0s _ _ _ _ | refine Ct.cond ?_ ?_ | refine Ct.bind ?_ fun _ => ?_ | refine Ct.sum (fun _ => ?_) fun _ => ?_)
def spec_mfState_push (x0 : Int × (List Int) × (List Int) × (List (List Int))) (x1 : Int) (x2 : Int) (x3 : List Int) (x4 : List Int) : Option (Int × (Int × (List Int) × (List Int) × (List (List Int))) × (List Int)) := lim spec_mfState_pushF (x0, (x1, (x2, (x3, x4))))
theorem spec_mfState_push_eq (x0 : Int × (List Int) × (List Int) × (List (List Int))) (x1 : Int) (x2 : Int) (x3 : List Int) (x4 : List Int) : spec_mfState_push x0 x1 x2 x3 x4 = spec_mfState_pushK (fun x => spec_mfState_push x.1 x.2.1 x.2.2.1 x.2.2.2.1 x.2.2.2.2) some x0 x1 x2 x3 x4 := lim_eq spec_mfState_pushc (x0, (x1, (x2, (x3, x4))))
theorem p116 {R : Type} (slf : ((Int × (List Int) × (List Int) × (List (List Int))) × Int × Int × (List Int) × (List Int)) → Option (Int × (Int × (List Int) × (List Int) × (List (List Int))) × (List Int))) (fin : Int × (Int × (List Int) × (List Int) × (List (List Int))) × (List Int) → Option R) (x0 : Int × (List Int) × (List Int) × (List (List Int))) (x1 : Int) (x2 : Int) (x3 : List Int) (x4 : List Int) : Par fin (spec_mfState_pushK slf some x0 x1 x2 x3 x4) (spec_mfState_pushK slf fin x0 x1 x2 x3 x4) := by
  unfold spec_mfState_pushK
  repeat' (first | exact .fin | exact .none | refine .cond ?_ ?_ | refine .bind fun _ => ?_ | refine .sum (fun _ => ?_) fun _ => ?_)
def or116 (slf : ((Int × (List Int) × (List Int) × (List (List Int))) × Int × Int × (List Int) × (List Int)) → Option (Int × (Int × (List Int) × (List Int) × (List (List Int))) × (List Int))) : Ora := { lo := addL 3 (Lspec_mfState_push_l0 slf) lo0, fin := [] }
theorem spec_mfState_push_l0e (slf : ((Int × (List Int) × (List Int) × (List (List Int))) × Int × Int × (List Int) × (List Int)) → Option (Int × (Int × (List Int) × (List Int) × (List (List Int))) × (List Int))) (a0 : Int) (a1 : Int) (a2 : List Int) (k : Nat) (a3 : Int) (a4 : List Int) (a5 : List (List Int)) (a6 : List Int) (a7 : List Int) : loopC Try.prog (addE 116 (mkC [.box [.ro (.int .i64), .ro (.slice (.int .i64)), .sl (.int .i64), .ro (.slice (.slice (.int .i64)))], .one (.ro (.int .i64)), .one (.ro (.int .i64)), .one (.ro (.slice (.int .i64))), .one (.sl (.int .i64))] 1 [.one (.ro (.int .i64)), .box [.ro (.int .i64), .ro (.slice (.int .i64)), .sl (.int .i64), .ro (.slice (.slice (.int .i64)))], .one (.sl (.int .i64))] slf) EL116) (or116 slf) ((loopsIn (codeOf Try.f116)).getD 0 .skip) (Lspec_mfState_push_l0 slf).h (Lspec_mfState_push_l0 slf).ho Try.f116.ntmps (k + 1) (sspec_mfState_push_l0.out (((), (a0, (a1, (a2, ((), ()))))), ((a3, (a4, ((), (a5, ())))), (a6, (a7, ()))))) =
    spec_mfState_push_l0K slf a0 a1 a2 (fun a3 a4 a5 a6 a7 => loopC Try.prog (addE 116 (mkC [.box [.ro (.int .i64), .ro (.slice (.int .i64)), .sl (.int .i64), .ro (.slice (.slice (.int .i64)))], .one (.ro (.int .i64)), .one (.ro (.int .i64)), .one (.ro (.slice (.int .i64))), .one (.sl (.int .i64))] 1 [.one (.ro (.int .i64)), .box [.ro (.int .i64), .ro (.slice (.int .i64)), .sl (.int .i64), .ro (.slice (.slice (.int .i64)))], .one (.sl (.int .i64))] slf) EL116) (or116 slf) ((loopsIn (codeOf Try.f116)).getD 0 .skip) (Lspec_mfState_push_l0 slf).h (Lspec_mfState_push_l0 slf).ho Try.f116.ntmps k (sspec_mfState_push_l0.out (((), (a0, (a1, (a2, ((), ()))))), ((a3, (a4, ((), (a5, ())))), (a6, (a7, ())))))) (fun y => some (XS.out xspec_mfState_push_l0 (a0, (a1, a2)) y)) a3 a4 a5 a6 a7 := by kernel_rfl
theorem spec_mfState_push_l0o (slf : ((Int × (List Int) × (List Int) × (List (List Int))) × Int × Int × (List Int) × (List Int)) → Option (Int × (Int × (List Int) × (List Int) × (List (List Int))) × (List Int))) : LoopOk Try.prog (addE 116 (mkC [.box [.ro (.int .i64), .ro (.slice (.int .i64)), .sl (.int .i64), .ro (.slice (.slice (.int .i64)))], .one (.ro (.int .i64)), .one (.ro (.int .i64)), .one (.ro (.slice (.int .i64))), .one (.sl (.int .i64))] 1 [.one (.ro (.int .i64)), .box [.ro (.int .i64), .ro (.slice (.int .i64)), .sl (.int .i64), .ro (.slice (.slice (.int .i64)))], .one (.sl (.int .i64))] slf) EL116) (or116 slf) Try.f116.ntmps ((loopsIn (codeOf Try.f116)).getD 0 .skip) (Lspec_mfState_push_l0 slf) :=
  loop_lim (hs := sspec_mfState_push_l0) (xs := xspec_mfState_push_l0) (ι := fun (x : (Unit × Int × Int × (List Int) × Unit × Unit) × ((Int × (List Int) × Unit × (List (List Int)) × Unit) × (List Int) × (List Int) × Unit)) => (x.1.2.1, (x.1.2.2.1, x.1.2.2.2.1))) (φ := fun (x : (Unit × Int × Int × (List Int) × Unit × Unit) × ((Int × (List Int) × Unit × (List (List Int)) × Unit) × (List Int) × (List Int) × Unit)) => (x.2.1.1, (x.2.1.2.1, (x.2.1.2.2.2.1, (x.2.2.1, x.2.2.2.1))))) (ψ := fun (i : Int × Int × (List Int)) (v : Int × (List Int) × (List (List Int)) × (List Int) × (List Int)) => (((), (i.1, (i.2.1, (i.2.2, ((), ()))))), ((v.1, (v.2.1, ((), (v.2.2.1, ())))), (v.2.2.2.1, (v.2.2.2.2, ()))))) (F := fun (i : Int × Int × (List Int)) => spec_mfState_push_l0F slf i.1 i.2.1 i.2.2) (fun _ => rfl) fun i k hk v => Par.of_eq (spec_mfState_push_l0e slf i.1 i.2.1 i.2.2 k v.1 v.2.1 v.2.2.1 v.2.2.2.1 v.2.2.2.2) (spec_mfState_push_l0p slf i.1 i.2.1 i.2.2 (fun a3 a4 a5 a6 a7 => hk (a3, (a4, (a5, (a6, a7))))) v.1 v.2.1 v.2.2.1 v.2.2.2.1 v.2.2.2.2)
def c116 : Callee := mkC [.box [.ro (.int .i64), .ro (.slice (.int .i64)), .sl (.int .i64), .ro (.slice (.slice (.int .i64)))], .one (.ro (.int .i64)), .one (.ro (.int .i64)), .one (.ro (.slice (.int .i64))), .one (.sl (.int .i64))] 1 [.one (.ro (.int .i64)), .box [.ro (.int .i64), .ro (.slice (.int .i64)), .sl (.int .i64), .ro (.slice (.slice (.int .i64)))], .one (.sl (.int .i64))] fun x => spec_mfState_push x.1 x.2.1 x.2.2.1 x.2.2.2.1 x.2.2.2.2
theorem e116 (slf : ((Int × (List Int) × (List Int) × (List (List Int))) × Int × Int × (List Int) × (List Int)) → Option (Int × (Int × (List Int) × (List Int) × (List (List Int))) × (List Int))) (x : PK.dens [.box [.ro (.int .i64), .ro (.slice (.int .i64)), .sl (.int .i64), .ro (.slice (.slice (.int .i64)))], .one (.ro (.int .i64)), .one (.ro (.int .i64)), .one (.ro (.slice (.int .i64))), .one (.sl (.int .i64))]) : evalFn Try.prog (addE 116 (mkC [.box [.ro (.int .i64), .ro (.slice (.int .i64)), .sl (.int .i64), .ro (.slice (.slice (.int .i64)))], .one (.ro (.int .i64)), .one (.ro (.int .i64)), .one (.ro (.slice (.int .i64))), .one (.sl (.int .i64))] 1 [.one (.ro (.int .i64)), .box [.ro (.int .i64), .ro (.slice (.int .i64)), .sl (.int .i64), .ro (.slice (.slice (.int .i64)))], .one (.sl (.int .i64))] slf) EL116) (or116 slf) Try.f116 (PK.outs [.box [.ro (.int .i64), .ro (.slice (.int .i64)), .sl (.int .i64), .ro (.slice (.slice (.int .i64)))], .one (.ro (.int .i64)), .one (.ro (.int .i64)), .one (.ro (.slice (.int .i64))), .one (.sl (.int .i64))] x) =
    spec_mfState_pushK slf (fun y => some (tupOf ((PK.outs [.one (.ro (.int .i64)), .box [.ro (.int .i64), .ro (.slice (.int .i64)), .sl (.int .i64), .ro (.slice (.slice (.int .i64)))], .one (.sl (.int .i64))] y).take 1), (PK.outs [.one (.ro (.int .i64)), .box [.ro (.int .i64), .ro (.slice (.int .i64)), .sl (.int .i64), .ro (.slice (.slice (.int .i64)))], .one (.sl (.int .i64))] y).drop 1)) x.1 x.2.1 x.2.2.1 x.2.2.2.1 x.2.2.2.2 := by kernel_rfl
theorem o116 (slf : ((Int × (List Int) × (List Int) × (List (List Int))) × Int × Int × (List Int) × (List Int)) → Option (Int × (Int × (List Int) × (List Int) × (List (List Int))) × (List Int))) : LoOk Try.prog (addE 116 (mkC [.box [.ro (.int .i64), .ro (.slice (.int .i64)), .sl (.int .i64), .ro (.slice (.slice (.int .i64)))], .one (.ro (.int .i64)), .one (.ro (.int .i64)), .one (.ro (.slice (.int .i64))), .one (.sl (.int .i64))] 1 [.one (.ro (.int .i64)), .box [.ro (.int .i64), .ro (.slice (.int .i64)), .sl (.int .i64), .ro (.slice (.slice (.int .i64)))], .one (.sl (.int .i64))] slf) EL116) (or116 slf) Try.f116.ntmps (loopsIn (codeOf Try.f116)) :=
  LoOk.mk (m := 1) (by kernel_rfl) fun i hi => match i, hi with
    | 0, _ => ⟨Lspec_mfState_push_l0 slf, by kernel_rfl, spec_mfState_push_l0o slf⟩
    | i + 1, hi => absurd hi (by omega)
theorem k116 : CalleeOk Try.prog 116 c116 := callee_rec (ps := [.box [.ro (.int .i64), .ro (.slice (.int .i64)), .sl (.int .i64), .ro (.slice (.slice (.int .i64)))], .one (.ro (.int .i64)), .one (.ro (.int .i64)), .one (.ro (.slice (.int .i64))), .one (.sl (.int .i64))]) (rs := [.one (.ro (.int .i64)), .box [.ro (.int .i64), .ro (.slice (.int .i64)), .sl (.int .i64), .ro (.slice (.slice (.int .i64)))], .one (.sl (.int .i64))]) (F := spec_mfState_pushF) fun slf hs => callee_mk Try.func116 (code := codeOf Try.f116) (by kernel_rfl) (vL116.add Try.func116 rfl (by kernel_rfl) hs) mixed (o116 slf) fun x y h => (e116 slf x).trans (p116 slf _ x.1 x.2.1 x.2.2.1 x.2.2.2.1 x.2.2.2.2 y h)

/-- spec.mfState).run -/
def EL111 : Nat → Option Callee := addE 116 c116 (addE 112 c112 env0)
theorem vL111 : EnvOk Try.prog EL111 := (EnvOk.nil.add Try.func112 rfl (by kernel_rfl) k112).add Try.func116 rfl (by kernel_rfl) k116
def sspec_mfState_run_l1 : LS := ⟨[(0, .one (.fix (.ptr 0 0))), (3, .one (.dat (.int .i64))), (4, .one (.dat (.slice (.int .i64)))), (5, .one (.fix (.sref 2)))], [.box [.dat (.int .i64), .dat (.slice (.int .i64)), .fix (.sref 1), .dat (.slice (.slice (.int .i64)))], .sl (.int .i64), .sl (.int .i64)], [0]⟩
def sspec_mfState_run_l1x0 : LS := ⟨[(0, .one (.fix (.ptr 0 0))), (3, .one (.dat (.int .i64)))], [.box [.dat (.int .i64), .dat (.slice (.int .i64)), .fix (.sref 1), .dat (.slice (.slice (.int .i64)))], .sl (.int .i64)], [0]⟩
def xspec_mfState_run_l1 : List (XS (List Int)) := [⟨.exit 2, ⟨[0, 3], [.slot 0, .cell 0 2], [0], []⟩, sspec_mfState_run_l1x0, Int × Int × (List Int) × (List (List Int)) × (List Int), fun i y => (((), (y.1, ())), ((y.2.1, (y.2.2.1, ((), (y.2.2.2.1, ())))), (y.2.2.2.2, ())))⟩]
def spec_mfState_run_l1K {R : Type} (a1 : List Int) (rc : Int → Int → List Int → List (List Int) → List Int → List Int → Option R) (fin : Int × Int × (List Int) × (List (List Int)) × (List Int) → Option R) (a0 : Int) (a2 : Int) (a3 : List Int) (a4 : List (List Int)) (a5 : List Int) (a6 : List Int) : Option R :=
  (spec_mfState_push (a2, (a3, (a5, a4))) 0 1125899906842624 a1 a6).bind fun y1 =>
  cond (y1.1 == 0)
  (fin (a0, (y1.2.1.1, (y1.2.1.2.1, (y1.2.1.2.2.2, y1.2.1.2.2.1)))))
  (rc (IntKind.i64.wrap (a0 + y1.1)) y1.2.1.1 y1.2.1.2.1 y1.2.1.2.2.2 y1.2.1.2.2.1 y1.2.2)
def spec_mfState_run_l1F (a1 : List Int) (r : (Int × Int × (List Int) × (List (List Int)) × (List Int) × (List Int)) → Option (Int × Int × (List Int) × (List (List Int)) × (List Int))) (x : Int × Int × (List Int) × (List (List Int)) × (List Int) × (List Int)) : Option (Int × Int × (List Int) × (List (List Int)) × (List Int)) := spec_mfState_run_l1K a1 (fun a0 a2 a3 a4 a5 a6 => r (a0, (a2, (a3, (a4, (a5, a6)))))) some x.1 x.2.1 x.2.2.1 x.2.2.2.1 x.2.2.2.2.1 x.2.2.2.2.2
theorem spec_mfState_run_l1c (a1 : List Int) (x : Int × Int × (List Int) × (List (List Int)) × (List Int) × (List Int)) : Ct fun r => spec_mfState_run_l1F a1 r x := by
  unfold spec_mfState_run_l1F spec_mfState_run_l1K
  repeat' (first | exact Ct.const | exact Ct.call | refine Ct.cond ?_ ?_ | refine Ct.bind ?_ fun _ => ?_ | refine Ct.sum (fun _ => ?_) fun _ => ?_)
def spec_mfState_run_l1 (a1 : List Int) (a0 : Int) (a2 : Int) (a3 : List Int) (a4 : List (List Int)) (a5 : List Int) (a6 : List Int) : Option (Int × Int × (List Int) × (List (List Int)) × (List Int)) := lim (spec_mfState_run_l1F a1) (a0, (a2, (a3, (a4, (a5, a6)))))
theorem spec_mfState_run_l1_eq (a1 : List Int) (a0 : Int) (a2 : Int) (a3 : List Int) (a4 : List (List Int)) (a5 : List Int) (a6 : List Int) : spec_mfState_run_l1 a1 a0 a2 a3 a4 a5 a6 = spec_mfState_run_l1K a1 (spec_mfState_run_l1 a1) some a0 a2 a3 a4 a5 a6 := lim_eq (spec_mfState_run_l1c a1) (a0, (a2, (a3, (a4, (a5, a6)))))
theorem spec_mfState_run_l1p {R : Type} (a1 : List Int) {rc : Int → Int → List Int → List (List Int) → List Int → List Int → Option (Int × Int × (List Int) × (List (List Int)) × (List Int))} {rc' : Int → Int → List Int → List (List Int) → List Int → List Int → Option R} {fin : Int × Int × (List Int) × (List (List Int)) × (List Int) → Option R} (hr : ∀ a0 a2 a3 a4 a5 a6, Par fin (rc a0 a2 a3 a4 a5 a6) (rc' a0 a2 a3 a4 a5 a6)) (a0 : Int) (a2 : Int) (a3 : List Int) (a4 : List (List Int)) (a5 : List Int) (a6 : List Int) : Par fin (spec_mfState_run_l1K a1 rc some a0 a2 a3 a4 a5 a6) (spec_mfState_run_l1K a1 rc' fin a0 a2 a3 a4 a5 a6) := by
  unfold spec_mfState_run_l1K
  repeat' (first | exact .fin | exact .none | exact hr _ _ _ _ _ _ | refine .cond ?_ ?_ | refine .bind fun _ => ?_ | refine .sum (fun _ => ?_) fun _ => ?_)
def Lspec_mfState_run_l1 : Loop := mkL ⟨[0, 3, 4, 5], [.slot 0, .cell 0 2, .slot 5], [0], [.frz (.slot 4)]⟩ sspec_mfState_run_l1 xspec_mfState_run_l1 (fun (x : (Unit × Int × (List Int) × Unit × Unit) × ((Int × (List Int) × Unit × (List (List Int)) × Unit) × (List Int) × (List Int) × Unit)) => x.1.2.2.1) fun (x : (Unit × Int × (List Int) × Unit × Unit) × ((Int × (List Int) × Unit × (List (List Int)) × Unit) × (List Int) × (List Int) × Unit)) => spec_mfState_run_l1 x.1.2.2.1 x.1.2.1 x.2.1.1 x.2.1.2.1 x.2.1.2.2.2.1 x.2.2.1 x.2.2.2.1
def sspec_mfState_run_l0 : LS := ⟨[(0, .one (.fix (.ptr 0 0))), (3, .one (.dat (.int .i64)))], [.box [.dat (.int .i64), .dat (.slice (.int .i64)), .fix (.sref 1), .dat (.slice (.slice (.int .i64)))], .sl (.int .i64)], [0]⟩
def sspec_mfState_run_l0x0 : LS := ⟨[(0, .one (.fix (.ptr 0 0))), (2, .one (.dat (.int .i64)))], [.box [.dat (.int .i64), .dat (.slice (.int .i64)), .fix (.sref 1), .dat (.slice (.slice (.int .i64)))], .sl (.int .i64)], [0]⟩
def xspec_mfState_run_l0 : List (XS (Unit)) := [⟨.ret, ⟨[0, 2], [.slot 0, .cell 0 2], [0], []⟩, sspec_mfState_run_l0x0, Int × Int × (List Int) × (List (List Int)) × (List Int), fun i y => (((), (y.1, ())), ((y.2.1, (y.2.2.1, ((), (y.2.2.2.1, ())))), (y.2.2.2.2, ())))⟩]
def spec_mfState_run_l0K {R : Type} (rc : Int → Int → List Int → List (List Int) → List Int → Option R) (fin : Int × Int × (List Int) × (List (List Int)) × (List Int) → Option R) (a0 : Int) (a1 : Int) (a2 : List Int) (a3 : List (List Int)) (a4 : List Int) : Option R :=
  (spec_mfState_levels (a1, (a2, (a4, a3)))).bind fun y1 =>
  cond (decide ((0 : Int) ≤ IntKind.i64.wrap (y1.2.1 - 1)) && decide (IntKind.i64.wrap (y1.2.1 - 1) < (y1.1.length : Int)))
  (cond (decide ((y1.1.getD (0 + (IntKind.i64.wrap (y1.2.1 - 1)).toNat) 0) < 0))
    (fin (a0, (y1.2.1, (y1.2.2.1, (y1.2.2.2.2, y1.2.2.2.1)))))
    (cond (decide ((0 : Int) ≤ y1.2.1) && (decide (y1.2.1 ≤ y1.2.1) && decide (y1.2.1 ≤ 1099511627776)))
      ((some ((List.replicate y1.2.1.toNat 0 : List Int))).bind fun v2 =>
        (spec_mfState_run_l1 y1.1 a0 y1.2.1 y1.2.2.1 y1.2.2.2.2 y1.2.2.2.1 v2).bind fun y5 =>
        rc y5.1 y5.2.1 y5.2.2.1 y5.2.2.2.1 y5.2.2.2.2)
      (none)))
  (none)
def spec_mfState_run_l0F (r : (Int × Int × (List Int) × (List (List Int)) × (List Int)) → Option (Int × Int × (List Int) × (List (List Int)) × (List Int))) (x : Int × Int × (List Int) × (List (List Int)) × (List Int)) : Option (Int × Int × (List Int) × (List (List Int)) × (List Int)) := spec_mfState_run_l0K (fun a0 a1 a2 a3 a4 => r (a0, (a1, (a2, (a3, a4))))) some x.1 x.2.1 x.2.2.1 x.2.2.2.1 x.2.2.2.2
theorem spec_mfState_run_l0c (x : Int × Int × (List Int) × (List (List Int)) × (List Int)) : Ct fun r => spec_mfState_run_l0F r x := by
  unfold spec_mfState_run_l0F spec_mfState_run_l0K
  repeat' (first | exact Ct.const | exact Ct.call | refine Ct.cond ?_ ?_ | refine Ct.bind ?_ fun _ => ?_ | refine Ct.sum (fun _ => ?_) fun _ => ?_)
def spec_mfState_run_l0 (a0 : Int) (a1 : Int) (a2 : List Int) (a3 : List (List Int)) (a4 : List Int) : Option (Int × Int × (List Int) × (List (List Int)) × (List Int)) := lim (spec_mfState_run_l0F) (a0, (a1, (a2, (a3, a4))))
theorem spec_mfState_run_l0_eq (a0 : Int) (a1 : Int) (a2 : List Int) (a3 : List (List Int)) (a4 : List Int) : spec_mfState_run_l0 a0 a1 a2 a3 a4 = spec_mfState_run_l0K (spec_mfState_run_l0) some a0 a1 a2 a3 a4 := lim_eq (spec_mfState_run_l0c) (a0, (a1, (a2, (a3, a4))))
theorem spec_mfState_run_l0p {R : Type} {rc : Int → Int → List Int → List (List Int) → List Int → Option (Int × Int × (List Int) × (List (List Int)) × (List Int))} {rc' : Int → Int → List Int → List (List Int) → List Int → Option R} {fin : Int × Int × (List Int) × (List (List Int)) × (List Int) → Option R} (hr : ∀ a0 a1 a2 a3 a4, Par fin (rc a0 a1 a2 a3 a4) (rc' a0 a1 a2 a3 a4)) (a0 : Int) (a1 : Int) (a2 : List Int) (a3 : List (List Int)) (a4 : List Int) : Par fin (spec_mfState_run_l0K rc some a0 a1 a2 a3 a4) (spec_mfState_run_l0K rc' fin a0 a1 a2 a3 a4) := by
  unfold spec_mfState_run_l0K
  repeat' (first | exact .fin | exact .none | exact hr _ _ _ _ _ | refine .cond ?_ ?_ | refine .bind fun _ => ?_ | refine .sum (fun _ => ?_) fun _ => ?_)
def Lspec_mfState_run_l0 : Loop := mkL ⟨[0, 3], [.slot 0, .cell 0 2], [0], []⟩ sspec_mfState_run_l0 xspec_mfState_run_l0 (fun (x : (Unit × Int × Unit) × ((Int × (List Int) × Unit × (List (List Int)) × Unit) × (List Int) × Unit)) => ()) fun (x : (Unit × Int × Unit) × ((Int × (List Int) × Unit × (List (List Int)) × Unit) × (List Int) × Unit)) => spec_mfState_run_l0 x.1.2.1 x.2.1.1 x.2.1.2.1 x.2.1.2.2.2.1 x.2.2.1
def spec_mfState_runK {R : Type} (fin : Int × (Int × (List Int) × (List Int) × (List (List Int))) → Option R) (x0 : Int × (List Int) × (List Int) × (List (List Int))) : Option R :=
  (spec_mfState_run_l0 0 x0.1 x0.2.1 x0.2.2.2 x0.2.2.1).bind fun y6 =>
  fin (y6.1, (y6.2.1, (y6.2.2.1, (y6.2.2.2.2, y6.2.2.2.1))))
def spec_mfState_run (x0 : Int × (List Int) × (List Int) × (List (List Int))) : Option (Int × (Int × (List Int) × (List Int) × (List (List Int)))) := spec_mfState_runK some x0
theorem p111 {R : Type} (fin : Int × (Int × (List Int) × (List Int) × (List (List Int))) → Option R) (x0 : Int × (List Int) × (List Int) × (List (List Int))) : Par fin (spec_mfState_runK some x0) (spec_mfState_runK fin x0) := by
  unfold spec_mfState_runK
  repeat' (first | exact .fin | exact .none | refine .cond ?_ ?_ | refine .bind fun _ => ?_ | refine .sum (fun _ => ?_) fun _ => ?_)
def or111 : Ora := { lo := addL 2 (Lspec_mfState_run_l0) (addL 6 (Lspec_mfState_run_l1) lo0), fin := [] }
theorem spec_mfState_run_l1e (a1 : List Int) (k : Nat) (a0 : Int) (a2 : Int) (a3 : List Int) (a4 : List (List Int)) (a5 : List Int) (a6 : List Int) : loopC Try.prog EL111 or111 ((loopsIn (codeOf Try.f111)).getD 1 .skip) (Lspec_mfState_run_l1).h (Lspec_mfState_run_l1).ho Try.f111.ntmps (k + 1) (sspec_mfState_run_l1.out (((), (a0, (a1, ((), ())))), ((a2, (a3, ((), (a4, ())))), (a5, (a6, ()))))) =
    spec_mfState_run_l1K a1 (fun a0 a2 a3 a4 a5 a6 => loopC Try.prog EL111 or111 ((loopsIn (codeOf Try.f111)).getD 1 .skip) (Lspec_mfState_run_l1).h (Lspec_mfState_run_l1).ho Try.f111.ntmps k (sspec_mfState_run_l1.out (((), (a0, (a1, ((), ())))), ((a2, (a3, ((), (a4, ())))), (a5, (a6, ())))))) (fun y => some (XS.out xspec_mfState_run_l1 a1 y)) a0 a2 a3 a4 a5 a6 := by kernel_rfl
theorem spec_mfState_run_l1o : LoopOk Try.prog EL111 or111 Try.f111.ntmps ((loopsIn (codeOf Try.f111)).getD 1 .skip) (Lspec_mfState_run_l1) :=
  loop_lim (hs := sspec_mfState_run_l1) (xs := xspec_mfState_run_l1) (ι := fun (x : (Unit × Int × (List Int) × Unit × Unit) × ((Int × (List Int) × Unit × (List (List Int)) × Unit) × (List Int) × (List Int) × Unit)) => x.1.2.2.1) (φ := fun (x : (Unit × Int × (List Int) × Unit × Unit) × ((Int × (List Int) × Unit × (List (List Int)) × Unit) × (List Int) × (List Int) × Unit)) => (x.1.2.1, (x.2.1.1, (x.2.1.2.1, (x.2.1.2.2.2.1, (x.2.2.1, x.2.2.2.1)))))) (ψ := fun (i : List Int) (v : Int × Int × (List Int) × (List (List Int)) × (List Int) × (List Int)) => (((), (v.1, (i, ((), ())))), ((v.2.1, (v.2.2.1, ((), (v.2.2.2.1, ())))), (v.2.2.2.2.1, (v.2.2.2.2.2, ()))))) (F := fun (i : List Int) => spec_mfState_run_l1F i) (fun _ => rfl) fun i k hk v => Par.of_eq (spec_mfState_run_l1e i k v.1 v.2.1 v.2.2.1 v.2.2.2.1 v.2.2.2.2.1 v.2.2.2.2.2) (spec_mfState_run_l1p i (fun a0 a2 a3 a4 a5 a6 => hk (a0, (a2, (a3, (a4, (a5, a6)))))) v.1 v.2.1 v.2.2.1 v.2.2.2.1 v.2.2.2.2.1 v.2.2.2.2.2)
theorem spec_mfState_run_l0e (k : Nat) (a0 : Int) (a1 : Int) (a2 : List Int) (a3 : List (List Int)) (a4 : List Int) : loopC Try.prog EL111 or111 ((loopsIn (codeOf Try.f111)).getD 0 .skip) (Lspec_mfState_run_l0).h (Lspec_mfState_run_l0).ho Try.f111.ntmps (k + 1) (sspec_mfState_run_l0.out (((), (a0, ())), ((a1, (a2, ((), (a3, ())))), (a4, ())))) =
    spec_mfState_run_l0K (fun a0 a1 a2 a3 a4 => loopC Try.prog EL111 or111 ((loopsIn (codeOf Try.f111)).getD 0 .skip) (Lspec_mfState_run_l0).h (Lspec_mfState_run_l0).ho Try.f111.ntmps k (sspec_mfState_run_l0.out (((), (a0, ())), ((a1, (a2, ((), (a3, ())))), (a4, ()))))) (fun y => some (XS.out xspec_mfState_run_l0 () y)) a0 a1 a2 a3 a4 := by kernel_rfl
theorem spec_mfState_run_l0o : LoopOk Try.prog EL111 or111 Try.f111.ntmps ((loopsIn (codeOf Try.f111)).getD 0 .skip) (Lspec_mfState_run_l0) :=
  loop_lim (hs := sspec_mfState_run_l0) (xs := xspec_mfState_run_l0) (ι := fun (x : (Unit × Int × Unit) × ((Int × (List Int) × Unit × (List (List Int)) × Unit) × (List Int) × Unit)) => ()) (φ := fun (x : (Unit × Int × Unit) × ((Int × (List Int) × Unit × (List (List Int)) × Unit) × (List Int) × Unit)) => (x.1.2.1, (x.2.1.1, (x.2.1.2.1, (x.2.1.2.2.2.1, x.2.2.1))))) (ψ := fun (i : Unit) (v : Int × Int × (List Int) × (List (List Int)) × (List Int)) => (((), (v.1, ())), ((v.2.1, (v.2.2.1, ((), (v.2.2.2.1, ())))), (v.2.2.2.2, ())))) (F := fun (i : Unit) => spec_mfState_run_l0F) (fun _ => rfl) fun i k hk v => Par.of_eq (spec_mfState_run_l0e k v.1 v.2.1 v.2.2.1 v.2.2.2.1 v.2.2.2.2) (spec_mfState_run_l0p (fun a0 a1 a2 a3 a4 => hk (a0, (a1, (a2, (a3, a4))))) v.1 v.2.1 v.2.2.1 v.2.2.2.1 v.2.2.2.2)
def c111 : Callee := mkC [.box [.ro (.int .i64), .ro (.slice (.int .i64)), .sl (.int .i64), .ro (.slice (.slice (.int .i64)))]] 1 [.one (.ro (.int .i64)), .box [.ro (.int .i64), .ro (.slice (.int .i64)), .sl (.int .i64), .ro (.slice (.slice (.int .i64)))]] fun x => spec_mfState_run x
theorem e111 (x : PK.dens [.box [.ro (.int .i64), .ro (.slice (.int .i64)), .sl (.int .i64), .ro (.slice (.slice (.int .i64)))]]) : evalFn Try.prog EL111 or111 Try.f111 (PK.outs [.box [.ro (.int .i64), .ro (.slice (.int .i64)), .sl (.int .i64), .ro (.slice (.slice (.int .i64)))]] x) =
    spec_mfState_runK (fun y => some (tupOf ((PK.outs [.one (.ro (.int .i64)), .box [.ro (.int .i64), .ro (.slice (.int .i64)), .sl (.int .i64), .ro (.slice (.slice (.int .i64)))]] y).take 1), (PK.outs [.one (.ro (.int .i64)), .box [.ro (.int .i64), .ro (.slice (.int .i64)), .sl (.int .i64), .ro (.slice (.slice (.int .i64)))]] y).drop 1)) x := by kernel_rfl
theorem o111 : LoOk Try.prog EL111 or111 Try.f111.ntmps (loopsIn (codeOf Try.f111)) :=
  LoOk.mk (m := 2) (by kernel_rfl) fun i hi => match i, hi with
    | 0, _ => ⟨Lspec_mfState_run_l0, by kernel_rfl, spec_mfState_run_l0o⟩
    | 1, _ => ⟨Lspec_mfState_run_l1, by kernel_rfl, spec_mfState_run_l1o⟩
    | i + 2, hi => absurd hi (by omega)
theorem k111 : CalleeOk Try.prog 111 c111 := callee_mk Try.func111 (code := codeOf Try.f111) (by kernel_rfl) vL111 mixed o111 fun x y h => (e111 x).trans (p111 _ x y h)

/-- spec.mfLeast -/
def EL84 : Nat → Option Callee := addE 112 c112 (addE 111 c111 (addE 110 c110 env0))
theorem vL84 : EnvOk Try.prog EL84 := ((EnvOk.nil.add Try.func110 rfl (by kernel_rfl) k110).add Try.func111 rfl (by kernel_rfl) k111).add Try.func112 rfl (by kernel_rfl) k112
def sspec_mfLeast_l0 : LS := ⟨[(6, .one (.fix (.sref 0))), (15, .one (.fix (.sref 1))), (16, .one (.dat (.int .i64))), (17, .one (.dat (.int .i64)))], [.sl (.int .i64), .sl (.int .i64)], []⟩
def sspec_mfLeast_l0x0 : LS := ⟨[(6, .one (.fix (.sref 0)))], [.sl (.int .i64)], []⟩
def xspec_mfLeast_l0 : List (XS (Int × (List Int))) := [⟨.exit 0, ⟨[6], [.slot 6], [], []⟩, sspec_mfLeast_l0x0, List Int, fun i y => (((), ()), (y, ()))⟩]
def spec_mfLeast_l0K {R : Type} (a0 : Int) (a3 : List Int) (rc : Int → List Int → Option R) (fin : List Int → Option R) (a1 : Int) (a2 : List Int) : Option R :=
  cond (decide (a1 < a0))
  (cond (decide ((0 : Int) ≤ a1) && decide (a1 < (a3.length : Int)))
    (cond (decide ((a3.getD (0 + a1.toNat) 0) ≥ 0))
      (cond (decide (a2.length + [a1].length ≤ 1099511627776))
        (rc (IntKind.i64.wrap (a1 + 1)) (a2 ++ [a1]))
        (none))
      (rc (IntKind.i64.wrap (a1 + 1)) a2))
    (none))
  (fin a2)
def spec_mfLeast_l0F (a0 : Int) (a3 : List Int) (r : (Int × (List Int)) → Option (List Int)) (x : Int × (List Int)) : Option (List Int) := spec_mfLeast_l0K a0 a3 (fun a1 a2 => r (a1, a2)) some x.1 x.2
theorem spec_mfLeast_l0c (a0 : Int) (a3 : List Int) (x : Int × (List Int)) : Ct fun r => spec_mfLeast_l0F a0 a3 r x := by
  unfold spec_mfLeast_l0F spec_mfLeast_l0K
  repeat' (first | exact Ct.const | exact Ct.call | refine Ct.cond ?_ ?_ | refine Ct.bind ?_ fun _ => ?_ | refine Ct.sum (fun _ => ?_) fun _ => ?_)
def spec_mfLeast_l0 (a0 : Int) (a3 : List Int) (a1 : Int) (a2 : List Int) : Option (List Int) := lim (spec_mfLeast_l0F a0 a3) (a1, a2)
theorem spec_mfLeast_l0_eq (a0 : Int) (a3 : List Int) (a1 : Int) (a2 : List Int) : spec_mfLeast_l0 a0 a3 a1 a2 = spec_mfLeast_l0K a0 a3 (spec_mfLeast_l0 a0 a3) some a1 a2 := lim_eq (spec_mfLeast_l0c a0 a3) (a1, a2)
theorem spec_mfLeast_l0p {R : Type} (a0 : Int) (a3 : List Int) {rc : Int → List Int → Option (List Int)} {rc' : Int → List Int → Option R} {fin : List Int → Option R} (hr : ∀ a1 a2, Par fin (rc a1 a2) (rc' a1 a2)) (a1 : Int) (a2 : List Int) : Par fin (spec_mfLeast_l0K a0 a3 rc some a1 a2) (spec_mfLeast_l0K a0 a3 rc' fin a1 a2) := by
  unfold spec_mfLeast_l0K
  repeat' (first | exact .fin | exact .none | exact hr _ _ | refine .cond ?_ ?_ | refine .bind fun _ => ?_ | refine .sum (fun _ => ?_) fun _ => ?_)
def Lspec_mfLeast_l0 : Loop := mkL ⟨[6, 15, 16, 17], [.slot 6, .slot 15], [], [.own (.slot 6) (.int .i64)]⟩ sspec_mfLeast_l0 xspec_mfLeast_l0 (fun (x : (Unit × Unit × Int × Int × Unit) × ((List Int) × (List Int) × Unit)) => (x.1.2.2.1, x.2.2.1)) fun (x : (Unit × Unit × Int × Int × Unit) × ((List Int) × (List Int) × Unit)) => spec_mfLeast_l0 x.1.2.2.1 x.2.2.1 x.1.2.2.2.1 x.2.1
def spec_mfLeastK {R : Type} (fin : List Int → Option R) (x0 : Int) (x1 : List DEdge) : Option R :=
  (spec_mfStart x0 x1).bind fun y1 =>
  (spec_mfState_run y1).bind fun y2 =>
  (spec_mfState_levels y2.2).bind fun y3 =>
  (spec_mfLeast_l0 (y3.1.length : Int) y3.1 0 []).bind fun y4 =>
  fin y4
def spec_mfLeast (x0 : Int) (x1 : List DEdge) : Option (List Int) := spec_mfLeastK some x0 x1
theorem p84 {R : Type} (fin : List Int → Option R) (x0 : Int) (x1 : List DEdge) : Par fin (spec_mfLeastK some x0 x1) (spec_mfLeastK fin x0 x1) := by
  unfold spec_mfLeastK
  repeat' (first | exact .fin | exact .none | refine .cond ?_ ?_ | refine .bind fun _ => ?_ | refine .sum (fun _ => ?_) fun _ => ?_)
def or84 : Ora := { lo := addL 5 (Lspec_mfLeast_l0) lo0, fin := [], fz := fun i => cond (decide (i = 2)) [.frz (.cell 5 1), .frz (.cell 5 3)] <| [] }
theorem spec_mfLeast_l0e (a0 : Int) (a3 : List Int) (k : Nat) (a1 : Int) (a2 : List Int) : loopC Try.prog EL84 or84 ((loopsIn (codeOf Try.f84)).getD 0 .skip) (Lspec_mfLeast_l0).h (Lspec_mfLeast_l0).ho Try.f84.ntmps (k + 1) (sspec_mfLeast_l0.out (((), ((), (a0, (a1, ())))), (a2, (a3, ())))) =
    spec_mfLeast_l0K a0 a3 (fun a1 a2 => loopC Try.prog EL84 or84 ((loopsIn (codeOf Try.f84)).getD 0 .skip) (Lspec_mfLeast_l0).h (Lspec_mfLeast_l0).ho Try.f84.ntmps k (sspec_mfLeast_l0.out (((), ((), (a0, (a1, ())))), (a2, (a3, ()))))) (fun y => some (XS.out xspec_mfLeast_l0 (a0, a3) y)) a1 a2 := by kernel_rfl
theorem spec_mfLeast_l0o : LoopOk Try.prog EL84 or84 Try.f84.ntmps ((loopsIn (codeOf Try.f84)).getD 0 .skip) (Lspec_mfLeast_l0) :=
  loop_lim (hs := sspec_mfLeast_l0) (xs := xspec_mfLeast_l0) (ι := fun (x : (Unit × Unit × Int × Int × Unit) × ((List Int) × (List Int) × Unit)) => (x.1.2.2.1, x.2.2.1)) (φ := fun (x : (Unit × Unit × Int × Int × Unit) × ((List Int) × (List Int) × Unit)) => (x.1.2.2.2.1, x.2.1)) (ψ := fun (i : Int × (List Int)) (v : Int × (List Int)) => (((), ((), (i.1, (v.1, ())))), (v.2, (i.2, ())))) (F := fun (i : Int × (List Int)) => spec_mfLeast_l0F i.1 i.2) (fun _ => rfl) fun i k hk v => Par.of_eq (spec_mfLeast_l0e i.1 i.2 k v.1 v.2) (spec_mfLeast_l0p i.1 i.2 (fun a1 a2 => hk (a1, a2)) v.1 v.2)
def c84 : Callee := mkC [.one (.ro (.int .i64)), .one (.ro (.slice TEdge))] 1 [.one (.sl (.int .i64))] fun x => spec_mfLeast x.1 x.2
theorem e84 (x : PK.dens [.one (.ro (.int .i64)), .one (.ro (.slice TEdge))]) : evalFn Try.prog EL84 or84 Try.f84 (PK.outs [.one (.ro (.int .i64)), .one (.ro (.slice TEdge))] x) =
    spec_mfLeastK (fun y => some (tupOf ((PK.outs [.one (.sl (.int .i64))] y).take 1), (PK.outs [.one (.sl (.int .i64))] y).drop 1)) x.1 x.2 := by kernel_rfl
theorem o84 : LoOk Try.prog EL84 or84 Try.f84.ntmps (loopsIn (codeOf Try.f84)) :=
  LoOk.mk (m := 1) (by kernel_rfl) fun i hi => match i, hi with
    | 0, _ => ⟨Lspec_mfLeast_l0, by kernel_rfl, spec_mfLeast_l0o⟩
    | i + 1, hi => absurd hi (by omega)
theorem k84 : CalleeOk Try.prog 84 c84 := callee_mk Try.func84 (code := codeOf Try.f84) (by kernel_rfl) vL84 mixed o84 fun x y h => (e84 x).trans (p84 _ x.1 x.2 y h)
end
end Go.OAI
