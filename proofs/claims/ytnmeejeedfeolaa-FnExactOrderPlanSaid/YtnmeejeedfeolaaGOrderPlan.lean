/- Contracts: GOrderPlan. -/
import Derived.Test.YtnmeejeedfeolaaGA
import Derived.Test.YtnmeejeedfeolaaGGr
namespace Go.OAI
open Go.Proofs
set_option linter.unusedVariables false
noncomputable section


/-- spec.l1Has -/
def EL99 : Nat → Option Callee := env0
theorem vL99 : EnvOk Try.prog EL99 := EnvOk.nil
def sspec_l1Has_l0 : LS := ⟨[(1, .one (.dat (.int .i64))), (7, .one (.dat (.slice (.int .i64)))), (8, .one (.dat (.int .i64))), (9, .one (.dat (.int .i64)))], [], []⟩
def sspec_l1Has_l0x0 : LS := ⟨[(4, .one (.dat .bool))], [], []⟩
def sspec_l1Has_l0x1 : LS := ⟨[], [], []⟩
def xspec_l1Has_l0 : List (XS (Int × (List Int) × Int)) := [⟨.ret, ⟨[4], [], [], []⟩, sspec_l1Has_l0x0, Bool, fun i y => ((y, ()), ())⟩,
  ⟨.exit 0, ⟨[], [], [], []⟩, sspec_l1Has_l0x1, Unit, fun i y => ((), ())⟩]
def spec_l1Has_l0K {R : Type} (a0 : Int) (a1 : List Int) (a2 : Int) (rc : Int → Option R) (fin : (Bool ⊕ Unit) → Option R) (a3 : Int) : Option R :=
  cond (decide (a3 < a2))
  ((lat a1 a3).bind fun e1 =>
    cond (e1 == a0)
    (fin (.inl true))
    (rc (IntKind.i64.wrap (a3 + 1))))
  (fin (.inr ()))
def spec_l1Has_l0F (a0 : Int) (a1 : List Int) (a2 : Int) (r : Int → Option (Bool ⊕ Unit)) (x : Int) : Option (Bool ⊕ Unit) := spec_l1Has_l0K a0 a1 a2 (fun a3 => r a3) some x
theorem spec_l1Has_l0c (a0 : Int) (a1 : List Int) (a2 : Int) (x : Int) : Ct fun r => spec_l1Has_l0F a0 a1 a2 r x := by
  unfold spec_l1Has_l0F spec_l1Has_l0K
  repeat' (first | exact Ct.const | exact Ct.call | refine Ct.cond ?_ ?_ | refine Ct.bind ?_ fun _ => ?_ | refine Ct.sum (fun _ => ?_) fun _ => ?_)
def spec_l1Has_l0 (a0 : Int) (a1 : List Int) (a2 : Int) (a3 : Int) : Option (Bool ⊕ Unit) := lim (spec_l1Has_l0F a0 a1 a2) a3
theorem spec_l1Has_l0_eq (a0 : Int) (a1 : List Int) (a2 : Int) (a3 : Int) : spec_l1Has_l0 a0 a1 a2 a3 = spec_l1Has_l0K a0 a1 a2 (spec_l1Has_l0 a0 a1 a2) some a3 := lim_eq (spec_l1Has_l0c a0 a1 a2) a3
theorem spec_l1Has_l0p {R : Type} (a0 : Int) (a1 : List Int) (a2 : Int) {rc : Int → Option (Bool ⊕ Unit)} {rc' : Int → Option R} {fin : (Bool ⊕ Unit) → Option R} (hr : ∀ a3, Par fin (rc a3) (rc' a3)) (a3 : Int) : Par fin (spec_l1Has_l0K a0 a1 a2 rc some a3) (spec_l1Has_l0K a0 a1 a2 rc' fin a3) := by
  unfold spec_l1Has_l0K
  repeat' (first | exact .fin | exact .none | exact hr _ | refine .cond ?_ ?_ | refine .bind fun _ => ?_ | refine .sum (fun _ => ?_) fun _ => ?_)
def Lspec_l1Has_l0 : Loop := mkL ⟨[1, 7, 8, 9], [], [], []⟩ sspec_l1Has_l0 xspec_l1Has_l0 (fun (x : (Int × (List Int) × Int × Int × Unit) × (Unit)) => (x.1.1, (x.1.2.1, x.1.2.2.1))) fun (x : (Int × (List Int) × Int × Int × Unit) × (Unit)) => spec_l1Has_l0 x.1.1 x.1.2.1 x.1.2.2.1 x.1.2.2.2.1
def spec_l1HasK {R : Type} (fin : Bool → Option R) (x0 : List Int) (x1 : Int) : Option R :=
  (spec_l1Has_l0 x1 x0 (x0.length : Int) 0).bind fun y2 =>
  sumO y2 (fun y3 =>
  fin y3)
  (fun y4 =>
  fin false)
def spec_l1Has (x0 : List Int) (x1 : Int) : Option (Bool) := spec_l1HasK some x0 x1
theorem p99 {R : Type} (fin : Bool → Option R) (x0 : List Int) (x1 : Int) : Par fin (spec_l1HasK some x0 x1) (spec_l1HasK fin x0 x1) := by
  unfold spec_l1HasK
  repeat' (first | exact .fin | exact .none | refine .cond ?_ ?_ | refine .bind fun _ => ?_ | refine .sum (fun _ => ?_) fun _ => ?_)
def or99 : Ora := { lo := addL 2 (Lspec_l1Has_l0) lo0, fin := [] }
theorem spec_l1Has_l0e (a0 : Int) (a1 : List Int) (a2 : Int) (k : Nat) (a3 : Int) : loopC Try.prog EL99 or99 ((loopsIn (codeOf Try.f99)).getD 0 .skip) (Lspec_l1Has_l0).h (Lspec_l1Has_l0).ho Try.f99.ntmps (k + 1) (sspec_l1Has_l0.out ((a0, (a1, (a2, (a3, ())))), ())) =
    spec_l1Has_l0K a0 a1 a2 (fun a3 => loopC Try.prog EL99 or99 ((loopsIn (codeOf Try.f99)).getD 0 .skip) (Lspec_l1Has_l0).h (Lspec_l1Has_l0).ho Try.f99.ntmps k (sspec_l1Has_l0.out ((a0, (a1, (a2, (a3, ())))), ()))) (fun y => some (XS.out xspec_l1Has_l0 (a0, (a1, a2)) y)) a3 := by kernel_rfl
theorem spec_l1Has_l0o : LoopOk Try.prog EL99 or99 Try.f99.ntmps ((loopsIn (codeOf Try.f99)).getD 0 .skip) (Lspec_l1Has_l0) :=
  loop_lim (hs := sspec_l1Has_l0) (xs := xspec_l1Has_l0) (ι := fun (x : (Int × (List Int) × Int × Int × Unit) × (Unit)) => (x.1.1, (x.1.2.1, x.1.2.2.1))) (φ := fun (x : (Int × (List Int) × Int × Int × Unit) × (Unit)) => x.1.2.2.2.1) (ψ := fun (i : Int × (List Int) × Int) (v : Int) => ((i.1, (i.2.1, (i.2.2, (v, ())))), ())) (F := fun (i : Int × (List Int) × Int) => spec_l1Has_l0F i.1 i.2.1 i.2.2) (fun _ => rfl) fun i k hk v => Par.of_eq (spec_l1Has_l0e i.1 i.2.1 i.2.2 k v) (spec_l1Has_l0p i.1 i.2.1 i.2.2 (fun a3 => hk a3) v)
def c99 : Callee := mkC [.one (.ro (.slice (.int .i64))), .one (.ro (.int .i64))] 1 [.one (.ro .bool)] fun x => spec_l1Has x.1 x.2
theorem e99 (x : PK.dens [.one (.ro (.slice (.int .i64))), .one (.ro (.int .i64))]) : evalFn Try.prog EL99 or99 Try.f99 (PK.outs [.one (.ro (.slice (.int .i64))), .one (.ro (.int .i64))] x) =
    spec_l1HasK (fun y => some (tupOf ((PK.outs [.one (.ro .bool)] y).take 1), (PK.outs [.one (.ro .bool)] y).drop 1)) x.1 x.2 := by kernel_rfl
theorem o99 : LoOk Try.prog EL99 or99 Try.f99.ntmps (loopsIn (codeOf Try.f99)) :=
  LoOk.mk (m := 1) (by kernel_rfl) fun i hi => match i, hi with
    | 0, _ => ⟨Lspec_l1Has_l0, by kernel_rfl, spec_l1Has_l0o⟩
    | i + 1, hi => absurd hi (by omega)
theorem k99 : CalleeOk Try.prog 99 c99 := callee_mk Try.func99 (code := codeOf Try.f99) (by kernel_rfl) vL99 mixed o99 fun x y h => (e99 x).trans (p99 _ x.1 x.2 y h)

/-- spec.OrderPlan -/
def EL50 : Nat → Option Callee := addE 95 c95 (addE 94 c94 (addE 99 c99 (addE 93 c93 (addE 98 c98 (addE 66 c66 env0)))))
theorem vL50 : EnvOk Try.prog EL50 := (((((EnvOk.nil.add Try.func66 rfl (by kernel_rfl) k66).add Try.func98 rfl (by kernel_rfl) k98).add Try.func93 rfl (by kernel_rfl) k93).add Try.func99 rfl (by kernel_rfl) k99).add Try.func94 rfl (by kernel_rfl) k94).add Try.func95 rfl (by kernel_rfl) k95
def sspec_OrderPlan_l1 : LS := ⟨[(2, .one (.fix (.ptr 0 0))), (4, .one (.fix (.ptr 1 0))), (6, .one (.fix (.ptr 2 0))), (7, .one (.fix (.sref 4))), (9, .one (.dat (.int .i64))), (10, .one (.dat (.int .i64))), (26, .one (.dat (.slice (.int .i64)))), (27, .one (.dat (.int .i64))), (28, .one (.dat (.int .i64)))], [.box [.dat (.slice (.slice (.int .i64))), .dat (.slice (.int .i64)), .dat (.slice (.int .i64)), .dat (.int .i64), .dat (.int .i64), .dat (.int .i64), .dat (.int .i64), .dat (.int .i64)], .box [.dat (.int .i64), .fix .nils], .box [.dat (.int .i64), .fix (.sref 3)], .sl (.int .i64), .sl (.int .i64)], []⟩
def sspec_OrderPlan_l1x0 : LS := ⟨[(2, .one (.fix (.ptr 0 0))), (4, .one (.fix (.ptr 1 0))), (6, .one (.fix (.ptr 2 0))), (7, .one (.fix (.sref 4))), (26, .one (.dat (.slice (.int .i64)))), (27, .one (.dat (.int .i64))), (28, .one (.dat (.int .i64)))], [.box [.dat (.slice (.slice (.int .i64))), .dat (.slice (.int .i64)), .dat (.slice (.int .i64)), .dat (.int .i64), .dat (.int .i64), .dat (.int .i64), .dat (.int .i64), .dat (.int .i64)], .box [.dat (.int .i64), .fix .nils], .box [.dat (.int .i64), .fix (.sref 3)], .sl (.int .i64), .sl (.int .i64)], []⟩
def xspec_OrderPlan_l1 : List (XS (Int × (List Int) × Int × Int × (List (List Int)) × (List Int) × (List Int) × Int × Int × Int × Int × Int × Int × Int × (List Int))) := [⟨.exit 2, ⟨[2, 4, 6, 7, 26, 27, 28], [.slot 2, .slot 4, .slot 6, .cell 6 1, .slot 7], [], []⟩, sspec_OrderPlan_l1x0, List Int, fun i y => (((), ((), ((), ((), (i.2.1, (i.2.2.1, (i.2.2.2.1, ()))))))), ((i.2.2.2.2.1, (i.2.2.2.2.2.1, (i.2.2.2.2.2.2.1, (i.2.2.2.2.2.2.2.1, (i.2.2.2.2.2.2.2.2.1, (i.2.2.2.2.2.2.2.2.2.1, (i.2.2.2.2.2.2.2.2.2.2.1, (i.2.2.2.2.2.2.2.2.2.2.2.1, ())))))))), ((i.2.2.2.2.2.2.2.2.2.2.2.2.1, ((), ())), ((i.2.2.2.2.2.2.2.2.2.2.2.2.2.1, ((), ())), (y, (i.2.2.2.2.2.2.2.2.2.2.2.2.2.2, ()))))))⟩]
def spec_OrderPlan_l1K {R : Type} (a0 : Int) (a5 : List (List Int)) (a6 : List Int) (a7 : List Int) (a8 : Int) (a9 : Int) (a10 : Int) (a11 : Int) (a12 : Int) (a14 : Int) (rc : Int → List Int → Option R) (fin : List Int → Option R) (a1 : Int) (a15 : List Int) : Option R :=
  cond (decide (a1 < a10))
  (cond (decide ((0 : Int) ≤ a0) && decide (a0 < (a15.length : Int)))
    (cond (decide ((a15.getD (0 + a0.toNat) 0) < 0))
      ((spec_wiOpen (a5, (a6, (a7, ((a8, (a9, ())), (a10, (a11, (a12, ()))))))) (a14, (a15, ())) a0 a1).bind fun y1 =>
        cond (y1)
        ((spec_wiRoom (a5, (a6, (a7, ((a8, (a9, ())), (a10, (a11, (a12, ()))))))) (a14, (a15, ())) a1 [a0]).bind fun y2 =>
          cond (y2)
          (cond (decide ((0 : Int) ≤ a0) && decide (a0 < (a15.length : Int)))
            ((some (a15.set (0 + a0.toNat) a1)).bind fun v3 =>
              rc (IntKind.i64.wrap (a1 + 1)) v3)
            (none))
          (rc (IntKind.i64.wrap (a1 + 1)) a15))
        (rc (IntKind.i64.wrap (a1 + 1)) a15))
      (fin a15))
    (none))
  (fin a15)
def spec_OrderPlan_l1F (a0 : Int) (a5 : List (List Int)) (a6 : List Int) (a7 : List Int) (a8 : Int) (a9 : Int) (a10 : Int) (a11 : Int) (a12 : Int) (a14 : Int) (r : (Int × (List Int)) → Option (List Int)) (x : Int × (List Int)) : Option (List Int) := spec_OrderPlan_l1K a0 a5 a6 a7 a8 a9 a10 a11 a12 a14 (fun a1 a15 => r (a1, a15)) some x.1 x.2
theorem spec_OrderPlan_l1c (a0 : Int) (a5 : List (List Int)) (a6 : List Int) (a7 : List Int) (a8 : Int) (a9 : Int) (a10 : Int) (a11 : Int) (a12 : Int) (a14 : Int) (x : Int × (List Int)) : Ct fun r => spec_OrderPlan_l1F a0 a5 a6 a7 a8 a9 a10 a11 a12 a14 r x := by
  unfold spec_OrderPlan_l1F spec_OrderPlan_l1K
  repeat' (first | exact Ct.const | exact Ct.call | refine Ct.cond ?_ ?_ | refine Ct.bind ?_ fun _ => ?_ | refine Ct.sum (fun _ => ?_) fun _ => ?_)
def spec_OrderPlan_l1 (a0 : Int) (a5 : List (List Int)) (a6 : List Int) (a7 : List Int) (a8 : Int) (a9 : Int) (a10 : Int) (a11 : Int) (a12 : Int) (a14 : Int) (a1 : Int) (a15 : List Int) : Option (List Int) := lim (spec_OrderPlan_l1F a0 a5 a6 a7 a8 a9 a10 a11 a12 a14) (a1, a15)
theorem spec_OrderPlan_l1_eq (a0 : Int) (a5 : List (List Int)) (a6 : List Int) (a7 : List Int) (a8 : Int) (a9 : Int) (a10 : Int) (a11 : Int) (a12 : Int) (a14 : Int) (a1 : Int) (a15 : List Int) : spec_OrderPlan_l1 a0 a5 a6 a7 a8 a9 a10 a11 a12 a14 a1 a15 = spec_OrderPlan_l1K a0 a5 a6 a7 a8 a9 a10 a11 a12 a14 (spec_OrderPlan_l1 a0 a5 a6 a7 a8 a9 a10 a11 a12 a14) some a1 a15 := lim_eq (spec_OrderPlan_l1c a0 a5 a6 a7 a8 a9 a10 a11 a12 a14) (a1, a15)
theorem spec_OrderPlan_l1p {R : Type} (a0 : Int) (a5 : List (List Int)) (a6 : List Int) (a7 : List Int) (a8 : Int) (a9 : Int) (a10 : Int) (a11 : Int) (a12 : Int) (a14 : Int) {rc : Int → List Int → Option (List Int)} {rc' : Int → List Int → Option R} {fin : List Int → Option R} (hr : ∀ a1 a15, Par fin (rc a1 a15) (rc' a1 a15)) (a1 : Int) (a15 : List Int) : Par fin (spec_OrderPlan_l1K a0 a5 a6 a7 a8 a9 a10 a11 a12 a14 rc some a1 a15) (spec_OrderPlan_l1K a0 a5 a6 a7 a8 a9 a10 a11 a12 a14 rc' fin a1 a15) := by
  unfold spec_OrderPlan_l1K
  repeat' (first | exact .fin | exact .none | exact hr _ _ | refine .cond ?_ ?_ | refine .bind fun _ => ?_ | refine .sum (fun _ => ?_) fun _ => ?_)
def Lspec_OrderPlan_l1 : Loop := mkL ⟨[2, 4, 6, 7, 9, 10, 26, 27, 28], [.slot 2, .slot 4, .slot 6, .cell 6 1, .slot 7], [], []⟩ sspec_OrderPlan_l1 xspec_OrderPlan_l1 (fun (x : (Unit × Unit × Unit × Unit × Int × Int × (List Int) × Int × Int × Unit) × (((List (List Int)) × (List Int) × (List Int) × Int × Int × Int × Int × Int × Unit) × (Int × Unit × Unit) × (Int × Unit × Unit) × (List Int) × (List Int) × Unit)) => (x.1.2.2.2.2.1, (x.1.2.2.2.2.2.2.1, (x.1.2.2.2.2.2.2.2.1, (x.1.2.2.2.2.2.2.2.2.1, (x.2.1.1, (x.2.1.2.1, (x.2.1.2.2.1, (x.2.1.2.2.2.1, (x.2.1.2.2.2.2.1, (x.2.1.2.2.2.2.2.1, (x.2.1.2.2.2.2.2.2.1, (x.2.1.2.2.2.2.2.2.2.1, (x.2.2.1.1, (x.2.2.2.1.1, x.2.2.2.2.2.1))))))))))))))) fun (x : (Unit × Unit × Unit × Unit × Int × Int × (List Int) × Int × Int × Unit) × (((List (List Int)) × (List Int) × (List Int) × Int × Int × Int × Int × Int × Unit) × (Int × Unit × Unit) × (Int × Unit × Unit) × (List Int) × (List Int) × Unit)) => spec_OrderPlan_l1 x.1.2.2.2.2.1 x.2.1.1 x.2.1.2.1 x.2.1.2.2.1 x.2.1.2.2.2.1 x.2.1.2.2.2.2.1 x.2.1.2.2.2.2.2.1 x.2.1.2.2.2.2.2.2.1 x.2.1.2.2.2.2.2.2.2.1 x.2.2.2.1.1 x.1.2.2.2.2.2.1 x.2.2.2.2.1
def sspec_OrderPlan_l0 : LS := ⟨[(2, .one (.fix (.ptr 0 0))), (4, .one (.fix (.ptr 1 0))), (6, .one (.fix (.ptr 2 0))), (7, .one (.fix (.sref 4))), (26, .one (.dat (.slice (.int .i64)))), (27, .one (.dat (.int .i64))), (28, .one (.dat (.int .i64)))], [.box [.dat (.slice (.slice (.int .i64))), .dat (.slice (.int .i64)), .dat (.slice (.int .i64)), .dat (.int .i64), .dat (.int .i64), .dat (.int .i64), .dat (.int .i64), .dat (.int .i64)], .box [.dat (.int .i64), .fix .nils], .box [.dat (.int .i64), .fix (.sref 3)], .sl (.int .i64), .sl (.int .i64)], []⟩
def sspec_OrderPlan_l0x0 : LS := ⟨[(4, .one (.fix (.ptr 0 0))), (5, .one (.dat .bool))], [.box [.dat (.int .i64), .fix .nils]], []⟩
def sspec_OrderPlan_l0x1 : LS := ⟨[(4, .one (.fix (.ptr 0 0))), (6, .one (.fix (.ptr 1 0)))], [.box [.dat (.int .i64), .fix .nils], .box [.dat (.int .i64), .fix (.sref 2)], .sl (.int .i64)], []⟩
def xspec_OrderPlan_l0 : List (XS ((List Int) × Int × (List (List Int)) × (List Int) × (List Int) × Int × Int × Int × Int × Int × Int × Int)) := [⟨.ret, ⟨[4, 5], [.slot 4], [], []⟩, sspec_OrderPlan_l0x0, Bool × Int, fun i y => (((), (y.1, ())), ((y.2, ((), ())), ()))⟩,
  ⟨.exit 0, ⟨[4, 6], [.slot 4, .slot 6, .cell 6 1], [], []⟩, sspec_OrderPlan_l0x1, List Int, fun i y => (((), ((), ())), ((i.2.2.2.2.2.2.2.2.2.2.1, ((), ())), ((i.2.2.2.2.2.2.2.2.2.2.2, ((), ())), (y, ()))))⟩]
def spec_OrderPlan_l0K {R : Type} (a0 : List Int) (a1 : Int) (a3 : List (List Int)) (a4 : List Int) (a5 : List Int) (a6 : Int) (a7 : Int) (a8 : Int) (a9 : Int) (a10 : Int) (a12 : Int) (rc : Int → List Int → List Int → Option R) (fin : ((Bool × Int) ⊕ (List Int)) → Option R) (a2 : Int) (a13 : List Int) (a14 : List Int) : Option R :=
  cond (decide (a2 < a1))
  ((lat a0 a2).bind fun e1 =>
    (spec_l1Has a14 e1).bind fun y2 =>
    cond (y2)
    (fin (.inl (false, 0)))
    (cond (decide (a14.length + [e1].length ≤ 1099511627776))
      ((spec_OrderPlan_l1 e1 a3 a4 a5 a6 a7 a8 a9 a10 a12 0 a13).bind fun y6 =>
        rc (IntKind.i64.wrap (a2 + 1)) y6 (a14 ++ [e1]))
      (none)))
  (fin (.inr a13))
def spec_OrderPlan_l0F (a0 : List Int) (a1 : Int) (a3 : List (List Int)) (a4 : List Int) (a5 : List Int) (a6 : Int) (a7 : Int) (a8 : Int) (a9 : Int) (a10 : Int) (a12 : Int) (r : (Int × (List Int) × (List Int)) → Option ((Bool × Int) ⊕ (List Int))) (x : Int × (List Int) × (List Int)) : Option ((Bool × Int) ⊕ (List Int)) := spec_OrderPlan_l0K a0 a1 a3 a4 a5 a6 a7 a8 a9 a10 a12 (fun a2 a13 a14 => r (a2, (a13, a14))) some x.1 x.2.1 x.2.2
theorem spec_OrderPlan_l0c (a0 : List Int) (a1 : Int) (a3 : List (List Int)) (a4 : List Int) (a5 : List Int) (a6 : Int) (a7 : Int) (a8 : Int) (a9 : Int) (a10 : Int) (a12 : Int) (x : Int × (List Int) × (List Int)) : Ct fun r => spec_OrderPlan_l0F a0 a1 a3 a4 a5 a6 a7 a8 a9 a10 a12 r x := by
  unfold spec_OrderPlan_l0F spec_OrderPlan_l0K
  repeat' (first | exact Ct.const | exact Ct.call | refine Ct.cond ?_ ?_ | refine Ct.bind ?_ fun _ => ?_ | refine Ct.sum (fun _ => ?_) fun _ => ?_)
def spec_OrderPlan_l0 (a0 : List Int) (a1 : Int) (a3 : List (List Int)) (a4 : List Int) (a5 : List Int) (a6 : Int) (a7 : Int) (a8 : Int) (a9 : Int) (a10 : Int) (a12 : Int) (a2 : Int) (a13 : List Int) (a14 : List Int) : Option ((Bool × Int) ⊕ (List Int)) := lim (spec_OrderPlan_l0F a0 a1 a3 a4 a5 a6 a7 a8 a9 a10 a12) (a2, (a13, a14))
theorem spec_OrderPlan_l0_eq (a0 : List Int) (a1 : Int) (a3 : List (List Int)) (a4 : List Int) (a5 : List Int) (a6 : Int) (a7 : Int) (a8 : Int) (a9 : Int) (a10 : Int) (a12 : Int) (a2 : Int) (a13 : List Int) (a14 : List Int) : spec_OrderPlan_l0 a0 a1 a3 a4 a5 a6 a7 a8 a9 a10 a12 a2 a13 a14 = spec_OrderPlan_l0K a0 a1 a3 a4 a5 a6 a7 a8 a9 a10 a12 (spec_OrderPlan_l0 a0 a1 a3 a4 a5 a6 a7 a8 a9 a10 a12) some a2 a13 a14 := lim_eq (spec_OrderPlan_l0c a0 a1 a3 a4 a5 a6 a7 a8 a9 a10 a12) (a2, (a13, a14))
theorem spec_OrderPlan_l0p {R : Type} (a0 : List Int) (a1 : Int) (a3 : List (List Int)) (a4 : List Int) (a5 : List Int) (a6 : Int) (a7 : Int) (a8 : Int) (a9 : Int) (a10 : Int) (a12 : Int) {rc : Int → List Int → List Int → Option ((Bool × Int) ⊕ (List Int))} {rc' : Int → List Int → List Int → Option R} {fin : ((Bool × Int) ⊕ (List Int)) → Option R} (hr : ∀ a2 a13 a14, Par fin (rc a2 a13 a14) (rc' a2 a13 a14)) (a2 : Int) (a13 : List Int) (a14 : List Int) : Par fin (spec_OrderPlan_l0K a0 a1 a3 a4 a5 a6 a7 a8 a9 a10 a12 rc some a2 a13 a14) (spec_OrderPlan_l0K a0 a1 a3 a4 a5 a6 a7 a8 a9 a10 a12 rc' fin a2 a13 a14) := by
  unfold spec_OrderPlan_l0K
  repeat' (first | exact .fin | exact .none | exact hr _ _ _ | refine .cond ?_ ?_ | refine .bind fun _ => ?_ | refine .sum (fun _ => ?_) fun _ => ?_)
def Lspec_OrderPlan_l0 : Loop := mkL ⟨[2, 4, 6, 7, 26, 27, 28], [.slot 2, .slot 4, .slot 6, .cell 6 1, .slot 7], [], [.own (.slot 7) (.int .i64)]⟩ sspec_OrderPlan_l0 xspec_OrderPlan_l0 (fun (x : (Unit × Unit × Unit × Unit × (List Int) × Int × Int × Unit) × (((List (List Int)) × (List Int) × (List Int) × Int × Int × Int × Int × Int × Unit) × (Int × Unit × Unit) × (Int × Unit × Unit) × (List Int) × (List Int) × Unit)) => (x.1.2.2.2.2.1, (x.1.2.2.2.2.2.1, (x.2.1.1, (x.2.1.2.1, (x.2.1.2.2.1, (x.2.1.2.2.2.1, (x.2.1.2.2.2.2.1, (x.2.1.2.2.2.2.2.1, (x.2.1.2.2.2.2.2.2.1, (x.2.1.2.2.2.2.2.2.2.1, (x.2.2.1.1, x.2.2.2.1.1)))))))))))) fun (x : (Unit × Unit × Unit × Unit × (List Int) × Int × Int × Unit) × (((List (List Int)) × (List Int) × (List Int) × Int × Int × Int × Int × Int × Unit) × (Int × Unit × Unit) × (Int × Unit × Unit) × (List Int) × (List Int) × Unit)) => spec_OrderPlan_l0 x.1.2.2.2.2.1 x.1.2.2.2.2.2.1 x.2.1.1 x.2.1.2.1 x.2.1.2.2.1 x.2.1.2.2.2.1 x.2.1.2.2.2.2.1 x.2.1.2.2.2.2.2.1 x.2.1.2.2.2.2.2.2.1 x.2.1.2.2.2.2.2.2.2.1 x.2.2.2.1.1 x.1.2.2.2.2.2.2.1 x.2.2.2.2.1 x.2.2.2.2.2.1
def spec_OrderPlanK {R : Type} (fin : (Int × (List Int)) × Bool → Option R) (x0 : DJob) (x1 : List Int) : Option R :=
  (spec_plJob x0).bind fun y1 =>
  cond (!y1)
  (fin ((0, []), false))
  ((spec_l1All x1 0 (IntKind.i64.wrap ((x0.1.length : Int) - 1))).bind fun y2 =>
    cond (!y2)
    (fin ((0, []), false))
    ((spec_wiEmpty x0).bind fun y3 =>
      (spec_OrderPlan_l0 x1 (x1.length : Int) x0.1 x0.2.1 x0.2.2.1 x0.2.2.2.1.1 x0.2.2.2.1.2.1 x0.2.2.2.2.1 x0.2.2.2.2.2.1 x0.2.2.2.2.2.2.1 y3.1 0 y3.2 []).bind fun y17 =>
      sumO y17 (fun y18 =>
      fin ((y18.2, []), y18.1))
      (fun y19 =>
      fin ((y3.1, y19), true))))
def spec_OrderPlan (x0 : DJob) (x1 : List Int) : Option ((Int × (List Int)) × Bool) := spec_OrderPlanK some x0 x1
theorem p50 {R : Type} (fin : (Int × (List Int)) × Bool → Option R) (x0 : DJob) (x1 : List Int) : Par fin (spec_OrderPlanK some x0 x1) (spec_OrderPlanK fin x0 x1) := by
  unfold spec_OrderPlanK
  repeat' (first | exact .fin | exact .none | refine .cond ?_ ?_ | refine .bind fun _ => ?_ | refine .sum (fun _ => ?_) fun _ => ?_)
def or50 : Ora := { lo := addL 6 (Lspec_OrderPlan_l0) (addL 12 (Lspec_OrderPlan_l1) lo0), fin := [.own (.cell 4 1) (.int .i64)] }
theorem spec_OrderPlan_l1e (a0 : Int) (a2 : List Int) (a3 : Int) (a4 : Int) (a5 : List (List Int)) (a6 : List Int) (a7 : List Int) (a8 : Int) (a9 : Int) (a10 : Int) (a11 : Int) (a12 : Int) (a13 : Int) (a14 : Int) (a16 : List Int) (k : Nat) (a1 : Int) (a15 : List Int) : loopC Try.prog EL50 or50 ((loopsIn (codeOf Try.f50)).getD 1 .skip) (Lspec_OrderPlan_l1).h (Lspec_OrderPlan_l1).ho Try.f50.ntmps (k + 1) (sspec_OrderPlan_l1.out (((), ((), ((), ((), (a0, (a1, (a2, (a3, (a4, ()))))))))), ((a5, (a6, (a7, (a8, (a9, (a10, (a11, (a12, ())))))))), ((a13, ((), ())), ((a14, ((), ())), (a15, (a16, ()))))))) =
    spec_OrderPlan_l1K a0 a5 a6 a7 a8 a9 a10 a11 a12 a14 (fun a1 a15 => loopC Try.prog EL50 or50 ((loopsIn (codeOf Try.f50)).getD 1 .skip) (Lspec_OrderPlan_l1).h (Lspec_OrderPlan_l1).ho Try.f50.ntmps k (sspec_OrderPlan_l1.out (((), ((), ((), ((), (a0, (a1, (a2, (a3, (a4, ()))))))))), ((a5, (a6, (a7, (a8, (a9, (a10, (a11, (a12, ())))))))), ((a13, ((), ())), ((a14, ((), ())), (a15, (a16, ())))))))) (fun y => some (XS.out xspec_OrderPlan_l1 (a0, (a2, (a3, (a4, (a5, (a6, (a7, (a8, (a9, (a10, (a11, (a12, (a13, (a14, a16)))))))))))))) y)) a1 a15 := by kernel_rfl
theorem spec_OrderPlan_l1o : LoopOk Try.prog EL50 or50 Try.f50.ntmps ((loopsIn (codeOf Try.f50)).getD 1 .skip) (Lspec_OrderPlan_l1) :=
  loop_lim (hs := sspec_OrderPlan_l1) (xs := xspec_OrderPlan_l1) (ι := fun (x : (Unit × Unit × Unit × Unit × Int × Int × (List Int) × Int × Int × Unit) × (((List (List Int)) × (List Int) × (List Int) × Int × Int × Int × Int × Int × Unit) × (Int × Unit × Unit) × (Int × Unit × Unit) × (List Int) × (List Int) × Unit)) => (x.1.2.2.2.2.1, (x.1.2.2.2.2.2.2.1, (x.1.2.2.2.2.2.2.2.1, (x.1.2.2.2.2.2.2.2.2.1, (x.2.1.1, (x.2.1.2.1, (x.2.1.2.2.1, (x.2.1.2.2.2.1, (x.2.1.2.2.2.2.1, (x.2.1.2.2.2.2.2.1, (x.2.1.2.2.2.2.2.2.1, (x.2.1.2.2.2.2.2.2.2.1, (x.2.2.1.1, (x.2.2.2.1.1, x.2.2.2.2.2.1))))))))))))))) (φ := fun (x : (Unit × Unit × Unit × Unit × Int × Int × (List Int) × Int × Int × Unit) × (((List (List Int)) × (List Int) × (List Int) × Int × Int × Int × Int × Int × Unit) × (Int × Unit × Unit) × (Int × Unit × Unit) × (List Int) × (List Int) × Unit)) => (x.1.2.2.2.2.2.1, x.2.2.2.2.1)) (ψ := fun (i : Int × (List Int) × Int × Int × (List (List Int)) × (List Int) × (List Int) × Int × Int × Int × Int × Int × Int × Int × (List Int)) (v : Int × (List Int)) => (((), ((), ((), ((), (i.1, (v.1, (i.2.1, (i.2.2.1, (i.2.2.2.1, ()))))))))), ((i.2.2.2.2.1, (i.2.2.2.2.2.1, (i.2.2.2.2.2.2.1, (i.2.2.2.2.2.2.2.1, (i.2.2.2.2.2.2.2.2.1, (i.2.2.2.2.2.2.2.2.2.1, (i.2.2.2.2.2.2.2.2.2.2.1, (i.2.2.2.2.2.2.2.2.2.2.2.1, ())))))))), ((i.2.2.2.2.2.2.2.2.2.2.2.2.1, ((), ())), ((i.2.2.2.2.2.2.2.2.2.2.2.2.2.1, ((), ())), (v.2, (i.2.2.2.2.2.2.2.2.2.2.2.2.2.2, ()))))))) (F := fun (i : Int × (List Int) × Int × Int × (List (List Int)) × (List Int) × (List Int) × Int × Int × Int × Int × Int × Int × Int × (List Int)) => spec_OrderPlan_l1F i.1 i.2.2.2.2.1 i.2.2.2.2.2.1 i.2.2.2.2.2.2.1 i.2.2.2.2.2.2.2.1 i.2.2.2.2.2.2.2.2.1 i.2.2.2.2.2.2.2.2.2.1 i.2.2.2.2.2.2.2.2.2.2.1 i.2.2.2.2.2.2.2.2.2.2.2.1 i.2.2.2.2.2.2.2.2.2.2.2.2.2.1) (fun _ => rfl) fun i k hk v => Par.of_eq (spec_OrderPlan_l1e i.1 i.2.1 i.2.2.1 i.2.2.2.1 i.2.2.2.2.1 i.2.2.2.2.2.1 i.2.2.2.2.2.2.1 i.2.2.2.2.2.2.2.1 i.2.2.2.2.2.2.2.2.1 i.2.2.2.2.2.2.2.2.2.1 i.2.2.2.2.2.2.2.2.2.2.1 i.2.2.2.2.2.2.2.2.2.2.2.1 i.2.2.2.2.2.2.2.2.2.2.2.2.1 i.2.2.2.2.2.2.2.2.2.2.2.2.2.1 i.2.2.2.2.2.2.2.2.2.2.2.2.2.2 k v.1 v.2) (spec_OrderPlan_l1p i.1 i.2.2.2.2.1 i.2.2.2.2.2.1 i.2.2.2.2.2.2.1 i.2.2.2.2.2.2.2.1 i.2.2.2.2.2.2.2.2.1 i.2.2.2.2.2.2.2.2.2.1 i.2.2.2.2.2.2.2.2.2.2.1 i.2.2.2.2.2.2.2.2.2.2.2.1 i.2.2.2.2.2.2.2.2.2.2.2.2.2.1 (fun a1 a15 => hk (a1, a15)) v.1 v.2)
theorem spec_OrderPlan_l0e (a0 : List Int) (a1 : Int) (a3 : List (List Int)) (a4 : List Int) (a5 : List Int) (a6 : Int) (a7 : Int) (a8 : Int) (a9 : Int) (a10 : Int) (a11 : Int) (a12 : Int) (k : Nat) (a2 : Int) (a13 : List Int) (a14 : List Int) : loopC Try.prog EL50 or50 ((loopsIn (codeOf Try.f50)).getD 0 .skip) (Lspec_OrderPlan_l0).h (Lspec_OrderPlan_l0).ho Try.f50.ntmps (k + 1) (sspec_OrderPlan_l0.out (((), ((), ((), ((), (a0, (a1, (a2, ()))))))), ((a3, (a4, (a5, (a6, (a7, (a8, (a9, (a10, ())))))))), ((a11, ((), ())), ((a12, ((), ())), (a13, (a14, ()))))))) =
    spec_OrderPlan_l0K a0 a1 a3 a4 a5 a6 a7 a8 a9 a10 a12 (fun a2 a13 a14 => loopC Try.prog EL50 or50 ((loopsIn (codeOf Try.f50)).getD 0 .skip) (Lspec_OrderPlan_l0).h (Lspec_OrderPlan_l0).ho Try.f50.ntmps k (sspec_OrderPlan_l0.out (((), ((), ((), ((), (a0, (a1, (a2, ()))))))), ((a3, (a4, (a5, (a6, (a7, (a8, (a9, (a10, ())))))))), ((a11, ((), ())), ((a12, ((), ())), (a13, (a14, ())))))))) (fun y => some (XS.out xspec_OrderPlan_l0 (a0, (a1, (a3, (a4, (a5, (a6, (a7, (a8, (a9, (a10, (a11, a12))))))))))) y)) a2 a13 a14 := by kernel_rfl
theorem spec_OrderPlan_l0o : LoopOk Try.prog EL50 or50 Try.f50.ntmps ((loopsIn (codeOf Try.f50)).getD 0 .skip) (Lspec_OrderPlan_l0) :=
  loop_lim (hs := sspec_OrderPlan_l0) (xs := xspec_OrderPlan_l0) (ι := fun (x : (Unit × Unit × Unit × Unit × (List Int) × Int × Int × Unit) × (((List (List Int)) × (List Int) × (List Int) × Int × Int × Int × Int × Int × Unit) × (Int × Unit × Unit) × (Int × Unit × Unit) × (List Int) × (List Int) × Unit)) => (x.1.2.2.2.2.1, (x.1.2.2.2.2.2.1, (x.2.1.1, (x.2.1.2.1, (x.2.1.2.2.1, (x.2.1.2.2.2.1, (x.2.1.2.2.2.2.1, (x.2.1.2.2.2.2.2.1, (x.2.1.2.2.2.2.2.2.1, (x.2.1.2.2.2.2.2.2.2.1, (x.2.2.1.1, x.2.2.2.1.1)))))))))))) (φ := fun (x : (Unit × Unit × Unit × Unit × (List Int) × Int × Int × Unit) × (((List (List Int)) × (List Int) × (List Int) × Int × Int × Int × Int × Int × Unit) × (Int × Unit × Unit) × (Int × Unit × Unit) × (List Int) × (List Int) × Unit)) => (x.1.2.2.2.2.2.2.1, (x.2.2.2.2.1, x.2.2.2.2.2.1))) (ψ := fun (i : (List Int) × Int × (List (List Int)) × (List Int) × (List Int) × Int × Int × Int × Int × Int × Int × Int) (v : Int × (List Int) × (List Int)) => (((), ((), ((), ((), (i.1, (i.2.1, (v.1, ()))))))), ((i.2.2.1, (i.2.2.2.1, (i.2.2.2.2.1, (i.2.2.2.2.2.1, (i.2.2.2.2.2.2.1, (i.2.2.2.2.2.2.2.1, (i.2.2.2.2.2.2.2.2.1, (i.2.2.2.2.2.2.2.2.2.1, ())))))))), ((i.2.2.2.2.2.2.2.2.2.2.1, ((), ())), ((i.2.2.2.2.2.2.2.2.2.2.2, ((), ())), (v.2.1, (v.2.2, ()))))))) (F := fun (i : (List Int) × Int × (List (List Int)) × (List Int) × (List Int) × Int × Int × Int × Int × Int × Int × Int) => spec_OrderPlan_l0F i.1 i.2.1 i.2.2.1 i.2.2.2.1 i.2.2.2.2.1 i.2.2.2.2.2.1 i.2.2.2.2.2.2.1 i.2.2.2.2.2.2.2.1 i.2.2.2.2.2.2.2.2.1 i.2.2.2.2.2.2.2.2.2.1 i.2.2.2.2.2.2.2.2.2.2.2) (fun _ => rfl) fun i k hk v => Par.of_eq (spec_OrderPlan_l0e i.1 i.2.1 i.2.2.1 i.2.2.2.1 i.2.2.2.2.1 i.2.2.2.2.2.1 i.2.2.2.2.2.2.1 i.2.2.2.2.2.2.2.1 i.2.2.2.2.2.2.2.2.1 i.2.2.2.2.2.2.2.2.2.1 i.2.2.2.2.2.2.2.2.2.2.1 i.2.2.2.2.2.2.2.2.2.2.2 k v.1 v.2.1 v.2.2) (spec_OrderPlan_l0p i.1 i.2.1 i.2.2.1 i.2.2.2.1 i.2.2.2.2.1 i.2.2.2.2.2.1 i.2.2.2.2.2.2.1 i.2.2.2.2.2.2.2.1 i.2.2.2.2.2.2.2.2.1 i.2.2.2.2.2.2.2.2.2.1 i.2.2.2.2.2.2.2.2.2.2.2 (fun a2 a13 a14 => hk (a2, (a13, a14))) v.1 v.2.1 v.2.2)
def c50 : Callee := mkC [.agg [.ro TJob], .one (.ro (.slice (.int .i64)))] 2 [.agg [.ro (.int .i64), .sl (.int .i64)], .one (.ro .bool)] fun x => spec_OrderPlan x.1 x.2
theorem e50 (x : PK.dens [.agg [.ro TJob], .one (.ro (.slice (.int .i64)))]) : evalFn Try.prog EL50 or50 Try.f50 (PK.outs [.agg [.ro TJob], .one (.ro (.slice (.int .i64)))] x) =
    spec_OrderPlanK (fun y => some (tupOf ((PK.outs [.agg [.ro (.int .i64), .sl (.int .i64)], .one (.ro .bool)] y).take 2), (PK.outs [.agg [.ro (.int .i64), .sl (.int .i64)], .one (.ro .bool)] y).drop 2)) x.1 x.2 := by kernel_rfl
theorem o50 : LoOk Try.prog EL50 or50 Try.f50.ntmps (loopsIn (codeOf Try.f50)) :=
  LoOk.mk (m := 2) (by kernel_rfl) fun i hi => match i, hi with
    | 0, _ => ⟨Lspec_OrderPlan_l0, by kernel_rfl, spec_OrderPlan_l0o⟩
    | 1, _ => ⟨Lspec_OrderPlan_l1, by kernel_rfl, spec_OrderPlan_l1o⟩
    | i + 2, hi => absurd hi (by omega)
theorem k50 : CalleeOk Try.prog 50 c50 := callee_mk Try.func50 (code := codeOf Try.f50) (by kernel_rfl) vL50 mixed o50 fun x y h => (e50 x).trans (p50 _ x.1 x.2 y h)

/-- impl.OrderPlan -/
def EL51 : Nat → Option Callee := addE 97 c97 (addE 96 c96 (addE 70 c70 env0))
theorem vL51 : EnvOk Try.prog EL51 := ((EnvOk.nil.add Try.func70 rfl (by kernel_rfl) k70).add Try.func96 rfl (by kernel_rfl) k96).add Try.func97 rfl (by kernel_rfl) k97
def simpl_OrderPlan_l0 : LS := ⟨[(1, .one (.dat (.slice (.int .i64)))), (2, .one (.fix (.ptr 0 0))), (4, .one (.fix (.ptr 1 0))), (6, .one (.fix (.sref 2))), (29, .one (.dat (.slice (.int .i64)))), (30, .one (.dat (.int .i64))), (31, .one (.dat (.int .i64)))], [.box [.dat (.slice (.slice (.int .i64))), .dat (.slice (.int .i64)), .dat (.slice (.int .i64)), .dat (.int .i64), .dat (.int .i64), .dat (.int .i64), .dat (.int .i64), .dat (.int .i64)], .box [.dat (.int .i64), .fix .nils], .sl .bool], []⟩
def simpl_OrderPlan_l0x0 : LS := ⟨[(4, .one (.fix (.ptr 0 0))), (5, .one (.dat .bool))], [.box [.dat (.int .i64), .fix .nils]], []⟩
def simpl_OrderPlan_l0x1 : LS := ⟨[(1, .one (.dat (.slice (.int .i64)))), (2, .one (.fix (.ptr 0 0))), (4, .one (.fix (.ptr 1 0)))], [.box [.dat (.slice (.slice (.int .i64))), .dat (.slice (.int .i64)), .dat (.slice (.int .i64)), .dat (.int .i64), .dat (.int .i64), .dat (.int .i64), .dat (.int .i64), .dat (.int .i64)], .box [.dat (.int .i64), .fix .nils]], []⟩
def ximpl_OrderPlan_l0 : List (XS ((List Int) × (List Int) × Int × (List (List Int)) × (List Int) × (List Int) × Int × Int × Int × Int × Int × Int)) := [⟨.ret, ⟨[4, 5], [.slot 4], [], []⟩, simpl_OrderPlan_l0x0, Bool × Int, fun i y => (((), (y.1, ())), ((y.2, ((), ())), ()))⟩,
  ⟨.exit 0, ⟨[1, 2, 4], [.slot 2, .slot 4], [], []⟩, simpl_OrderPlan_l0x1, Unit, fun i y => ((i.1, ((), ((), ()))), ((i.2.2.2.1, (i.2.2.2.2.1, (i.2.2.2.2.2.1, (i.2.2.2.2.2.2.1, (i.2.2.2.2.2.2.2.1, (i.2.2.2.2.2.2.2.2.1, (i.2.2.2.2.2.2.2.2.2.1, (i.2.2.2.2.2.2.2.2.2.2.1, ())))))))), ((i.2.2.2.2.2.2.2.2.2.2.2, ((), ())), ())))⟩]
def impl_OrderPlan_l0K {R : Type} (a1 : List Int) (a2 : Int) (rc : Int → List Bool → Option R) (fin : ((Bool × Int) ⊕ Unit) → Option R) (a3 : Int) (a13 : List Bool) : Option R :=
  cond (decide (a3 < a2))
  ((lat a1 a3).bind fun e1 =>
    cond (decide (e1 < 0))
    (fin (.inl (false, 0)))
    (cond (decide (e1 ≥ (a13.length : Int)))
      (fin (.inl (false, 0)))
      (cond (decide ((0 : Int) ≤ e1) && decide (e1 < (a13.length : Int)))
        (cond (a13.getD (0 + e1.toNat) false)
          (fin (.inl (false, 0)))
          (cond (decide ((0 : Int) ≤ e1) && decide (e1 < (a13.length : Int)))
            ((some (a13.set (0 + e1.toNat) true)).bind fun v2 =>
              rc (IntKind.i64.wrap (a3 + 1)) v2)
            (none)))
        (none))))
  (fin (.inr ()))
def impl_OrderPlan_l0F (a1 : List Int) (a2 : Int) (r : (Int × (List Bool)) → Option ((Bool × Int) ⊕ Unit)) (x : Int × (List Bool)) : Option ((Bool × Int) ⊕ Unit) := impl_OrderPlan_l0K a1 a2 (fun a3 a13 => r (a3, a13)) some x.1 x.2
theorem impl_OrderPlan_l0c (a1 : List Int) (a2 : Int) (x : Int × (List Bool)) : Ct fun r => impl_OrderPlan_l0F a1 a2 r x := by
  unfold impl_OrderPlan_l0F impl_OrderPlan_l0K
  repeat' (first | exact Ct.const | exact Ct.call | refine Ct.cond ?_ ?_ | refine Ct.bind ?_ fun _ => ?_ | refine Ct.sum (fun _ => ?_) fun _ => ?_)
def impl_OrderPlan_l0 (a1 : List Int) (a2 : Int) (a3 : Int) (a13 : List Bool) : Option ((Bool × Int) ⊕ Unit) := lim (impl_OrderPlan_l0F a1 a2) (a3, a13)
theorem impl_OrderPlan_l0_eq (a1 : List Int) (a2 : Int) (a3 : Int) (a13 : List Bool) : impl_OrderPlan_l0 a1 a2 a3 a13 = impl_OrderPlan_l0K a1 a2 (impl_OrderPlan_l0 a1 a2) some a3 a13 := lim_eq (impl_OrderPlan_l0c a1 a2) (a3, a13)
theorem impl_OrderPlan_l0p {R : Type} (a1 : List Int) (a2 : Int) {rc : Int → List Bool → Option ((Bool × Int) ⊕ Unit)} {rc' : Int → List Bool → Option R} {fin : ((Bool × Int) ⊕ Unit) → Option R} (hr : ∀ a3 a13, Par fin (rc a3 a13) (rc' a3 a13)) (a3 : Int) (a13 : List Bool) : Par fin (impl_OrderPlan_l0K a1 a2 rc some a3 a13) (impl_OrderPlan_l0K a1 a2 rc' fin a3 a13) := by
  unfold impl_OrderPlan_l0K
  repeat' (first | exact .fin | exact .none | exact hr _ _ | refine .cond ?_ ?_ | refine .bind fun _ => ?_ | refine .sum (fun _ => ?_) fun _ => ?_)
def Limpl_OrderPlan_l0 : Loop := mkL ⟨[1, 2, 4, 6, 29, 30, 31], [.slot 2, .slot 4, .slot 6], [], []⟩ simpl_OrderPlan_l0 ximpl_OrderPlan_l0 (fun (x : ((List Int) × Unit × Unit × Unit × (List Int) × Int × Int × Unit) × (((List (List Int)) × (List Int) × (List Int) × Int × Int × Int × Int × Int × Unit) × (Int × Unit × Unit) × (List Bool) × Unit)) => (x.1.1, (x.1.2.2.2.2.1, (x.1.2.2.2.2.2.1, (x.2.1.1, (x.2.1.2.1, (x.2.1.2.2.1, (x.2.1.2.2.2.1, (x.2.1.2.2.2.2.1, (x.2.1.2.2.2.2.2.1, (x.2.1.2.2.2.2.2.2.1, (x.2.1.2.2.2.2.2.2.2.1, x.2.2.1.1)))))))))))) fun (x : ((List Int) × Unit × Unit × Unit × (List Int) × Int × Int × Unit) × (((List (List Int)) × (List Int) × (List Int) × Int × Int × Int × Int × Int × Unit) × (Int × Unit × Unit) × (List Bool) × Unit)) => impl_OrderPlan_l0 x.1.2.2.2.2.1 x.1.2.2.2.2.2.1 x.1.2.2.2.2.2.2.1 x.2.2.2.1
def simpl_OrderPlan_l2 : LS := ⟨[(2, .one (.fix (.ptr 0 0))), (4, .one (.fix (.ptr 1 0))), (9, .one (.fix (.ptr 2 0))), (11, .one (.dat (.int .i64))), (12, .one (.dat (.int .i64))), (56, .one (.dat (.slice (.int .i64)))), (57, .one (.dat (.int .i64))), (58, .one (.dat (.int .i64)))], [.box [.dat (.slice (.slice (.int .i64))), .dat (.slice (.int .i64)), .dat (.slice (.int .i64)), .dat (.int .i64), .dat (.int .i64), .dat (.int .i64), .dat (.int .i64), .dat (.int .i64)], .box [.dat (.int .i64), .fix .nils], .box [.dat (.int .i64), .fix (.sref 3)], .sl (.int .i64)], []⟩
def simpl_OrderPlan_l2x0 : LS := ⟨[(2, .one (.fix (.ptr 0 0))), (4, .one (.fix (.ptr 1 0))), (9, .one (.fix (.ptr 2 0))), (56, .one (.dat (.slice (.int .i64)))), (57, .one (.dat (.int .i64))), (58, .one (.dat (.int .i64)))], [.box [.dat (.slice (.slice (.int .i64))), .dat (.slice (.int .i64)), .dat (.slice (.int .i64)), .dat (.int .i64), .dat (.int .i64), .dat (.int .i64), .dat (.int .i64), .dat (.int .i64)], .box [.dat (.int .i64), .fix .nils], .box [.dat (.int .i64), .fix (.sref 3)], .sl (.int .i64)], []⟩
def ximpl_OrderPlan_l2 : List (XS (Int × (List Int) × Int × Int × (List (List Int)) × (List Int) × (List Int) × Int × Int × Int × Int × Int × Int × Int × (List Int))) := [⟨.exit 4, ⟨[2, 4, 9, 56, 57, 58], [.slot 2, .slot 4, .slot 9, .cell 9 1], [], []⟩, simpl_OrderPlan_l2x0, List Int, fun i y => (((), ((), ((), (i.2.1, (i.2.2.1, (i.2.2.2.1, ())))))), ((i.2.2.2.2.1, (i.2.2.2.2.2.1, (i.2.2.2.2.2.2.1, (i.2.2.2.2.2.2.2.1, (i.2.2.2.2.2.2.2.2.1, (i.2.2.2.2.2.2.2.2.2.1, (i.2.2.2.2.2.2.2.2.2.2.1, (i.2.2.2.2.2.2.2.2.2.2.2.1, ())))))))), ((i.2.2.2.2.2.2.2.2.2.2.2.2.1, ((), ())), ((i.2.2.2.2.2.2.2.2.2.2.2.2.2.1, ((), ())), (y, ())))))⟩]
def impl_OrderPlan_l2K {R : Type} (a0 : Int) (a5 : List (List Int)) (a6 : List Int) (a7 : List Int) (a8 : Int) (a9 : Int) (a10 : Int) (a11 : Int) (a12 : Int) (a14 : Int) (a15 : List Int) (rc : Int → Option R) (fin : List Int → Option R) (a1 : Int) : Option R :=
  cond (decide (a1 < a10))
  ((impl_fitsIn (a5, (a6, (a7, ((a8, (a9, ())), (a10, (a11, (a12, ()))))))) (a14, (a15, ())) [a0] a1).bind fun y1 =>
    cond (y1)
    (cond (decide ((0 : Int) ≤ a0) && decide (a0 < (a15.length : Int)))
      ((some (a15.set (0 + a0.toNat) a1)).bind fun v2 =>
        fin v2)
      (none))
    (rc (IntKind.i64.wrap (a1 + 1))))
  (fin a15)
def impl_OrderPlan_l2F (a0 : Int) (a5 : List (List Int)) (a6 : List Int) (a7 : List Int) (a8 : Int) (a9 : Int) (a10 : Int) (a11 : Int) (a12 : Int) (a14 : Int) (a15 : List Int) (r : Int → Option (List Int)) (x : Int) : Option (List Int) := impl_OrderPlan_l2K a0 a5 a6 a7 a8 a9 a10 a11 a12 a14 a15 (fun a1 => r a1) some x
theorem impl_OrderPlan_l2c (a0 : Int) (a5 : List (List Int)) (a6 : List Int) (a7 : List Int) (a8 : Int) (a9 : Int) (a10 : Int) (a11 : Int) (a12 : Int) (a14 : Int) (a15 : List Int) (x : Int) : Ct fun r => impl_OrderPlan_l2F a0 a5 a6 a7 a8 a9 a10 a11 a12 a14 a15 r x := by
  unfold impl_OrderPlan_l2F impl_OrderPlan_l2K
  repeat' (first | exact Ct.const | exact Ct.call | refine Ct.cond ?_ ?_ | refine Ct.bind ?_ fun _ => ?_ | refine Ct.sum (fun _ => ?_) fun _ => ?_)
def impl_OrderPlan_l2 (a0 : Int) (a5 : List (List Int)) (a6 : List Int) (a7 : List Int) (a8 : Int) (a9 : Int) (a10 : Int) (a11 : Int) (a12 : Int) (a14 : Int) (a15 : List Int) (a1 : Int) : Option (List Int) := lim (impl_OrderPlan_l2F a0 a5 a6 a7 a8 a9 a10 a11 a12 a14 a15) a1
theorem impl_OrderPlan_l2_eq (a0 : Int) (a5 : List (List Int)) (a6 : List Int) (a7 : List Int) (a8 : Int) (a9 : Int) (a10 : Int) (a11 : Int) (a12 : Int) (a14 : Int) (a15 : List Int) (a1 : Int) : impl_OrderPlan_l2 a0 a5 a6 a7 a8 a9 a10 a11 a12 a14 a15 a1 = impl_OrderPlan_l2K a0 a5 a6 a7 a8 a9 a10 a11 a12 a14 a15 (impl_OrderPlan_l2 a0 a5 a6 a7 a8 a9 a10 a11 a12 a14 a15) some a1 := lim_eq (impl_OrderPlan_l2c a0 a5 a6 a7 a8 a9 a10 a11 a12 a14 a15) a1
theorem impl_OrderPlan_l2p {R : Type} (a0 : Int) (a5 : List (List Int)) (a6 : List Int) (a7 : List Int) (a8 : Int) (a9 : Int) (a10 : Int) (a11 : Int) (a12 : Int) (a14 : Int) (a15 : List Int) {rc : Int → Option (List Int)} {rc' : Int → Option R} {fin : List Int → Option R} (hr : ∀ a1, Par fin (rc a1) (rc' a1)) (a1 : Int) : Par fin (impl_OrderPlan_l2K a0 a5 a6 a7 a8 a9 a10 a11 a12 a14 a15 rc some a1) (impl_OrderPlan_l2K a0 a5 a6 a7 a8 a9 a10 a11 a12 a14 a15 rc' fin a1) := by
  unfold impl_OrderPlan_l2K
  repeat' (first | exact .fin | exact .none | exact hr _ | refine .cond ?_ ?_ | refine .bind fun _ => ?_ | refine .sum (fun _ => ?_) fun _ => ?_)
def Limpl_OrderPlan_l2 : Loop := mkL ⟨[2, 4, 9, 11, 12, 56, 57, 58], [.slot 2, .slot 4, .slot 9, .cell 9 1], [], []⟩ simpl_OrderPlan_l2 ximpl_OrderPlan_l2 (fun (x : (Unit × Unit × Unit × Int × Int × (List Int) × Int × Int × Unit) × (((List (List Int)) × (List Int) × (List Int) × Int × Int × Int × Int × Int × Unit) × (Int × Unit × Unit) × (Int × Unit × Unit) × (List Int) × Unit)) => (x.1.2.2.2.1, (x.1.2.2.2.2.2.1, (x.1.2.2.2.2.2.2.1, (x.1.2.2.2.2.2.2.2.1, (x.2.1.1, (x.2.1.2.1, (x.2.1.2.2.1, (x.2.1.2.2.2.1, (x.2.1.2.2.2.2.1, (x.2.1.2.2.2.2.2.1, (x.2.1.2.2.2.2.2.2.1, (x.2.1.2.2.2.2.2.2.2.1, (x.2.2.1.1, (x.2.2.2.1.1, x.2.2.2.2.1))))))))))))))) fun (x : (Unit × Unit × Unit × Int × Int × (List Int) × Int × Int × Unit) × (((List (List Int)) × (List Int) × (List Int) × Int × Int × Int × Int × Int × Unit) × (Int × Unit × Unit) × (Int × Unit × Unit) × (List Int) × Unit)) => impl_OrderPlan_l2 x.1.2.2.2.1 x.2.1.1 x.2.1.2.1 x.2.1.2.2.1 x.2.1.2.2.2.1 x.2.1.2.2.2.2.1 x.2.1.2.2.2.2.2.1 x.2.1.2.2.2.2.2.2.1 x.2.1.2.2.2.2.2.2.2.1 x.2.2.2.1.1 x.2.2.2.2.1 x.1.2.2.2.2.1
def simpl_OrderPlan_l1 : LS := ⟨[(2, .one (.fix (.ptr 0 0))), (4, .one (.fix (.ptr 1 0))), (9, .one (.fix (.ptr 2 0))), (56, .one (.dat (.slice (.int .i64)))), (57, .one (.dat (.int .i64))), (58, .one (.dat (.int .i64)))], [.box [.dat (.slice (.slice (.int .i64))), .dat (.slice (.int .i64)), .dat (.slice (.int .i64)), .dat (.int .i64), .dat (.int .i64), .dat (.int .i64), .dat (.int .i64), .dat (.int .i64)], .box [.dat (.int .i64), .fix .nils], .box [.dat (.int .i64), .fix (.sref 3)], .sl (.int .i64)], []⟩
def simpl_OrderPlan_l1x0 : LS := ⟨[(4, .one (.fix (.ptr 0 0))), (9, .one (.fix (.ptr 1 0)))], [.box [.dat (.int .i64), .fix .nils], .box [.dat (.int .i64), .fix (.sref 2)], .sl (.int .i64)], []⟩
def ximpl_OrderPlan_l1 : List (XS ((List Int) × Int × (List (List Int)) × (List Int) × (List Int) × Int × Int × Int × Int × Int × Int × Int)) := [⟨.exit 2, ⟨[4, 9], [.slot 4, .slot 9, .cell 9 1], [], []⟩, simpl_OrderPlan_l1x0, List Int, fun i y => (((), ((), ())), ((i.2.2.2.2.2.2.2.2.2.2.1, ((), ())), ((i.2.2.2.2.2.2.2.2.2.2.2, ((), ())), (y, ()))))⟩]
def impl_OrderPlan_l1K {R : Type} (a0 : List Int) (a1 : Int) (a3 : List (List Int)) (a4 : List Int) (a5 : List Int) (a6 : Int) (a7 : Int) (a8 : Int) (a9 : Int) (a10 : Int) (a12 : Int) (rc : Int → List Int → Option R) (fin : List Int → Option R) (a2 : Int) (a13 : List Int) : Option R :=
  cond (decide (a2 < a1))
  ((lat a0 a2).bind fun e1 =>
    (impl_OrderPlan_l2 e1 a3 a4 a5 a6 a7 a8 a9 a10 a12 a13 0).bind fun y4 =>
    rc (IntKind.i64.wrap (a2 + 1)) y4)
  (fin a13)
def impl_OrderPlan_l1F (a0 : List Int) (a1 : Int) (a3 : List (List Int)) (a4 : List Int) (a5 : List Int) (a6 : Int) (a7 : Int) (a8 : Int) (a9 : Int) (a10 : Int) (a12 : Int) (r : (Int × (List Int)) → Option (List Int)) (x : Int × (List Int)) : Option (List Int) := impl_OrderPlan_l1K a0 a1 a3 a4 a5 a6 a7 a8 a9 a10 a12 (fun a2 a13 => r (a2, a13)) some x.1 x.2
theorem impl_OrderPlan_l1c (a0 : List Int) (a1 : Int) (a3 : List (List Int)) (a4 : List Int) (a5 : List Int) (a6 : Int) (a7 : Int) (a8 : Int) (a9 : Int) (a10 : Int) (a12 : Int) (x : Int × (List Int)) : Ct fun r => impl_OrderPlan_l1F a0 a1 a3 a4 a5 a6 a7 a8 a9 a10 a12 r x := by
  unfold impl_OrderPlan_l1F impl_OrderPlan_l1K
  repeat' (first | exact Ct.const | exact Ct.call | refine Ct.cond ?_ ?_ | refine Ct.bind ?_ fun _ => ?_ | refine Ct.sum (fun _ => ?_) fun _ => ?_)
def impl_OrderPlan_l1 (a0 : List Int) (a1 : Int) (a3 : List (List Int)) (a4 : List Int) (a5 : List Int) (a6 : Int) (a7 : Int) (a8 : Int) (a9 : Int) (a10 : Int) (a12 : Int) (a2 : Int) (a13 : List Int) : Option (List Int) := lim (impl_OrderPlan_l1F a0 a1 a3 a4 a5 a6 a7 a8 a9 a10 a12) (a2, a13)
theorem impl_OrderPlan_l1_eq (a0 : List Int) (a1 : Int) (a3 : List (List Int)) (a4 : List Int) (a5 : List Int) (a6 : Int) (a7 : Int) (a8 : Int) (a9 : Int) (a10 : Int) (a12 : Int) (a2 : Int) (a13 : List Int) : impl_OrderPlan_l1 a0 a1 a3 a4 a5 a6 a7 a8 a9 a10 a12 a2 a13 = impl_OrderPlan_l1K a0 a1 a3 a4 a5 a6 a7 a8 a9 a10 a12 (impl_OrderPlan_l1 a0 a1 a3 a4 a5 a6 a7 a8 a9 a10 a12) some a2 a13 := lim_eq (impl_OrderPlan_l1c a0 a1 a3 a4 a5 a6 a7 a8 a9 a10 a12) (a2, a13)
theorem impl_OrderPlan_l1p {R : Type} (a0 : List Int) (a1 : Int) (a3 : List (List Int)) (a4 : List Int) (a5 : List Int) (a6 : Int) (a7 : Int) (a8 : Int) (a9 : Int) (a10 : Int) (a12 : Int) {rc : Int → List Int → Option (List Int)} {rc' : Int → List Int → Option R} {fin : List Int → Option R} (hr : ∀ a2 a13, Par fin (rc a2 a13) (rc' a2 a13)) (a2 : Int) (a13 : List Int) : Par fin (impl_OrderPlan_l1K a0 a1 a3 a4 a5 a6 a7 a8 a9 a10 a12 rc some a2 a13) (impl_OrderPlan_l1K a0 a1 a3 a4 a5 a6 a7 a8 a9 a10 a12 rc' fin a2 a13) := by
  unfold impl_OrderPlan_l1K
  repeat' (first | exact .fin | exact .none | exact hr _ _ | refine .cond ?_ ?_ | refine .bind fun _ => ?_ | refine .sum (fun _ => ?_) fun _ => ?_)
def Limpl_OrderPlan_l1 : Loop := mkL ⟨[2, 4, 9, 56, 57, 58], [.slot 2, .slot 4, .slot 9, .cell 9 1], [], []⟩ simpl_OrderPlan_l1 ximpl_OrderPlan_l1 (fun (x : (Unit × Unit × Unit × (List Int) × Int × Int × Unit) × (((List (List Int)) × (List Int) × (List Int) × Int × Int × Int × Int × Int × Unit) × (Int × Unit × Unit) × (Int × Unit × Unit) × (List Int) × Unit)) => (x.1.2.2.2.1, (x.1.2.2.2.2.1, (x.2.1.1, (x.2.1.2.1, (x.2.1.2.2.1, (x.2.1.2.2.2.1, (x.2.1.2.2.2.2.1, (x.2.1.2.2.2.2.2.1, (x.2.1.2.2.2.2.2.2.1, (x.2.1.2.2.2.2.2.2.2.1, (x.2.2.1.1, x.2.2.2.1.1)))))))))))) fun (x : (Unit × Unit × Unit × (List Int) × Int × Int × Unit) × (((List (List Int)) × (List Int) × (List Int) × Int × Int × Int × Int × Int × Unit) × (Int × Unit × Unit) × (Int × Unit × Unit) × (List Int) × Unit)) => impl_OrderPlan_l1 x.1.2.2.2.1 x.1.2.2.2.2.1 x.2.1.1 x.2.1.2.1 x.2.1.2.2.1 x.2.1.2.2.2.1 x.2.1.2.2.2.2.1 x.2.1.2.2.2.2.2.1 x.2.1.2.2.2.2.2.2.1 x.2.1.2.2.2.2.2.2.2.1 x.2.2.2.1.1 x.1.2.2.2.2.2.1 x.2.2.2.2.1
def impl_OrderPlanK {R : Type} (fin : (Int × (List Int)) × Bool → Option R) (x0 : DJob) (x1 : List Int) : Option R :=
  (impl_IsJob x0).bind fun y1 =>
  cond (!y1)
  (fin ((0, []), false))
  (cond (decide ((x1.length : Int) > (x0.1.length : Int)))
    (fin ((0, []), false))
    (cond (decide ((0 : Int) ≤ (x0.1.length : Int)) && (decide ((x0.1.length : Int) ≤ (x0.1.length : Int)) && decide ((x0.1.length : Int) ≤ 1099511627776)))
      ((some ((List.replicate ((x0.1.length : Int).toNat) false : List Bool))).bind fun v2 =>
        (impl_OrderPlan_l0 x1 (x1.length : Int) 0 v2).bind fun y5 =>
        sumO y5 (fun y6 =>
        fin ((y6.2, []), y6.1))
        (fun y7 =>
        (impl_emptyPlan x0).bind fun y8 =>
          (impl_OrderPlan_l1 x1 (x1.length : Int) x0.1 x0.2.1 x0.2.2.1 x0.2.2.2.1.1 x0.2.2.2.1.2.1 x0.2.2.2.2.1 x0.2.2.2.2.2.1 x0.2.2.2.2.2.2.1 y8.1 0 y8.2).bind fun y13 =>
          fin ((y8.1, y13), true)))
      (none)))
def impl_OrderPlan (x0 : DJob) (x1 : List Int) : Option ((Int × (List Int)) × Bool) := impl_OrderPlanK some x0 x1
theorem p51 {R : Type} (fin : (Int × (List Int)) × Bool → Option R) (x0 : DJob) (x1 : List Int) : Par fin (impl_OrderPlanK some x0 x1) (impl_OrderPlanK fin x0 x1) := by
  unfold impl_OrderPlanK
  repeat' (first | exact .fin | exact .none | refine .cond ?_ ?_ | refine .bind fun _ => ?_ | refine .sum (fun _ => ?_) fun _ => ?_)
def or51 : Ora := { lo := addL 13 (Limpl_OrderPlan_l1) (addL 16 (Limpl_OrderPlan_l2) (addL 5 (Limpl_OrderPlan_l0) lo0)), fin := [.own (.cell 4 1) (.int .i64)] }
theorem impl_OrderPlan_l0e (a0 : List Int) (a1 : List Int) (a2 : Int) (a4 : List (List Int)) (a5 : List Int) (a6 : List Int) (a7 : Int) (a8 : Int) (a9 : Int) (a10 : Int) (a11 : Int) (a12 : Int) (k : Nat) (a3 : Int) (a13 : List Bool) : loopC Try.prog EL51 or51 ((loopsIn (codeOf Try.f51)).getD 0 .skip) (Limpl_OrderPlan_l0).h (Limpl_OrderPlan_l0).ho Try.f51.ntmps (k + 1) (simpl_OrderPlan_l0.out ((a0, ((), ((), ((), (a1, (a2, (a3, ()))))))), ((a4, (a5, (a6, (a7, (a8, (a9, (a10, (a11, ())))))))), ((a12, ((), ())), (a13, ()))))) =
    impl_OrderPlan_l0K a1 a2 (fun a3 a13 => loopC Try.prog EL51 or51 ((loopsIn (codeOf Try.f51)).getD 0 .skip) (Limpl_OrderPlan_l0).h (Limpl_OrderPlan_l0).ho Try.f51.ntmps k (simpl_OrderPlan_l0.out ((a0, ((), ((), ((), (a1, (a2, (a3, ()))))))), ((a4, (a5, (a6, (a7, (a8, (a9, (a10, (a11, ())))))))), ((a12, ((), ())), (a13, ())))))) (fun y => some (XS.out ximpl_OrderPlan_l0 (a0, (a1, (a2, (a4, (a5, (a6, (a7, (a8, (a9, (a10, (a11, a12))))))))))) y)) a3 a13 := by kernel_rfl
theorem impl_OrderPlan_l0o : LoopOk Try.prog EL51 or51 Try.f51.ntmps ((loopsIn (codeOf Try.f51)).getD 0 .skip) (Limpl_OrderPlan_l0) :=
  loop_lim (hs := simpl_OrderPlan_l0) (xs := ximpl_OrderPlan_l0) (ι := fun (x : ((List Int) × Unit × Unit × Unit × (List Int) × Int × Int × Unit) × (((List (List Int)) × (List Int) × (List Int) × Int × Int × Int × Int × Int × Unit) × (Int × Unit × Unit) × (List Bool) × Unit)) => (x.1.1, (x.1.2.2.2.2.1, (x.1.2.2.2.2.2.1, (x.2.1.1, (x.2.1.2.1, (x.2.1.2.2.1, (x.2.1.2.2.2.1, (x.2.1.2.2.2.2.1, (x.2.1.2.2.2.2.2.1, (x.2.1.2.2.2.2.2.2.1, (x.2.1.2.2.2.2.2.2.2.1, x.2.2.1.1)))))))))))) (φ := fun (x : ((List Int) × Unit × Unit × Unit × (List Int) × Int × Int × Unit) × (((List (List Int)) × (List Int) × (List Int) × Int × Int × Int × Int × Int × Unit) × (Int × Unit × Unit) × (List Bool) × Unit)) => (x.1.2.2.2.2.2.2.1, x.2.2.2.1)) (ψ := fun (i : (List Int) × (List Int) × Int × (List (List Int)) × (List Int) × (List Int) × Int × Int × Int × Int × Int × Int) (v : Int × (List Bool)) => ((i.1, ((), ((), ((), (i.2.1, (i.2.2.1, (v.1, ()))))))), ((i.2.2.2.1, (i.2.2.2.2.1, (i.2.2.2.2.2.1, (i.2.2.2.2.2.2.1, (i.2.2.2.2.2.2.2.1, (i.2.2.2.2.2.2.2.2.1, (i.2.2.2.2.2.2.2.2.2.1, (i.2.2.2.2.2.2.2.2.2.2.1, ())))))))), ((i.2.2.2.2.2.2.2.2.2.2.2, ((), ())), (v.2, ()))))) (F := fun (i : (List Int) × (List Int) × Int × (List (List Int)) × (List Int) × (List Int) × Int × Int × Int × Int × Int × Int) => impl_OrderPlan_l0F i.2.1 i.2.2.1) (fun _ => rfl) fun i k hk v => Par.of_eq (impl_OrderPlan_l0e i.1 i.2.1 i.2.2.1 i.2.2.2.1 i.2.2.2.2.1 i.2.2.2.2.2.1 i.2.2.2.2.2.2.1 i.2.2.2.2.2.2.2.1 i.2.2.2.2.2.2.2.2.1 i.2.2.2.2.2.2.2.2.2.1 i.2.2.2.2.2.2.2.2.2.2.1 i.2.2.2.2.2.2.2.2.2.2.2 k v.1 v.2) (impl_OrderPlan_l0p i.2.1 i.2.2.1 (fun a3 a13 => hk (a3, a13)) v.1 v.2)
theorem impl_OrderPlan_l2e (a0 : Int) (a2 : List Int) (a3 : Int) (a4 : Int) (a5 : List (List Int)) (a6 : List Int) (a7 : List Int) (a8 : Int) (a9 : Int) (a10 : Int) (a11 : Int) (a12 : Int) (a13 : Int) (a14 : Int) (a15 : List Int) (k : Nat) (a1 : Int) : loopC Try.prog EL51 or51 ((loopsIn (codeOf Try.f51)).getD 2 .skip) (Limpl_OrderPlan_l2).h (Limpl_OrderPlan_l2).ho Try.f51.ntmps (k + 1) (simpl_OrderPlan_l2.out (((), ((), ((), (a0, (a1, (a2, (a3, (a4, ())))))))), ((a5, (a6, (a7, (a8, (a9, (a10, (a11, (a12, ())))))))), ((a13, ((), ())), ((a14, ((), ())), (a15, ())))))) =
    impl_OrderPlan_l2K a0 a5 a6 a7 a8 a9 a10 a11 a12 a14 a15 (fun a1 => loopC Try.prog EL51 or51 ((loopsIn (codeOf Try.f51)).getD 2 .skip) (Limpl_OrderPlan_l2).h (Limpl_OrderPlan_l2).ho Try.f51.ntmps k (simpl_OrderPlan_l2.out (((), ((), ((), (a0, (a1, (a2, (a3, (a4, ())))))))), ((a5, (a6, (a7, (a8, (a9, (a10, (a11, (a12, ())))))))), ((a13, ((), ())), ((a14, ((), ())), (a15, ()))))))) (fun y => some (XS.out ximpl_OrderPlan_l2 (a0, (a2, (a3, (a4, (a5, (a6, (a7, (a8, (a9, (a10, (a11, (a12, (a13, (a14, a15)))))))))))))) y)) a1 := by kernel_rfl
theorem impl_OrderPlan_l2o : LoopOk Try.prog EL51 or51 Try.f51.ntmps ((loopsIn (codeOf Try.f51)).getD 2 .skip) (Limpl_OrderPlan_l2) :=
  loop_lim (hs := simpl_OrderPlan_l2) (xs := ximpl_OrderPlan_l2) (ι := fun (x : (Unit × Unit × Unit × Int × Int × (List Int) × Int × Int × Unit) × (((List (List Int)) × (List Int) × (List Int) × Int × Int × Int × Int × Int × Unit) × (Int × Unit × Unit) × (Int × Unit × Unit) × (List Int) × Unit)) => (x.1.2.2.2.1, (x.1.2.2.2.2.2.1, (x.1.2.2.2.2.2.2.1, (x.1.2.2.2.2.2.2.2.1, (x.2.1.1, (x.2.1.2.1, (x.2.1.2.2.1, (x.2.1.2.2.2.1, (x.2.1.2.2.2.2.1, (x.2.1.2.2.2.2.2.1, (x.2.1.2.2.2.2.2.2.1, (x.2.1.2.2.2.2.2.2.2.1, (x.2.2.1.1, (x.2.2.2.1.1, x.2.2.2.2.1))))))))))))))) (φ := fun (x : (Unit × Unit × Unit × Int × Int × (List Int) × Int × Int × Unit) × (((List (List Int)) × (List Int) × (List Int) × Int × Int × Int × Int × Int × Unit) × (Int × Unit × Unit) × (Int × Unit × Unit) × (List Int) × Unit)) => x.1.2.2.2.2.1) (ψ := fun (i : Int × (List Int) × Int × Int × (List (List Int)) × (List Int) × (List Int) × Int × Int × Int × Int × Int × Int × Int × (List Int)) (v : Int) => (((), ((), ((), (i.1, (v, (i.2.1, (i.2.2.1, (i.2.2.2.1, ())))))))), ((i.2.2.2.2.1, (i.2.2.2.2.2.1, (i.2.2.2.2.2.2.1, (i.2.2.2.2.2.2.2.1, (i.2.2.2.2.2.2.2.2.1, (i.2.2.2.2.2.2.2.2.2.1, (i.2.2.2.2.2.2.2.2.2.2.1, (i.2.2.2.2.2.2.2.2.2.2.2.1, ())))))))), ((i.2.2.2.2.2.2.2.2.2.2.2.2.1, ((), ())), ((i.2.2.2.2.2.2.2.2.2.2.2.2.2.1, ((), ())), (i.2.2.2.2.2.2.2.2.2.2.2.2.2.2, ())))))) (F := fun (i : Int × (List Int) × Int × Int × (List (List Int)) × (List Int) × (List Int) × Int × Int × Int × Int × Int × Int × Int × (List Int)) => impl_OrderPlan_l2F i.1 i.2.2.2.2.1 i.2.2.2.2.2.1 i.2.2.2.2.2.2.1 i.2.2.2.2.2.2.2.1 i.2.2.2.2.2.2.2.2.1 i.2.2.2.2.2.2.2.2.2.1 i.2.2.2.2.2.2.2.2.2.2.1 i.2.2.2.2.2.2.2.2.2.2.2.1 i.2.2.2.2.2.2.2.2.2.2.2.2.2.1 i.2.2.2.2.2.2.2.2.2.2.2.2.2.2) (fun _ => rfl) fun i k hk v => Par.of_eq (impl_OrderPlan_l2e i.1 i.2.1 i.2.2.1 i.2.2.2.1 i.2.2.2.2.1 i.2.2.2.2.2.1 i.2.2.2.2.2.2.1 i.2.2.2.2.2.2.2.1 i.2.2.2.2.2.2.2.2.1 i.2.2.2.2.2.2.2.2.2.1 i.2.2.2.2.2.2.2.2.2.2.1 i.2.2.2.2.2.2.2.2.2.2.2.1 i.2.2.2.2.2.2.2.2.2.2.2.2.1 i.2.2.2.2.2.2.2.2.2.2.2.2.2.1 i.2.2.2.2.2.2.2.2.2.2.2.2.2.2 k v) (impl_OrderPlan_l2p i.1 i.2.2.2.2.1 i.2.2.2.2.2.1 i.2.2.2.2.2.2.1 i.2.2.2.2.2.2.2.1 i.2.2.2.2.2.2.2.2.1 i.2.2.2.2.2.2.2.2.2.1 i.2.2.2.2.2.2.2.2.2.2.1 i.2.2.2.2.2.2.2.2.2.2.2.1 i.2.2.2.2.2.2.2.2.2.2.2.2.2.1 i.2.2.2.2.2.2.2.2.2.2.2.2.2.2 (fun a1 => hk a1) v)
theorem impl_OrderPlan_l1e (a0 : List Int) (a1 : Int) (a3 : List (List Int)) (a4 : List Int) (a5 : List Int) (a6 : Int) (a7 : Int) (a8 : Int) (a9 : Int) (a10 : Int) (a11 : Int) (a12 : Int) (k : Nat) (a2 : Int) (a13 : List Int) : loopC Try.prog EL51 or51 ((loopsIn (codeOf Try.f51)).getD 1 .skip) (Limpl_OrderPlan_l1).h (Limpl_OrderPlan_l1).ho Try.f51.ntmps (k + 1) (simpl_OrderPlan_l1.out (((), ((), ((), (a0, (a1, (a2, ())))))), ((a3, (a4, (a5, (a6, (a7, (a8, (a9, (a10, ())))))))), ((a11, ((), ())), ((a12, ((), ())), (a13, ())))))) =
    impl_OrderPlan_l1K a0 a1 a3 a4 a5 a6 a7 a8 a9 a10 a12 (fun a2 a13 => loopC Try.prog EL51 or51 ((loopsIn (codeOf Try.f51)).getD 1 .skip) (Limpl_OrderPlan_l1).h (Limpl_OrderPlan_l1).ho Try.f51.ntmps k (simpl_OrderPlan_l1.out (((), ((), ((), (a0, (a1, (a2, ())))))), ((a3, (a4, (a5, (a6, (a7, (a8, (a9, (a10, ())))))))), ((a11, ((), ())), ((a12, ((), ())), (a13, ()))))))) (fun y => some (XS.out ximpl_OrderPlan_l1 (a0, (a1, (a3, (a4, (a5, (a6, (a7, (a8, (a9, (a10, (a11, a12))))))))))) y)) a2 a13 := by kernel_rfl
theorem impl_OrderPlan_l1o : LoopOk Try.prog EL51 or51 Try.f51.ntmps ((loopsIn (codeOf Try.f51)).getD 1 .skip) (Limpl_OrderPlan_l1) :=
  loop_lim (hs := simpl_OrderPlan_l1) (xs := ximpl_OrderPlan_l1) (ι := fun (x : (Unit × Unit × Unit × (List Int) × Int × Int × Unit) × (((List (List Int)) × (List Int) × (List Int) × Int × Int × Int × Int × Int × Unit) × (Int × Unit × Unit) × (Int × Unit × Unit) × (List Int) × Unit)) => (x.1.2.2.2.1, (x.1.2.2.2.2.1, (x.2.1.1, (x.2.1.2.1, (x.2.1.2.2.1, (x.2.1.2.2.2.1, (x.2.1.2.2.2.2.1, (x.2.1.2.2.2.2.2.1, (x.2.1.2.2.2.2.2.2.1, (x.2.1.2.2.2.2.2.2.2.1, (x.2.2.1.1, x.2.2.2.1.1)))))))))))) (φ := fun (x : (Unit × Unit × Unit × (List Int) × Int × Int × Unit) × (((List (List Int)) × (List Int) × (List Int) × Int × Int × Int × Int × Int × Unit) × (Int × Unit × Unit) × (Int × Unit × Unit) × (List Int) × Unit)) => (x.1.2.2.2.2.2.1, x.2.2.2.2.1)) (ψ := fun (i : (List Int) × Int × (List (List Int)) × (List Int) × (List Int) × Int × Int × Int × Int × Int × Int × Int) (v : Int × (List Int)) => (((), ((), ((), (i.1, (i.2.1, (v.1, ())))))), ((i.2.2.1, (i.2.2.2.1, (i.2.2.2.2.1, (i.2.2.2.2.2.1, (i.2.2.2.2.2.2.1, (i.2.2.2.2.2.2.2.1, (i.2.2.2.2.2.2.2.2.1, (i.2.2.2.2.2.2.2.2.2.1, ())))))))), ((i.2.2.2.2.2.2.2.2.2.2.1, ((), ())), ((i.2.2.2.2.2.2.2.2.2.2.2, ((), ())), (v.2, ())))))) (F := fun (i : (List Int) × Int × (List (List Int)) × (List Int) × (List Int) × Int × Int × Int × Int × Int × Int × Int) => impl_OrderPlan_l1F i.1 i.2.1 i.2.2.1 i.2.2.2.1 i.2.2.2.2.1 i.2.2.2.2.2.1 i.2.2.2.2.2.2.1 i.2.2.2.2.2.2.2.1 i.2.2.2.2.2.2.2.2.1 i.2.2.2.2.2.2.2.2.2.1 i.2.2.2.2.2.2.2.2.2.2.2) (fun _ => rfl) fun i k hk v => Par.of_eq (impl_OrderPlan_l1e i.1 i.2.1 i.2.2.1 i.2.2.2.1 i.2.2.2.2.1 i.2.2.2.2.2.1 i.2.2.2.2.2.2.1 i.2.2.2.2.2.2.2.1 i.2.2.2.2.2.2.2.2.1 i.2.2.2.2.2.2.2.2.2.1 i.2.2.2.2.2.2.2.2.2.2.1 i.2.2.2.2.2.2.2.2.2.2.2 k v.1 v.2) (impl_OrderPlan_l1p i.1 i.2.1 i.2.2.1 i.2.2.2.1 i.2.2.2.2.1 i.2.2.2.2.2.1 i.2.2.2.2.2.2.1 i.2.2.2.2.2.2.2.1 i.2.2.2.2.2.2.2.2.1 i.2.2.2.2.2.2.2.2.2.1 i.2.2.2.2.2.2.2.2.2.2.2 (fun a2 a13 => hk (a2, a13)) v.1 v.2)
def c51 : Callee := mkC [.agg [.ro TJob], .one (.ro (.slice (.int .i64)))] 2 [.agg [.ro (.int .i64), .sl (.int .i64)], .one (.ro .bool)] fun x => impl_OrderPlan x.1 x.2
theorem e51 (x : PK.dens [.agg [.ro TJob], .one (.ro (.slice (.int .i64)))]) : evalFn Try.prog EL51 or51 Try.f51 (PK.outs [.agg [.ro TJob], .one (.ro (.slice (.int .i64)))] x) =
    impl_OrderPlanK (fun y => some (tupOf ((PK.outs [.agg [.ro (.int .i64), .sl (.int .i64)], .one (.ro .bool)] y).take 2), (PK.outs [.agg [.ro (.int .i64), .sl (.int .i64)], .one (.ro .bool)] y).drop 2)) x.1 x.2 := by kernel_rfl
theorem o51 : LoOk Try.prog EL51 or51 Try.f51.ntmps (loopsIn (codeOf Try.f51)) :=
  LoOk.mk (m := 3) (by kernel_rfl) fun i hi => match i, hi with
    | 0, _ => ⟨Limpl_OrderPlan_l0, by kernel_rfl, impl_OrderPlan_l0o⟩
    | 1, _ => ⟨Limpl_OrderPlan_l1, by kernel_rfl, impl_OrderPlan_l1o⟩
    | 2, _ => ⟨Limpl_OrderPlan_l2, by kernel_rfl, impl_OrderPlan_l2o⟩
    | i + 3, hi => absurd hi (by omega)
theorem k51 : CalleeOk Try.prog 51 c51 := callee_mk Try.func51 (code := codeOf Try.f51) (by kernel_rfl) vL51 mixed o51 fun x y h => (e51 x).trans (p51 _ x.1 x.2 y h)

/-- laws.FnExactOrderPlan -/
def EL12 : Nat → Option Callee := addE 49 c49 (addE 34 c34 (addE 35 c35 (addE 33 c33 (addE 25 c25 (addE 24 c24 (addE 30 c30 (addE 51 c51 (addE 50 c50 (addE 22 c22 (addE 21 c21 (addE 19 c19 env0)))))))))))
theorem vL12 : EnvOk Try.prog EL12 := (((((((((((EnvOk.nil.add Try.func19 rfl (by kernel_rfl) k19).add Try.func21 rfl (by kernel_rfl) k21).add Try.func22 rfl (by kernel_rfl) k22).add Try.func50 rfl (by kernel_rfl) k50).add Try.func51 rfl (by kernel_rfl) k51).add Try.func30 rfl (by kernel_rfl) k30).add Try.func24 rfl (by kernel_rfl) k24).add Try.func25 rfl (by kernel_rfl) k25).add Try.func33 rfl (by kernel_rfl) k33).add Try.func35 rfl (by kernel_rfl) k35).add Try.func34 rfl (by kernel_rfl) k34).add Try.func49 rfl (by kernel_rfl) k49
def laws_FnExactOrderPlanK {R : Type} (fin : Bool → Option R) (x0 : DJob) (x1 : List Int) : Option R :=
  cond (decide ((x1.length : Int) > 1048576))
  (fin true)
  ((laws_szJob x0 1048576).bind fun y1 =>
    cond (decide (y1 < 0))
    (fin true)
    ((laws_toJob x0).bind fun y2 =>
      (laws_toIntS x1).bind fun y3 =>
      (spec_OrderPlan (y2.1, (y2.2.1, (y2.2.2.1, ((y2.2.2.2.1, (y2.2.2.2.2.1, ())), (y2.2.2.2.2.2.1, (y2.2.2.2.2.2.2.1, (y2.2.2.2.2.2.2.2, ()))))))) y3).bind fun y4 =>
      (laws_toJob x0).bind fun y5 =>
      (laws_toIntS x1).bind fun y6 =>
      (impl_OrderPlan (y5.1, (y5.2.1, (y5.2.2.1, ((y5.2.2.2.1, (y5.2.2.2.2.1, ())), (y5.2.2.2.2.2.1, (y5.2.2.2.2.2.2.1, (y5.2.2.2.2.2.2.2, ()))))))) y6).bind fun y7 =>
      (laws_eqPlan (y7.1.1, (y7.1.2, ())) (y4.1.1, (y4.1.2, ()))).bind fun y8 =>
      cond (!y8)
      (fin false)
      (cond (!(y7.2 == y4.2))
        (fin false)
        ((laws_toJob x0).bind fun y9 =>
          (laws_eqJob (y5.1, (y5.2.1, (y5.2.2.1, ((y5.2.2.2.1, (y5.2.2.2.2.1, ())), (y5.2.2.2.2.2.1, (y5.2.2.2.2.2.2.1, (y5.2.2.2.2.2.2.2, ()))))))) (y9.1, (y9.2.1, (y9.2.2.1, ((y9.2.2.2.1, (y9.2.2.2.2.1, ())), (y9.2.2.2.2.2.1, (y9.2.2.2.2.2.2.1, (y9.2.2.2.2.2.2.2, ())))))))).bind fun y10 =>
          cond (!y10)
          (fin false)
          ((laws_toIntS x1).bind fun y11 =>
            (laws_eqIntS y6 y11).bind fun y12 =>
            cond (!y12)
            (fin false)
            ((laws_markJob y5 1).bind fun y13 =>
              (laws_markIntS y6 y13.1).bind fun y14 =>
              cond (decide (y14.1 < 0))
              (fin false)
              ((laws_eqPlan (y7.1.1, (y7.1.2, ())) (y4.1.1, (y4.1.2, ()))).bind fun y15 =>
                cond (!y15)
                (fin false)
                (cond (!(y7.2 == y4.2))
                  (fin false)
                  ((laws_markPlan y7.1 1).bind fun y16 =>
                    (laws_heldPlan (y7.1.1, (y16.2.2, ())) 1).bind fun y17 =>
                    cond (decide (y17 < 0))
                    (fin false)
                    (cond (y17 != y16.1)
                      (fin false)
                      ((laws_toJob x0).bind fun y18 =>
                        (laws_toIntS x1).bind fun y19 =>
                        (impl_OrderPlan (y18.1, (y18.2.1, (y18.2.2.1, ((y18.2.2.2.1, (y18.2.2.2.2.1, ())), (y18.2.2.2.2.2.1, (y18.2.2.2.2.2.2.1, (y18.2.2.2.2.2.2.2, ()))))))) y19).bind fun y20 =>
                        (laws_eqPlan (y20.1.1, (y20.1.2, ())) (y4.1.1, (y4.1.2, ()))).bind fun y21 =>
                        cond (!y21)
                        (fin false)
                        (cond (!(y20.2 == y4.2))
                          (fin false)
                          ((laws_heldPlan (y7.1.1, (y16.2.2, ())) 1).bind fun y22 =>
                            cond (decide (y22 < 0))
                            (fin false)
                            (cond (y22 != y16.1)
                              (fin false)
                              (fin true)))))))))))))))
def laws_FnExactOrderPlan (x0 : DJob) (x1 : List Int) : Option (Bool) := laws_FnExactOrderPlanK some x0 x1
theorem p12 {R : Type} (fin : Bool → Option R) (x0 : DJob) (x1 : List Int) : Par fin (laws_FnExactOrderPlanK some x0 x1) (laws_FnExactOrderPlanK fin x0 x1) := by
  unfold laws_FnExactOrderPlanK
  repeat' (first | exact .fin | exact .none | refine .cond ?_ ?_ | refine .bind fun _ => ?_ | refine .sum (fun _ => ?_) fun _ => ?_)
def c12 : Callee := mkC [.agg [.ro TJob], .one (.ro (.slice (.int .i64)))] 1 [.one (.ro .bool)] fun x => laws_FnExactOrderPlan x.1 x.2
theorem e12 (x : PK.dens [.agg [.ro TJob], .one (.ro (.slice (.int .i64)))]) : evalFn Try.prog EL12 or0 Try.f12 (PK.outs [.agg [.ro TJob], .one (.ro (.slice (.int .i64)))] x) =
    laws_FnExactOrderPlanK (fun y => some (tupOf ((PK.outs [.one (.ro .bool)] y).take 1), (PK.outs [.one (.ro .bool)] y).drop 1)) x.1 x.2 := by kernel_rfl
theorem k12 : CalleeOk Try.prog 12 c12 := callee_mk Try.func12 (code := codeOf Try.f12) (by kernel_rfl) vL12 mixed (LoOk.nil (by kernel_rfl)) fun x y h => (e12 x).trans (p12 _ x.1 x.2 y h)
end
end Go.OAI
