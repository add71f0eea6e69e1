/- Contracts: GRb. -/
import Derived.Test.YtokaffjipngphaaGA
import Derived.Test.YtokaffjipngphaaGT
import Derived.Test.YtokaffjipngphaaGM
import Derived.Test.YtokaffjipngphaaGRe
namespace Go.OAI
open Go.Proofs
set_option linter.unusedVariables false
noncomputable section


/-- spec.reBound -/
def EL61 : Nat → Option Callee := addE 98 c98 (addE 57 c57 env0)
theorem vL61 : EnvOk Try.prog EL61 := (EnvOk.nil.add Try.func57 rfl (by kernel_rfl) k57).add Try.func98 rfl (by kernel_rfl) k98
def spec_reBoundK {R : Type} (fin : Int → Option R) (x0 : DJob) (x1 : List Int) : Option R :=
  (spec_rePlan x0 x1).bind fun y1 =>
  (spec_rePaid x0 x1 (y1.1, (y1.2, ()))).bind fun y2 =>
  fin y2
def spec_reBound (x0 : DJob) (x1 : List Int) : Option (Int) := spec_reBoundK some x0 x1
theorem p61 {R : Type} (fin : Int → Option R) (x0 : DJob) (x1 : List Int) : Par fin (spec_reBoundK some x0 x1) (spec_reBoundK fin x0 x1) := by
  unfold spec_reBoundK
  repeat' (first | exact .fin | exact .none | refine .cond ?_ ?_ | refine .bind fun _ => ?_ | refine .sum (fun _ => ?_) fun _ => ?_)
def c61 : Callee := mkC [.agg [.ro TJob], .one (.ro (.slice (.int .i64)))] 1 [.one (.ro (.int .i64))] fun x => spec_reBound x.1 x.2
theorem e61 (x : PK.dens [.agg [.ro TJob], .one (.ro (.slice (.int .i64)))]) : evalFn Try.prog EL61 or0 Try.f61 (PK.outs [.agg [.ro TJob], .one (.ro (.slice (.int .i64)))] x) =
    spec_reBoundK (fun y => some (tupOf ((PK.outs [.one (.ro (.int .i64))] y).take 1), (PK.outs [.one (.ro (.int .i64))] y).drop 1)) x.1 x.2 := by kernel_rfl
theorem k61 : CalleeOk Try.prog 61 c61 := callee_mk Try.func61 (code := codeOf Try.f61) (by kernel_rfl) vL61 mixed (LoOk.nil (by kernel_rfl)) fun x y h => (e61 x).trans (p61 _ x.1 x.2 y h)

/-- impl.excessOf -/
def EL64 : Nat → Option Callee := addE 99 c99 (addE 59 c59 env0)
theorem vL64 : EnvOk Try.prog EL64 := (EnvOk.nil.add Try.func59 rfl (by kernel_rfl) k59).add Try.func99 rfl (by kernel_rfl) k99
def simpl_excessOf_l0 : LS := ⟨[(2, .one (.fix (.ptr 0 0))), (5, .one (.fix (.sref 1))), (13, .one (.fix (.sref 2))), (14, .one (.dat (.int .i64))), (15, .one (.dat (.int .i64)))], [.box [.dat (.slice (.slice (.int .i64))), .dat (.slice (.int .i64)), .dat (.slice (.int .i64)), .dat (.int .i64), .dat (.int .i64), .dat (.int .i64), .dat (.int .i64), .dat (.int .i64)], .sl (.int .i64), .mat (.int .i64)], []⟩
def simpl_excessOf_l0x0 : LS := ⟨[(5, .one (.fix (.sref 0)))], [.sl (.int .i64)], []⟩
def ximpl_excessOf_l0 : List (XS (Int × (List (List Int)) × (List Int) × (List Int) × Int × Int × Int × Int × Int × (List (List Int)))) := [⟨.exit 0, ⟨[5], [.slot 5], [], []⟩, simpl_excessOf_l0x0, List Int, fun i y => (((), ()), (y, ()))⟩]
def impl_excessOf_l0K {R : Type} (a0 : Int) (a5 : Int) (a11 : List (List Int)) (rc : Int → List Int → Option R) (fin : List Int → Option R) (a1 : Int) (a10 : List Int) : Option R :=
  cond (decide (a1 < a0))
  (cond (decide ((0 : Int) ≤ a1) && decide (a1 < (a11.length : Int)))
    (cond (decide ((0 : Int) < ((a11.getD (0 + a1.toNat) []).length : Int)))
      (cond (decide (a10.length + [IntKind.i64.wrap (((a11.getD (0 + a1.toNat) []).getD (0 + 0) 0) - a5)].length ≤ 1099511627776))
        ((some (a10 ++ [IntKind.i64.wrap (((a11.getD (0 + a1.toNat) []).getD (0 + 0) 0) - a5)])).bind fun v1 =>
          rc (IntKind.i64.wrap (a1 + 1)) v1)
        (none))
      (none))
    (none))
  (fin a10)
def impl_excessOf_l0F (a0 : Int) (a5 : Int) (a11 : List (List Int)) (r : (Int × (List Int)) → Option (List Int)) (x : Int × (List Int)) : Option (List Int) := impl_excessOf_l0K a0 a5 a11 (fun a1 a10 => r (a1, a10)) some x.1 x.2
theorem impl_excessOf_l0c (a0 : Int) (a5 : Int) (a11 : List (List Int)) (x : Int × (List Int)) : Ct fun r => impl_excessOf_l0F a0 a5 a11 r x := by
  unfold impl_excessOf_l0F impl_excessOf_l0K
  repeat' (first | exact Ct.const | exact Ct.call | refine Ct.cond ?_ ?_ | refine Ct.bind ?_ fun _ => ?_ | refine Ct.sum (fun _ => ?_) fun _ => ?_)
def impl_excessOf_l0 (a0 : Int) (a5 : Int) (a11 : List (List Int)) (a1 : Int) (a10 : List Int) : Option (List Int) := lim (impl_excessOf_l0F a0 a5 a11) (a1, a10)
theorem impl_excessOf_l0_eq (a0 : Int) (a5 : Int) (a11 : List (List Int)) (a1 : Int) (a10 : List Int) : impl_excessOf_l0 a0 a5 a11 a1 a10 = impl_excessOf_l0K a0 a5 a11 (impl_excessOf_l0 a0 a5 a11) some a1 a10 := lim_eq (impl_excessOf_l0c a0 a5 a11) (a1, a10)
theorem impl_excessOf_l0p {R : Type} (a0 : Int) (a5 : Int) (a11 : List (List Int)) {rc : Int → List Int → Option (List Int)} {rc' : Int → List Int → Option R} {fin : List Int → Option R} (hr : ∀ a1 a10, Par fin (rc a1 a10) (rc' a1 a10)) (a1 : Int) (a10 : List Int) : Par fin (impl_excessOf_l0K a0 a5 a11 rc some a1 a10) (impl_excessOf_l0K a0 a5 a11 rc' fin a1 a10) := by
  unfold impl_excessOf_l0K
  repeat' (first | exact .fin | exact .none | exact hr _ _ | refine .cond ?_ ?_ | refine .bind fun _ => ?_ | refine .sum (fun _ => ?_) fun _ => ?_)
def Limpl_excessOf_l0 : Loop := mkL ⟨[2, 5, 13, 14, 15], [.slot 2, .slot 5, .slot 13], [], []⟩ simpl_excessOf_l0 ximpl_excessOf_l0 (fun (x : (Unit × Unit × Unit × Int × Int × Unit) × (((List (List Int)) × (List Int) × (List Int) × Int × Int × Int × Int × Int × Unit) × (List Int) × (List (List Int)) × Unit)) => (x.1.2.2.2.1, (x.2.1.1, (x.2.1.2.1, (x.2.1.2.2.1, (x.2.1.2.2.2.1, (x.2.1.2.2.2.2.1, (x.2.1.2.2.2.2.2.1, (x.2.1.2.2.2.2.2.2.1, (x.2.1.2.2.2.2.2.2.2.1, x.2.2.2.1)))))))))) fun (x : (Unit × Unit × Unit × Int × Int × Unit) × (((List (List Int)) × (List Int) × (List Int) × Int × Int × Int × Int × Int × Unit) × (List Int) × (List (List Int)) × Unit)) => impl_excessOf_l0 x.1.2.2.2.1 x.2.1.2.2.2.1 x.2.2.2.1 x.1.2.2.2.2.1 x.2.2.1
def impl_excessOfK {R : Type} (fin : List Int → Option R) (x0 : DJob) (x1 : List Int) : Option R :=
  (impl_relaxedPlan x0 x1).bind fun y1 =>
  (impl_tonnesIn x0 (y1.1, (y1.2, ()))).bind fun y2 =>
  (impl_excessOf_l0 (y2.length : Int) x0.2.2.2.1.1 y2 0 []).bind fun y4 =>
  fin y4
def impl_excessOf (x0 : DJob) (x1 : List Int) : Option (List Int) := impl_excessOfK some x0 x1
theorem p64 {R : Type} (fin : List Int → Option R) (x0 : DJob) (x1 : List Int) : Par fin (impl_excessOfK some x0 x1) (impl_excessOfK fin x0 x1) := by
  unfold impl_excessOfK
  repeat' (first | exact .fin | exact .none | refine .cond ?_ ?_ | refine .bind fun _ => ?_ | refine .sum (fun _ => ?_) fun _ => ?_)
def or64 : Ora := { lo := addL 3 (Limpl_excessOf_l0) lo0, fin := [] }
theorem impl_excessOf_l0e (a0 : Int) (a2 : List (List Int)) (a3 : List Int) (a4 : List Int) (a5 : Int) (a6 : Int) (a7 : Int) (a8 : Int) (a9 : Int) (a11 : List (List Int)) (k : Nat) (a1 : Int) (a10 : List Int) : loopC Try.prog EL64 or64 ((loopsIn (codeOf Try.f64)).getD 0 .skip) (Limpl_excessOf_l0).h (Limpl_excessOf_l0).ho Try.f64.ntmps (k + 1) (simpl_excessOf_l0.out (((), ((), ((), (a0, (a1, ()))))), ((a2, (a3, (a4, (a5, (a6, (a7, (a8, (a9, ())))))))), (a10, (a11, ()))))) =
    impl_excessOf_l0K a0 a5 a11 (fun a1 a10 => loopC Try.prog EL64 or64 ((loopsIn (codeOf Try.f64)).getD 0 .skip) (Limpl_excessOf_l0).h (Limpl_excessOf_l0).ho Try.f64.ntmps k (simpl_excessOf_l0.out (((), ((), ((), (a0, (a1, ()))))), ((a2, (a3, (a4, (a5, (a6, (a7, (a8, (a9, ())))))))), (a10, (a11, ())))))) (fun y => some (XS.out ximpl_excessOf_l0 (a0, (a2, (a3, (a4, (a5, (a6, (a7, (a8, (a9, a11))))))))) y)) a1 a10 := by kernel_rfl
theorem impl_excessOf_l0o : LoopOk Try.prog EL64 or64 Try.f64.ntmps ((loopsIn (codeOf Try.f64)).getD 0 .skip) (Limpl_excessOf_l0) :=
  loop_lim (hs := simpl_excessOf_l0) (xs := ximpl_excessOf_l0) (ι := fun (x : (Unit × Unit × Unit × Int × Int × Unit) × (((List (List Int)) × (List Int) × (List Int) × Int × Int × Int × Int × Int × Unit) × (List Int) × (List (List Int)) × Unit)) => (x.1.2.2.2.1, (x.2.1.1, (x.2.1.2.1, (x.2.1.2.2.1, (x.2.1.2.2.2.1, (x.2.1.2.2.2.2.1, (x.2.1.2.2.2.2.2.1, (x.2.1.2.2.2.2.2.2.1, (x.2.1.2.2.2.2.2.2.2.1, x.2.2.2.1)))))))))) (φ := fun (x : (Unit × Unit × Unit × Int × Int × Unit) × (((List (List Int)) × (List Int) × (List Int) × Int × Int × Int × Int × Int × Unit) × (List Int) × (List (List Int)) × Unit)) => (x.1.2.2.2.2.1, x.2.2.1)) (ψ := fun (i : Int × (List (List Int)) × (List Int) × (List Int) × Int × Int × Int × Int × Int × (List (List Int))) (v : Int × (List Int)) => (((), ((), ((), (i.1, (v.1, ()))))), ((i.2.1, (i.2.2.1, (i.2.2.2.1, (i.2.2.2.2.1, (i.2.2.2.2.2.1, (i.2.2.2.2.2.2.1, (i.2.2.2.2.2.2.2.1, (i.2.2.2.2.2.2.2.2.1, ())))))))), (v.2, (i.2.2.2.2.2.2.2.2.2, ()))))) (F := fun (i : Int × (List (List Int)) × (List Int) × (List Int) × Int × Int × Int × Int × Int × (List (List Int))) => impl_excessOf_l0F i.1 i.2.2.2.2.1 i.2.2.2.2.2.2.2.2.2) (fun _ => rfl) fun i k hk v => Par.of_eq (impl_excessOf_l0e i.1 i.2.1 i.2.2.1 i.2.2.2.1 i.2.2.2.2.1 i.2.2.2.2.2.1 i.2.2.2.2.2.2.1 i.2.2.2.2.2.2.2.1 i.2.2.2.2.2.2.2.2.1 i.2.2.2.2.2.2.2.2.2 k v.1 v.2) (impl_excessOf_l0p i.1 i.2.2.2.2.1 i.2.2.2.2.2.2.2.2.2 (fun a1 a10 => hk (a1, a10)) v.1 v.2)
def c64 : Callee := mkC [.agg [.ro TJob], .one (.ro (.slice (.int .i64)))] 1 [.one (.sl (.int .i64))] fun x => impl_excessOf x.1 x.2
theorem e64 (x : PK.dens [.agg [.ro TJob], .one (.ro (.slice (.int .i64)))]) : evalFn Try.prog EL64 or64 Try.f64 (PK.outs [.agg [.ro TJob], .one (.ro (.slice (.int .i64)))] x) =
    impl_excessOfK (fun y => some (tupOf ((PK.outs [.one (.sl (.int .i64))] y).take 1), (PK.outs [.one (.sl (.int .i64))] y).drop 1)) x.1 x.2 := by kernel_rfl
theorem o64 : LoOk Try.prog EL64 or64 Try.f64.ntmps (loopsIn (codeOf Try.f64)) :=
  LoOk.mk (m := 1) (by kernel_rfl) fun i hi => match i, hi with
    | 0, _ => ⟨Limpl_excessOf_l0, by kernel_rfl, impl_excessOf_l0o⟩
    | i + 1, hi => absurd hi (by omega)
theorem k64 : CalleeOk Try.prog 64 c64 := callee_mk Try.func64 (code := codeOf Try.f64) (by kernel_rfl) vL64 mixed o64 fun x y h => (e64 x).trans (p64 _ x.1 x.2 y h)

/-- spec.reExcess -/
def EL63 : Nat → Option Callee := addE 100 c100 (addE 57 c57 env0)
theorem vL63 : EnvOk Try.prog EL63 := (EnvOk.nil.add Try.func57 rfl (by kernel_rfl) k57).add Try.func100 rfl (by kernel_rfl) k100
def sspec_reExcess_l0 : LS := ⟨[(2, .one (.fix (.ptr 0 0))), (5, .one (.fix (.sref 1))), (12, .one (.fix (.sref 2))), (13, .one (.dat (.int .i64))), (14, .one (.dat (.int .i64)))], [.box [.dat (.slice (.slice (.int .i64))), .dat (.slice (.int .i64)), .dat (.slice (.int .i64)), .dat (.int .i64), .dat (.int .i64), .dat (.int .i64), .dat (.int .i64), .dat (.int .i64)], .sl (.int .i64), .mat (.int .i64)], []⟩
def sspec_reExcess_l0x0 : LS := ⟨[(5, .one (.fix (.sref 0)))], [.sl (.int .i64)], []⟩
def xspec_reExcess_l0 : List (XS (Int × (List (List Int)) × (List Int) × (List Int) × Int × Int × Int × Int × Int × (List (List Int)))) := [⟨.exit 0, ⟨[5], [.slot 5], [], []⟩, sspec_reExcess_l0x0, List Int, fun i y => (((), ()), (y, ()))⟩]
def spec_reExcess_l0K {R : Type} (a0 : Int) (a5 : Int) (a11 : List (List Int)) (rc : Int → List Int → Option R) (fin : List Int → Option R) (a1 : Int) (a10 : List Int) : Option R :=
  cond (decide (a1 < a0))
  (cond (decide ((0 : Int) ≤ a1) && decide (a1 < (a11.length : Int)))
    (cond (decide ((0 : Int) < ((a11.getD (0 + a1.toNat) []).length : Int)))
      (cond (decide (a10.length + [IntKind.i64.wrap (((a11.getD (0 + a1.toNat) []).getD (0 + 0) 0) - a5)].length ≤ 1099511627776))
        ((some (a10 ++ [IntKind.i64.wrap (((a11.getD (0 + a1.toNat) []).getD (0 + 0) 0) - a5)])).bind fun v1 =>
          rc (IntKind.i64.wrap (a1 + 1)) v1)
        (none))
      (none))
    (none))
  (fin a10)
def spec_reExcess_l0F (a0 : Int) (a5 : Int) (a11 : List (List Int)) (r : (Int × (List Int)) → Option (List Int)) (x : Int × (List Int)) : Option (List Int) := spec_reExcess_l0K a0 a5 a11 (fun a1 a10 => r (a1, a10)) some x.1 x.2
theorem spec_reExcess_l0c (a0 : Int) (a5 : Int) (a11 : List (List Int)) (x : Int × (List Int)) : Ct fun r => spec_reExcess_l0F a0 a5 a11 r x := by
  unfold spec_reExcess_l0F spec_reExcess_l0K
  repeat' (first | exact Ct.const | exact Ct.call | refine Ct.cond ?_ ?_ | refine Ct.bind ?_ fun _ => ?_ | refine Ct.sum (fun _ => ?_) fun _ => ?_)
def spec_reExcess_l0 (a0 : Int) (a5 : Int) (a11 : List (List Int)) (a1 : Int) (a10 : List Int) : Option (List Int) := lim (spec_reExcess_l0F a0 a5 a11) (a1, a10)
theorem spec_reExcess_l0_eq (a0 : Int) (a5 : Int) (a11 : List (List Int)) (a1 : Int) (a10 : List Int) : spec_reExcess_l0 a0 a5 a11 a1 a10 = spec_reExcess_l0K a0 a5 a11 (spec_reExcess_l0 a0 a5 a11) some a1 a10 := lim_eq (spec_reExcess_l0c a0 a5 a11) (a1, a10)
theorem spec_reExcess_l0p {R : Type} (a0 : Int) (a5 : Int) (a11 : List (List Int)) {rc : Int → List Int → Option (List Int)} {rc' : Int → List Int → Option R} {fin : List Int → Option R} (hr : ∀ a1 a10, Par fin (rc a1 a10) (rc' a1 a10)) (a1 : Int) (a10 : List Int) : Par fin (spec_reExcess_l0K a0 a5 a11 rc some a1 a10) (spec_reExcess_l0K a0 a5 a11 rc' fin a1 a10) := by
  unfold spec_reExcess_l0K
  repeat' (first | exact .fin | exact .none | exact hr _ _ | refine .cond ?_ ?_ | refine .bind fun _ => ?_ | refine .sum (fun _ => ?_) fun _ => ?_)
def Lspec_reExcess_l0 : Loop := mkL ⟨[2, 5, 12, 13, 14], [.slot 2, .slot 5, .slot 12], [], [.own (.slot 5) (.int .i64)]⟩ sspec_reExcess_l0 xspec_reExcess_l0 (fun (x : (Unit × Unit × Unit × Int × Int × Unit) × (((List (List Int)) × (List Int) × (List Int) × Int × Int × Int × Int × Int × Unit) × (List Int) × (List (List Int)) × Unit)) => (x.1.2.2.2.1, (x.2.1.1, (x.2.1.2.1, (x.2.1.2.2.1, (x.2.1.2.2.2.1, (x.2.1.2.2.2.2.1, (x.2.1.2.2.2.2.2.1, (x.2.1.2.2.2.2.2.2.1, (x.2.1.2.2.2.2.2.2.2.1, x.2.2.2.1)))))))))) fun (x : (Unit × Unit × Unit × Int × Int × Unit) × (((List (List Int)) × (List Int) × (List Int) × Int × Int × Int × Int × Int × Unit) × (List Int) × (List (List Int)) × Unit)) => spec_reExcess_l0 x.1.2.2.2.1 x.2.1.2.2.2.1 x.2.2.2.1 x.1.2.2.2.2.1 x.2.2.1
def spec_reExcessK {R : Type} (fin : List Int → Option R) (x0 : DJob) (x1 : List Int) : Option R :=
  (spec_rePlan x0 x1).bind fun y1 =>
  (spec_plTonnes x0 (y1.1, (y1.2, ()))).bind fun y2 =>
  (spec_reExcess_l0 (y2.length : Int) x0.2.2.2.1.1 y2 0 []).bind fun y5 =>
  fin y5
def spec_reExcess (x0 : DJob) (x1 : List Int) : Option (List Int) := spec_reExcessK some x0 x1
theorem p63 {R : Type} (fin : List Int → Option R) (x0 : DJob) (x1 : List Int) : Par fin (spec_reExcessK some x0 x1) (spec_reExcessK fin x0 x1) := by
  unfold spec_reExcessK
  repeat' (first | exact .fin | exact .none | refine .cond ?_ ?_ | refine .bind fun _ => ?_ | refine .sum (fun _ => ?_) fun _ => ?_)
def or63 : Ora := { lo := addL 3 (Lspec_reExcess_l0) lo0, fin := [] }
theorem spec_reExcess_l0e (a0 : Int) (a2 : List (List Int)) (a3 : List Int) (a4 : List Int) (a5 : Int) (a6 : Int) (a7 : Int) (a8 : Int) (a9 : Int) (a11 : List (List Int)) (k : Nat) (a1 : Int) (a10 : List Int) : loopC Try.prog EL63 or63 ((loopsIn (codeOf Try.f63)).getD 0 .skip) (Lspec_reExcess_l0).h (Lspec_reExcess_l0).ho Try.f63.ntmps (k + 1) (sspec_reExcess_l0.out (((), ((), ((), (a0, (a1, ()))))), ((a2, (a3, (a4, (a5, (a6, (a7, (a8, (a9, ())))))))), (a10, (a11, ()))))) =
    spec_reExcess_l0K a0 a5 a11 (fun a1 a10 => loopC Try.prog EL63 or63 ((loopsIn (codeOf Try.f63)).getD 0 .skip) (Lspec_reExcess_l0).h (Lspec_reExcess_l0).ho Try.f63.ntmps k (sspec_reExcess_l0.out (((), ((), ((), (a0, (a1, ()))))), ((a2, (a3, (a4, (a5, (a6, (a7, (a8, (a9, ())))))))), (a10, (a11, ())))))) (fun y => some (XS.out xspec_reExcess_l0 (a0, (a2, (a3, (a4, (a5, (a6, (a7, (a8, (a9, a11))))))))) y)) a1 a10 := by kernel_rfl
theorem spec_reExcess_l0o : LoopOk Try.prog EL63 or63 Try.f63.ntmps ((loopsIn (codeOf Try.f63)).getD 0 .skip) (Lspec_reExcess_l0) :=
  loop_lim (hs := sspec_reExcess_l0) (xs := xspec_reExcess_l0) (ι := fun (x : (Unit × Unit × Unit × Int × Int × Unit) × (((List (List Int)) × (List Int) × (List Int) × Int × Int × Int × Int × Int × Unit) × (List Int) × (List (List Int)) × Unit)) => (x.1.2.2.2.1, (x.2.1.1, (x.2.1.2.1, (x.2.1.2.2.1, (x.2.1.2.2.2.1, (x.2.1.2.2.2.2.1, (x.2.1.2.2.2.2.2.1, (x.2.1.2.2.2.2.2.2.1, (x.2.1.2.2.2.2.2.2.2.1, x.2.2.2.1)))))))))) (φ := fun (x : (Unit × Unit × Unit × Int × Int × Unit) × (((List (List Int)) × (List Int) × (List Int) × Int × Int × Int × Int × Int × Unit) × (List Int) × (List (List Int)) × Unit)) => (x.1.2.2.2.2.1, x.2.2.1)) (ψ := fun (i : Int × (List (List Int)) × (List Int) × (List Int) × Int × Int × Int × Int × Int × (List (List Int))) (v : Int × (List Int)) => (((), ((), ((), (i.1, (v.1, ()))))), ((i.2.1, (i.2.2.1, (i.2.2.2.1, (i.2.2.2.2.1, (i.2.2.2.2.2.1, (i.2.2.2.2.2.2.1, (i.2.2.2.2.2.2.2.1, (i.2.2.2.2.2.2.2.2.1, ())))))))), (v.2, (i.2.2.2.2.2.2.2.2.2, ()))))) (F := fun (i : Int × (List (List Int)) × (List Int) × (List Int) × Int × Int × Int × Int × Int × (List (List Int))) => spec_reExcess_l0F i.1 i.2.2.2.2.1 i.2.2.2.2.2.2.2.2.2) (fun _ => rfl) fun i k hk v => Par.of_eq (spec_reExcess_l0e i.1 i.2.1 i.2.2.1 i.2.2.2.1 i.2.2.2.2.1 i.2.2.2.2.2.1 i.2.2.2.2.2.2.1 i.2.2.2.2.2.2.2.1 i.2.2.2.2.2.2.2.2.1 i.2.2.2.2.2.2.2.2.2 k v.1 v.2) (spec_reExcess_l0p i.1 i.2.2.2.2.1 i.2.2.2.2.2.2.2.2.2 (fun a1 a10 => hk (a1, a10)) v.1 v.2)
def c63 : Callee := mkC [.agg [.ro TJob], .one (.ro (.slice (.int .i64)))] 1 [.one (.sl (.int .i64))] fun x => spec_reExcess x.1 x.2
theorem e63 (x : PK.dens [.agg [.ro TJob], .one (.ro (.slice (.int .i64)))]) : evalFn Try.prog EL63 or63 Try.f63 (PK.outs [.agg [.ro TJob], .one (.ro (.slice (.int .i64)))] x) =
    spec_reExcessK (fun y => some (tupOf ((PK.outs [.one (.sl (.int .i64))] y).take 1), (PK.outs [.one (.sl (.int .i64))] y).drop 1)) x.1 x.2 := by kernel_rfl
theorem o63 : LoOk Try.prog EL63 or63 Try.f63.ntmps (loopsIn (codeOf Try.f63)) :=
  LoOk.mk (m := 1) (by kernel_rfl) fun i hi => match i, hi with
    | 0, _ => ⟨Lspec_reExcess_l0, by kernel_rfl, spec_reExcess_l0o⟩
    | i + 1, hi => absurd hi (by omega)
theorem k63 : CalleeOk Try.prog 63 c63 := callee_mk Try.func63 (code := codeOf Try.f63) (by kernel_rfl) vL63 mixed o63 fun x y h => (e63 x).trans (p63 _ x.1 x.2 y h)
end
end Go.OAI
