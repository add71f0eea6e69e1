/- Contracts: GPitValues. -/
import Derived.Test.YtnmeejeedfeolaaGA
import Derived.Test.YtnmeejeedfeolaaGW
namespace Go.OAI
open Go.Proofs
set_option linter.unusedVariables false
noncomputable section


/-- spec.PitValues -/
def EL31 : Nat → Option Callee := addE 80 c80 (addE 74 c74 env0)
theorem vL31 : EnvOk Try.prog EL31 := (EnvOk.nil.add Try.func74 rfl (by kernel_rfl) k74).add Try.func80 rfl (by kernel_rfl) k80
def sspec_PitValues_l0 : LS := ⟨[(2, .one (.fix (.ptr 0 0))), (6, .one (.fix (.sref 1))), (17, .one (.dat (.slice (.int .i64)))), (18, .one (.dat (.int .i64))), (19, .one (.dat (.int .i64)))], [.box [.dat (.slice (.slice (.int .i64))), .dat (.slice (.int .i64)), .dat (.slice (.int .i64)), .dat (.int .i64), .dat (.int .i64), .dat (.int .i64), .dat (.int .i64), .dat (.int .i64)], .sl (.int .i64)], []⟩
def sspec_PitValues_l0x0 : LS := ⟨[(6, .one (.fix (.sref 0)))], [.sl (.int .i64)], []⟩
def xspec_PitValues_l0 : List (XS ((List Int) × Int × (List (List Int)) × (List Int) × (List Int) × Int × Int × Int × Int × Int)) := [⟨.exit 0, ⟨[6], [.slot 6], [], []⟩, sspec_PitValues_l0x0, List Int, fun i y => (((), ()), (y, ()))⟩]
def spec_PitValues_l0K {R : Type} (a0 : List Int) (a1 : Int) (a5 : List Int) (rc : Int → List Int → Option R) (fin : List Int → Option R) (a2 : Int) (a11 : List Int) : Option R :=
  cond (decide (a2 < a1))
  ((lat a0 a2).bind fun e1 =>
    cond (decide (e1 ≥ 0))
    (cond (decide ((0 : Int) ≤ e1) && decide (e1 < (a11.length : Int)))
      ((lat a5 a2).bind fun e2 =>
        cond (decide ((0 : Int) ≤ e1) && decide (e1 < (a11.length : Int)))
        ((some (a11.set (0 + e1.toNat) (IntKind.i64.wrap ((a11.getD (0 + e1.toNat) 0) + e2)))).bind fun v3 =>
          rc (IntKind.i64.wrap (a2 + 1)) v3)
        (none))
      (none))
    (rc (IntKind.i64.wrap (a2 + 1)) a11))
  (fin a11)
def spec_PitValues_l0F (a0 : List Int) (a1 : Int) (a5 : List Int) (r : (Int × (List Int)) → Option (List Int)) (x : Int × (List Int)) : Option (List Int) := spec_PitValues_l0K a0 a1 a5 (fun a2 a11 => r (a2, a11)) some x.1 x.2
theorem spec_PitValues_l0c (a0 : List Int) (a1 : Int) (a5 : List Int) (x : Int × (List Int)) : Ct fun r => spec_PitValues_l0F a0 a1 a5 r x := by
  unfold spec_PitValues_l0F spec_PitValues_l0K
  repeat' (first | exact Ct.const | exact Ct.call | refine Ct.cond ?_ ?_ | refine Ct.bind ?_ fun _ => ?_ | refine Ct.sum (fun _ => ?_) fun _ => ?_)
def spec_PitValues_l0 (a0 : List Int) (a1 : Int) (a5 : List Int) (a2 : Int) (a11 : List Int) : Option (List Int) := lim (spec_PitValues_l0F a0 a1 a5) (a2, a11)
theorem spec_PitValues_l0_eq (a0 : List Int) (a1 : Int) (a5 : List Int) (a2 : Int) (a11 : List Int) : spec_PitValues_l0 a0 a1 a5 a2 a11 = spec_PitValues_l0K a0 a1 a5 (spec_PitValues_l0 a0 a1 a5) some a2 a11 := lim_eq (spec_PitValues_l0c a0 a1 a5) (a2, a11)
theorem spec_PitValues_l0p {R : Type} (a0 : List Int) (a1 : Int) (a5 : List Int) {rc : Int → List Int → Option (List Int)} {rc' : Int → List Int → Option R} {fin : List Int → Option R} (hr : ∀ a2 a11, Par fin (rc a2 a11) (rc' a2 a11)) (a2 : Int) (a11 : List Int) : Par fin (spec_PitValues_l0K a0 a1 a5 rc some a2 a11) (spec_PitValues_l0K a0 a1 a5 rc' fin a2 a11) := by
  unfold spec_PitValues_l0K
  repeat' (first | exact .fin | exact .none | exact hr _ _ | refine .cond ?_ ?_ | refine .bind fun _ => ?_ | refine .sum (fun _ => ?_) fun _ => ?_)
def Lspec_PitValues_l0 : Loop := mkL ⟨[2, 6, 17, 18, 19], [.slot 2, .slot 6], [], []⟩ sspec_PitValues_l0 xspec_PitValues_l0 (fun (x : (Unit × Unit × (List Int) × Int × Int × Unit) × (((List (List Int)) × (List Int) × (List Int) × Int × Int × Int × Int × Int × Unit) × (List Int) × Unit)) => (x.1.2.2.1, (x.1.2.2.2.1, (x.2.1.1, (x.2.1.2.1, (x.2.1.2.2.1, (x.2.1.2.2.2.1, (x.2.1.2.2.2.2.1, (x.2.1.2.2.2.2.2.1, (x.2.1.2.2.2.2.2.2.1, x.2.1.2.2.2.2.2.2.2.1)))))))))) fun (x : (Unit × Unit × (List Int) × Int × Int × Unit) × (((List (List Int)) × (List Int) × (List Int) × Int × Int × Int × Int × Int × Unit) × (List Int) × Unit)) => spec_PitValues_l0 x.1.2.2.1 x.1.2.2.2.1 x.2.1.2.2.1 x.1.2.2.2.2.1 x.2.2.1
def spec_PitValuesK {R : Type} (fin : (List Int) × Bool → Option R) (x0 : DJob) (x1 : DPlan) : Option R :=
  (spec_plBoth x0 x1).bind fun y1 =>
  cond (!y1)
  (fin ([], false))
  (cond (decide ((0 : Int) ≤ x0.2.2.2.2.1) && (decide (x0.2.2.2.2.1 ≤ x0.2.2.2.2.1) && decide (x0.2.2.2.2.1 ≤ 1099511627776)))
    ((some ((List.replicate x0.2.2.2.2.1.toNat 0 : List Int))).bind fun v2 =>
      (spec_PitValues_l0 x1.2.1 (x1.2.1.length : Int) x0.2.2.1 0 v2).bind fun y6 =>
      (spec_woSums y6).bind fun y7 =>
      fin (y7, true))
    (none))
def spec_PitValues (x0 : DJob) (x1 : DPlan) : Option ((List Int) × Bool) := spec_PitValuesK some x0 x1
theorem p31 {R : Type} (fin : (List Int) × Bool → Option R) (x0 : DJob) (x1 : DPlan) : Par fin (spec_PitValuesK some x0 x1) (spec_PitValuesK fin x0 x1) := by
  unfold spec_PitValuesK
  repeat' (first | exact .fin | exact .none | refine .cond ?_ ?_ | refine .bind fun _ => ?_ | refine .sum (fun _ => ?_) fun _ => ?_)
def or31 : Ora := { lo := addL 5 (Lspec_PitValues_l0) lo0, fin := [.own (.slot 4) (.int .i64)] }
theorem spec_PitValues_l0e (a0 : List Int) (a1 : Int) (a3 : List (List Int)) (a4 : List Int) (a5 : List Int) (a6 : Int) (a7 : Int) (a8 : Int) (a9 : Int) (a10 : Int) (k : Nat) (a2 : Int) (a11 : List Int) : loopC Try.prog EL31 or31 ((loopsIn (codeOf Try.f31)).getD 0 .skip) (Lspec_PitValues_l0).h (Lspec_PitValues_l0).ho Try.f31.ntmps (k + 1) (sspec_PitValues_l0.out (((), ((), (a0, (a1, (a2, ()))))), ((a3, (a4, (a5, (a6, (a7, (a8, (a9, (a10, ())))))))), (a11, ())))) =
    spec_PitValues_l0K a0 a1 a5 (fun a2 a11 => loopC Try.prog EL31 or31 ((loopsIn (codeOf Try.f31)).getD 0 .skip) (Lspec_PitValues_l0).h (Lspec_PitValues_l0).ho Try.f31.ntmps k (sspec_PitValues_l0.out (((), ((), (a0, (a1, (a2, ()))))), ((a3, (a4, (a5, (a6, (a7, (a8, (a9, (a10, ())))))))), (a11, ()))))) (fun y => some (XS.out xspec_PitValues_l0 (a0, (a1, (a3, (a4, (a5, (a6, (a7, (a8, (a9, a10))))))))) y)) a2 a11 := by kernel_rfl
theorem spec_PitValues_l0o : LoopOk Try.prog EL31 or31 Try.f31.ntmps ((loopsIn (codeOf Try.f31)).getD 0 .skip) (Lspec_PitValues_l0) :=
  loop_lim (hs := sspec_PitValues_l0) (xs := xspec_PitValues_l0) (ι := fun (x : (Unit × Unit × (List Int) × Int × Int × Unit) × (((List (List Int)) × (List Int) × (List Int) × Int × Int × Int × Int × Int × Unit) × (List Int) × Unit)) => (x.1.2.2.1, (x.1.2.2.2.1, (x.2.1.1, (x.2.1.2.1, (x.2.1.2.2.1, (x.2.1.2.2.2.1, (x.2.1.2.2.2.2.1, (x.2.1.2.2.2.2.2.1, (x.2.1.2.2.2.2.2.2.1, x.2.1.2.2.2.2.2.2.2.1)))))))))) (φ := fun (x : (Unit × Unit × (List Int) × Int × Int × Unit) × (((List (List Int)) × (List Int) × (List Int) × Int × Int × Int × Int × Int × Unit) × (List Int) × Unit)) => (x.1.2.2.2.2.1, x.2.2.1)) (ψ := fun (i : (List Int) × Int × (List (List Int)) × (List Int) × (List Int) × Int × Int × Int × Int × Int) (v : Int × (List Int)) => (((), ((), (i.1, (i.2.1, (v.1, ()))))), ((i.2.2.1, (i.2.2.2.1, (i.2.2.2.2.1, (i.2.2.2.2.2.1, (i.2.2.2.2.2.2.1, (i.2.2.2.2.2.2.2.1, (i.2.2.2.2.2.2.2.2.1, (i.2.2.2.2.2.2.2.2.2, ())))))))), (v.2, ())))) (F := fun (i : (List Int) × Int × (List (List Int)) × (List Int) × (List Int) × Int × Int × Int × Int × Int) => spec_PitValues_l0F i.1 i.2.1 i.2.2.2.2.1) (fun _ => rfl) fun i k hk v => Par.of_eq (spec_PitValues_l0e i.1 i.2.1 i.2.2.1 i.2.2.2.1 i.2.2.2.2.1 i.2.2.2.2.2.1 i.2.2.2.2.2.2.1 i.2.2.2.2.2.2.2.1 i.2.2.2.2.2.2.2.2.1 i.2.2.2.2.2.2.2.2.2 k v.1 v.2) (spec_PitValues_l0p i.1 i.2.1 i.2.2.2.2.1 (fun a2 a11 => hk (a2, a11)) v.1 v.2)
def c31 : Callee := mkC [.agg [.ro TJob], .agg [.ro TPlan]] 2 [.one (.sl (.int .i64)), .one (.ro .bool)] fun x => spec_PitValues x.1 x.2
theorem e31 (x : PK.dens [.agg [.ro TJob], .agg [.ro TPlan]]) : evalFn Try.prog EL31 or31 Try.f31 (PK.outs [.agg [.ro TJob], .agg [.ro TPlan]] x) =
    spec_PitValuesK (fun y => some (tupOf ((PK.outs [.one (.sl (.int .i64)), .one (.ro .bool)] y).take 2), (PK.outs [.one (.sl (.int .i64)), .one (.ro .bool)] y).drop 2)) x.1 x.2 := by kernel_rfl
theorem o31 : LoOk Try.prog EL31 or31 Try.f31.ntmps (loopsIn (codeOf Try.f31)) :=
  LoOk.mk (m := 1) (by kernel_rfl) fun i hi => match i, hi with
    | 0, _ => ⟨Lspec_PitValues_l0, by kernel_rfl, spec_PitValues_l0o⟩
    | i + 1, hi => absurd hi (by omega)
theorem k31 : CalleeOk Try.prog 31 c31 := callee_mk Try.func31 (code := codeOf Try.f31) (by kernel_rfl) vL31 mixed o31 fun x y h => (e31 x).trans (p31 _ x.1 x.2 y h)

/-- impl.PitValues -/
def EL32 : Nat → Option Callee := addE 78 c78 (addE 70 c70 env0)
theorem vL32 : EnvOk Try.prog EL32 := (EnvOk.nil.add Try.func70 rfl (by kernel_rfl) k70).add Try.func78 rfl (by kernel_rfl) k78
def simpl_PitValues_l1 : LS := ⟨[(2, .one (.fix (.ptr 0 0))), (6, .one (.fix (.sref 1))), (7, .one (.dat (.int .i64))), (8, .one (.dat (.int .i64))), (9, .one (.dat (.int .i64))), (23, .one (.dat (.slice (.int .i64)))), (24, .one (.dat (.int .i64))), (25, .one (.dat (.int .i64)))], [.box [.dat (.slice (.slice (.int .i64))), .dat (.slice (.int .i64)), .dat (.slice (.int .i64)), .dat (.int .i64), .dat (.int .i64), .dat (.int .i64), .dat (.int .i64), .dat (.int .i64)], .sl (.int .i64)], []⟩
def simpl_PitValues_l1x0 : LS := ⟨[(2, .one (.fix (.ptr 0 0))), (6, .one (.fix (.sref 1))), (23, .one (.dat (.slice (.int .i64)))), (24, .one (.dat (.int .i64))), (25, .one (.dat (.int .i64)))], [.box [.dat (.slice (.slice (.int .i64))), .dat (.slice (.int .i64)), .dat (.slice (.int .i64)), .dat (.int .i64), .dat (.int .i64), .dat (.int .i64), .dat (.int .i64), .dat (.int .i64)], .sl (.int .i64)], []⟩
def ximpl_PitValues_l1 : List (XS (Int × Int × (List Int) × Int × Int × (List (List Int)) × (List Int) × (List Int) × Int × Int × Int × Int × Int)) := [⟨.exit 2, ⟨[2, 6, 23, 24, 25], [.slot 2, .slot 6], [], []⟩, simpl_PitValues_l1x0, List Int, fun i y => (((), ((), (i.2.2.1, (i.2.2.2.1, (i.2.2.2.2.1, ()))))), ((i.2.2.2.2.2.1, (i.2.2.2.2.2.2.1, (i.2.2.2.2.2.2.2.1, (i.2.2.2.2.2.2.2.2.1, (i.2.2.2.2.2.2.2.2.2.1, (i.2.2.2.2.2.2.2.2.2.2.1, (i.2.2.2.2.2.2.2.2.2.2.2.1, (i.2.2.2.2.2.2.2.2.2.2.2.2, ())))))))), (y, ())))⟩]
def impl_PitValues_l1K {R : Type} (a0 : Int) (a1 : Int) (a8 : List Int) (a11 : Int) (rc : Int → List Int → Option R) (fin : List Int → Option R) (a2 : Int) (a14 : List Int) : Option R :=
  cond (decide (a1 ≥ 0))
  (cond (decide (a2 < a11))
    (cond (decide ((0 : Int) ≤ a2) && decide (a2 < (a14.length : Int)))
      ((lat a8 a0).bind fun e1 =>
        cond (decide ((0 : Int) ≤ a2) && decide (a2 < (a14.length : Int)))
        ((some (a14.set (0 + a2.toNat) (IntKind.i64.wrap ((a14.getD (0 + a2.toNat) 0) + e1)))).bind fun v2 =>
          rc (IntKind.i64.wrap (a2 + 1)) v2)
        (none))
      (none))
    (fin a14))
  (fin a14)
def impl_PitValues_l1F (a0 : Int) (a1 : Int) (a8 : List Int) (a11 : Int) (r : (Int × (List Int)) → Option (List Int)) (x : Int × (List Int)) : Option (List Int) := impl_PitValues_l1K a0 a1 a8 a11 (fun a2 a14 => r (a2, a14)) some x.1 x.2
theorem impl_PitValues_l1c (a0 : Int) (a1 : Int) (a8 : List Int) (a11 : Int) (x : Int × (List Int)) : Ct fun r => impl_PitValues_l1F a0 a1 a8 a11 r x := by
  unfold impl_PitValues_l1F impl_PitValues_l1K
  repeat' (first | exact Ct.const | exact Ct.call | refine Ct.cond ?_ ?_ | refine Ct.bind ?_ fun _ => ?_ | refine Ct.sum (fun _ => ?_) fun _ => ?_)
def impl_PitValues_l1 (a0 : Int) (a1 : Int) (a8 : List Int) (a11 : Int) (a2 : Int) (a14 : List Int) : Option (List Int) := lim (impl_PitValues_l1F a0 a1 a8 a11) (a2, a14)
theorem impl_PitValues_l1_eq (a0 : Int) (a1 : Int) (a8 : List Int) (a11 : Int) (a2 : Int) (a14 : List Int) : impl_PitValues_l1 a0 a1 a8 a11 a2 a14 = impl_PitValues_l1K a0 a1 a8 a11 (impl_PitValues_l1 a0 a1 a8 a11) some a2 a14 := lim_eq (impl_PitValues_l1c a0 a1 a8 a11) (a2, a14)
theorem impl_PitValues_l1p {R : Type} (a0 : Int) (a1 : Int) (a8 : List Int) (a11 : Int) {rc : Int → List Int → Option (List Int)} {rc' : Int → List Int → Option R} {fin : List Int → Option R} (hr : ∀ a2 a14, Par fin (rc a2 a14) (rc' a2 a14)) (a2 : Int) (a14 : List Int) : Par fin (impl_PitValues_l1K a0 a1 a8 a11 rc some a2 a14) (impl_PitValues_l1K a0 a1 a8 a11 rc' fin a2 a14) := by
  unfold impl_PitValues_l1K
  repeat' (first | exact .fin | exact .none | exact hr _ _ | refine .cond ?_ ?_ | refine .bind fun _ => ?_ | refine .sum (fun _ => ?_) fun _ => ?_)
def Limpl_PitValues_l1 : Loop := mkL ⟨[2, 6, 7, 8, 9, 23, 24, 25], [.slot 2, .slot 6], [], []⟩ simpl_PitValues_l1 ximpl_PitValues_l1 (fun (x : (Unit × Unit × Int × Int × Int × (List Int) × Int × Int × Unit) × (((List (List Int)) × (List Int) × (List Int) × Int × Int × Int × Int × Int × Unit) × (List Int) × Unit)) => (x.1.2.2.1, (x.1.2.2.2.1, (x.1.2.2.2.2.2.1, (x.1.2.2.2.2.2.2.1, (x.1.2.2.2.2.2.2.2.1, (x.2.1.1, (x.2.1.2.1, (x.2.1.2.2.1, (x.2.1.2.2.2.1, (x.2.1.2.2.2.2.1, (x.2.1.2.2.2.2.2.1, (x.2.1.2.2.2.2.2.2.1, x.2.1.2.2.2.2.2.2.2.1))))))))))))) fun (x : (Unit × Unit × Int × Int × Int × (List Int) × Int × Int × Unit) × (((List (List Int)) × (List Int) × (List Int) × Int × Int × Int × Int × Int × Unit) × (List Int) × Unit)) => impl_PitValues_l1 x.1.2.2.1 x.1.2.2.2.1 x.2.1.2.2.1 x.2.1.2.2.2.2.2.1 x.1.2.2.2.2.1 x.2.2.1
def simpl_PitValues_l0 : LS := ⟨[(2, .one (.fix (.ptr 0 0))), (6, .one (.fix (.sref 1))), (23, .one (.dat (.slice (.int .i64)))), (24, .one (.dat (.int .i64))), (25, .one (.dat (.int .i64)))], [.box [.dat (.slice (.slice (.int .i64))), .dat (.slice (.int .i64)), .dat (.slice (.int .i64)), .dat (.int .i64), .dat (.int .i64), .dat (.int .i64), .dat (.int .i64), .dat (.int .i64)], .sl (.int .i64)], []⟩
def simpl_PitValues_l0x0 : LS := ⟨[(6, .one (.fix (.sref 0)))], [.sl (.int .i64)], []⟩
def ximpl_PitValues_l0 : List (XS ((List Int) × Int × (List (List Int)) × (List Int) × (List Int) × Int × Int × Int × Int × Int)) := [⟨.exit 0, ⟨[6], [.slot 6], [], []⟩, simpl_PitValues_l0x0, List Int, fun i y => (((), ()), (y, ()))⟩]
def impl_PitValues_l0K {R : Type} (a0 : List Int) (a1 : Int) (a5 : List Int) (a8 : Int) (rc : Int → List Int → Option R) (fin : List Int → Option R) (a2 : Int) (a11 : List Int) : Option R :=
  cond (decide (a2 < a1))
  ((lat a0 a2).bind fun e1 =>
    (impl_PitValues_l1 a2 e1 a5 a8 (if e1 > 0 then e1 else 0) a11).bind fun y4 =>
    rc (IntKind.i64.wrap (a2 + 1)) y4)
  (fin a11)
def impl_PitValues_l0F (a0 : List Int) (a1 : Int) (a5 : List Int) (a8 : Int) (r : (Int × (List Int)) → Option (List Int)) (x : Int × (List Int)) : Option (List Int) := impl_PitValues_l0K a0 a1 a5 a8 (fun a2 a11 => r (a2, a11)) some x.1 x.2
theorem impl_PitValues_l0c (a0 : List Int) (a1 : Int) (a5 : List Int) (a8 : Int) (x : Int × (List Int)) : Ct fun r => impl_PitValues_l0F a0 a1 a5 a8 r x := by
  unfold impl_PitValues_l0F impl_PitValues_l0K
  repeat' (first | exact Ct.const | exact Ct.call | refine Ct.cond ?_ ?_ | refine Ct.bind ?_ fun _ => ?_ | refine Ct.sum (fun _ => ?_) fun _ => ?_)
def impl_PitValues_l0 (a0 : List Int) (a1 : Int) (a5 : List Int) (a8 : Int) (a2 : Int) (a11 : List Int) : Option (List Int) := lim (impl_PitValues_l0F a0 a1 a5 a8) (a2, a11)
theorem impl_PitValues_l0_eq (a0 : List Int) (a1 : Int) (a5 : List Int) (a8 : Int) (a2 : Int) (a11 : List Int) : impl_PitValues_l0 a0 a1 a5 a8 a2 a11 = impl_PitValues_l0K a0 a1 a5 a8 (impl_PitValues_l0 a0 a1 a5 a8) some a2 a11 := lim_eq (impl_PitValues_l0c a0 a1 a5 a8) (a2, a11)
theorem impl_PitValues_l0p {R : Type} (a0 : List Int) (a1 : Int) (a5 : List Int) (a8 : Int) {rc : Int → List Int → Option (List Int)} {rc' : Int → List Int → Option R} {fin : List Int → Option R} (hr : ∀ a2 a11, Par fin (rc a2 a11) (rc' a2 a11)) (a2 : Int) (a11 : List Int) : Par fin (impl_PitValues_l0K a0 a1 a5 a8 rc some a2 a11) (impl_PitValues_l0K a0 a1 a5 a8 rc' fin a2 a11) := by
  unfold impl_PitValues_l0K
  repeat' (first | exact .fin | exact .none | exact hr _ _ | refine .cond ?_ ?_ | refine .bind fun _ => ?_ | refine .sum (fun _ => ?_) fun _ => ?_)
def Limpl_PitValues_l0 : Loop := mkL ⟨[2, 6, 23, 24, 25], [.slot 2, .slot 6], [], []⟩ simpl_PitValues_l0 ximpl_PitValues_l0 (fun (x : (Unit × Unit × (List Int) × Int × Int × Unit) × (((List (List Int)) × (List Int) × (List Int) × Int × Int × Int × Int × Int × Unit) × (List Int) × Unit)) => (x.1.2.2.1, (x.1.2.2.2.1, (x.2.1.1, (x.2.1.2.1, (x.2.1.2.2.1, (x.2.1.2.2.2.1, (x.2.1.2.2.2.2.1, (x.2.1.2.2.2.2.2.1, (x.2.1.2.2.2.2.2.2.1, x.2.1.2.2.2.2.2.2.2.1)))))))))) fun (x : (Unit × Unit × (List Int) × Int × Int × Unit) × (((List (List Int)) × (List Int) × (List Int) × Int × Int × Int × Int × Int × Unit) × (List Int) × Unit)) => impl_PitValues_l0 x.1.2.2.1 x.1.2.2.2.1 x.2.1.2.2.1 x.2.1.2.2.2.2.2.1 x.1.2.2.2.2.1 x.2.2.1
def impl_PitValuesK {R : Type} (fin : (List Int) × Bool → Option R) (x0 : DJob) (x1 : DPlan) : Option R :=
  (impl_IsJob x0).bind fun y1 =>
  cond (!y1)
  (fin ([], false))
  ((impl_isPlan x0 x1).bind fun y2 =>
    cond (!y2)
    (fin ([], false))
    (cond (decide ((0 : Int) ≤ x0.2.2.2.2.1) && (decide (x0.2.2.2.2.1 ≤ x0.2.2.2.2.1) && decide (x0.2.2.2.2.1 ≤ 1099511627776)))
      ((some ((List.replicate x0.2.2.2.2.1.toNat 0 : List Int))).bind fun v3 =>
        (impl_PitValues_l0 x1.2.1 (x1.2.1.length : Int) x0.2.2.1 x0.2.2.2.2.1 0 v3).bind fun y8 =>
        fin (y8, true))
      (none)))
def impl_PitValues (x0 : DJob) (x1 : DPlan) : Option ((List Int) × Bool) := impl_PitValuesK some x0 x1
theorem p32 {R : Type} (fin : (List Int) × Bool → Option R) (x0 : DJob) (x1 : DPlan) : Par fin (impl_PitValuesK some x0 x1) (impl_PitValuesK fin x0 x1) := by
  unfold impl_PitValuesK
  repeat' (first | exact .fin | exact .none | refine .cond ?_ ?_ | refine .bind fun _ => ?_ | refine .sum (fun _ => ?_) fun _ => ?_)
def or32 : Ora := { lo := addL 5 (Limpl_PitValues_l0) (addL 8 (Limpl_PitValues_l1) lo0), fin := [.own (.slot 4) (.int .i64)] }
theorem impl_PitValues_l1e (a0 : Int) (a1 : Int) (a3 : List Int) (a4 : Int) (a5 : Int) (a6 : List (List Int)) (a7 : List Int) (a8 : List Int) (a9 : Int) (a10 : Int) (a11 : Int) (a12 : Int) (a13 : Int) (k : Nat) (a2 : Int) (a14 : List Int) : loopC Try.prog EL32 or32 ((loopsIn (codeOf Try.f32)).getD 1 .skip) (Limpl_PitValues_l1).h (Limpl_PitValues_l1).ho Try.f32.ntmps (k + 1) (simpl_PitValues_l1.out (((), ((), (a0, (a1, (a2, (a3, (a4, (a5, ())))))))), ((a6, (a7, (a8, (a9, (a10, (a11, (a12, (a13, ())))))))), (a14, ())))) =
    impl_PitValues_l1K a0 a1 a8 a11 (fun a2 a14 => loopC Try.prog EL32 or32 ((loopsIn (codeOf Try.f32)).getD 1 .skip) (Limpl_PitValues_l1).h (Limpl_PitValues_l1).ho Try.f32.ntmps k (simpl_PitValues_l1.out (((), ((), (a0, (a1, (a2, (a3, (a4, (a5, ())))))))), ((a6, (a7, (a8, (a9, (a10, (a11, (a12, (a13, ())))))))), (a14, ()))))) (fun y => some (XS.out ximpl_PitValues_l1 (a0, (a1, (a3, (a4, (a5, (a6, (a7, (a8, (a9, (a10, (a11, (a12, a13)))))))))))) y)) a2 a14 := by kernel_rfl
theorem impl_PitValues_l1o : LoopOk Try.prog EL32 or32 Try.f32.ntmps ((loopsIn (codeOf Try.f32)).getD 1 .skip) (Limpl_PitValues_l1) :=
  loop_lim (hs := simpl_PitValues_l1) (xs := ximpl_PitValues_l1) (ι := fun (x : (Unit × Unit × Int × Int × Int × (List Int) × Int × Int × Unit) × (((List (List Int)) × (List Int) × (List Int) × Int × Int × Int × Int × Int × Unit) × (List Int) × Unit)) => (x.1.2.2.1, (x.1.2.2.2.1, (x.1.2.2.2.2.2.1, (x.1.2.2.2.2.2.2.1, (x.1.2.2.2.2.2.2.2.1, (x.2.1.1, (x.2.1.2.1, (x.2.1.2.2.1, (x.2.1.2.2.2.1, (x.2.1.2.2.2.2.1, (x.2.1.2.2.2.2.2.1, (x.2.1.2.2.2.2.2.2.1, x.2.1.2.2.2.2.2.2.2.1))))))))))))) (φ := fun (x : (Unit × Unit × Int × Int × Int × (List Int) × Int × Int × Unit) × (((List (List Int)) × (List Int) × (List Int) × Int × Int × Int × Int × Int × Unit) × (List Int) × Unit)) => (x.1.2.2.2.2.1, x.2.2.1)) (ψ := fun (i : Int × Int × (List Int) × Int × Int × (List (List Int)) × (List Int) × (List Int) × Int × Int × Int × Int × Int) (v : Int × (List Int)) => (((), ((), (i.1, (i.2.1, (v.1, (i.2.2.1, (i.2.2.2.1, (i.2.2.2.2.1, ())))))))), ((i.2.2.2.2.2.1, (i.2.2.2.2.2.2.1, (i.2.2.2.2.2.2.2.1, (i.2.2.2.2.2.2.2.2.1, (i.2.2.2.2.2.2.2.2.2.1, (i.2.2.2.2.2.2.2.2.2.2.1, (i.2.2.2.2.2.2.2.2.2.2.2.1, (i.2.2.2.2.2.2.2.2.2.2.2.2, ())))))))), (v.2, ())))) (F := fun (i : Int × Int × (List Int) × Int × Int × (List (List Int)) × (List Int) × (List Int) × Int × Int × Int × Int × Int) => impl_PitValues_l1F i.1 i.2.1 i.2.2.2.2.2.2.2.1 i.2.2.2.2.2.2.2.2.2.2.1) (fun _ => rfl) fun i k hk v => Par.of_eq (impl_PitValues_l1e i.1 i.2.1 i.2.2.1 i.2.2.2.1 i.2.2.2.2.1 i.2.2.2.2.2.1 i.2.2.2.2.2.2.1 i.2.2.2.2.2.2.2.1 i.2.2.2.2.2.2.2.2.1 i.2.2.2.2.2.2.2.2.2.1 i.2.2.2.2.2.2.2.2.2.2.1 i.2.2.2.2.2.2.2.2.2.2.2.1 i.2.2.2.2.2.2.2.2.2.2.2.2 k v.1 v.2) (impl_PitValues_l1p i.1 i.2.1 i.2.2.2.2.2.2.2.1 i.2.2.2.2.2.2.2.2.2.2.1 (fun a2 a14 => hk (a2, a14)) v.1 v.2)
theorem impl_PitValues_l0e (a0 : List Int) (a1 : Int) (a3 : List (List Int)) (a4 : List Int) (a5 : List Int) (a6 : Int) (a7 : Int) (a8 : Int) (a9 : Int) (a10 : Int) (k : Nat) (a2 : Int) (a11 : List Int) : loopC Try.prog EL32 or32 ((loopsIn (codeOf Try.f32)).getD 0 .skip) (Limpl_PitValues_l0).h (Limpl_PitValues_l0).ho Try.f32.ntmps (k + 1) (simpl_PitValues_l0.out (((), ((), (a0, (a1, (a2, ()))))), ((a3, (a4, (a5, (a6, (a7, (a8, (a9, (a10, ())))))))), (a11, ())))) =
    impl_PitValues_l0K a0 a1 a5 a8 (fun a2 a11 => loopC Try.prog EL32 or32 ((loopsIn (codeOf Try.f32)).getD 0 .skip) (Limpl_PitValues_l0).h (Limpl_PitValues_l0).ho Try.f32.ntmps k (simpl_PitValues_l0.out (((), ((), (a0, (a1, (a2, ()))))), ((a3, (a4, (a5, (a6, (a7, (a8, (a9, (a10, ())))))))), (a11, ()))))) (fun y => some (XS.out ximpl_PitValues_l0 (a0, (a1, (a3, (a4, (a5, (a6, (a7, (a8, (a9, a10))))))))) y)) a2 a11 := by kernel_rfl
theorem impl_PitValues_l0o : LoopOk Try.prog EL32 or32 Try.f32.ntmps ((loopsIn (codeOf Try.f32)).getD 0 .skip) (Limpl_PitValues_l0) :=
  loop_lim (hs := simpl_PitValues_l0) (xs := ximpl_PitValues_l0) (ι := fun (x : (Unit × Unit × (List Int) × Int × Int × Unit) × (((List (List Int)) × (List Int) × (List Int) × Int × Int × Int × Int × Int × Unit) × (List Int) × Unit)) => (x.1.2.2.1, (x.1.2.2.2.1, (x.2.1.1, (x.2.1.2.1, (x.2.1.2.2.1, (x.2.1.2.2.2.1, (x.2.1.2.2.2.2.1, (x.2.1.2.2.2.2.2.1, (x.2.1.2.2.2.2.2.2.1, x.2.1.2.2.2.2.2.2.2.1)))))))))) (φ := fun (x : (Unit × Unit × (List Int) × Int × Int × Unit) × (((List (List Int)) × (List Int) × (List Int) × Int × Int × Int × Int × Int × Unit) × (List Int) × Unit)) => (x.1.2.2.2.2.1, x.2.2.1)) (ψ := fun (i : (List Int) × Int × (List (List Int)) × (List Int) × (List Int) × Int × Int × Int × Int × Int) (v : Int × (List Int)) => (((), ((), (i.1, (i.2.1, (v.1, ()))))), ((i.2.2.1, (i.2.2.2.1, (i.2.2.2.2.1, (i.2.2.2.2.2.1, (i.2.2.2.2.2.2.1, (i.2.2.2.2.2.2.2.1, (i.2.2.2.2.2.2.2.2.1, (i.2.2.2.2.2.2.2.2.2, ())))))))), (v.2, ())))) (F := fun (i : (List Int) × Int × (List (List Int)) × (List Int) × (List Int) × Int × Int × Int × Int × Int) => impl_PitValues_l0F i.1 i.2.1 i.2.2.2.2.1 i.2.2.2.2.2.2.2.1) (fun _ => rfl) fun i k hk v => Par.of_eq (impl_PitValues_l0e i.1 i.2.1 i.2.2.1 i.2.2.2.1 i.2.2.2.2.1 i.2.2.2.2.2.1 i.2.2.2.2.2.2.1 i.2.2.2.2.2.2.2.1 i.2.2.2.2.2.2.2.2.1 i.2.2.2.2.2.2.2.2.2 k v.1 v.2) (impl_PitValues_l0p i.1 i.2.1 i.2.2.2.2.1 i.2.2.2.2.2.2.2.1 (fun a2 a11 => hk (a2, a11)) v.1 v.2)
def c32 : Callee := mkC [.agg [.ro TJob], .agg [.ro TPlan]] 2 [.one (.sl (.int .i64)), .one (.ro .bool)] fun x => impl_PitValues x.1 x.2
theorem e32 (x : PK.dens [.agg [.ro TJob], .agg [.ro TPlan]]) : evalFn Try.prog EL32 or32 Try.f32 (PK.outs [.agg [.ro TJob], .agg [.ro TPlan]] x) =
    impl_PitValuesK (fun y => some (tupOf ((PK.outs [.one (.sl (.int .i64)), .one (.ro .bool)] y).take 2), (PK.outs [.one (.sl (.int .i64)), .one (.ro .bool)] y).drop 2)) x.1 x.2 := by kernel_rfl
theorem o32 : LoOk Try.prog EL32 or32 Try.f32.ntmps (loopsIn (codeOf Try.f32)) :=
  LoOk.mk (m := 2) (by kernel_rfl) fun i hi => match i, hi with
    | 0, _ => ⟨Limpl_PitValues_l0, by kernel_rfl, impl_PitValues_l0o⟩
    | 1, _ => ⟨Limpl_PitValues_l1, by kernel_rfl, impl_PitValues_l1o⟩
    | i + 2, hi => absurd hi (by omega)
theorem k32 : CalleeOk Try.prog 32 c32 := callee_mk Try.func32 (code := codeOf Try.f32) (by kernel_rfl) vL32 mixed o32 fun x y h => (e32 x).trans (p32 _ x.1 x.2 y h)

/-- laws.FnExactPitValues -/
def EL5 : Nat → Option Callee := addE 36 c36 (addE 35 c35 (addE 34 c34 (addE 33 c33 (addE 30 c30 (addE 24 c24 (addE 25 c25 (addE 32 c32 (addE 31 c31 (addE 28 c28 (addE 21 c21 (addE 26 c26 (addE 19 c19 env0))))))))))))
theorem vL5 : EnvOk Try.prog EL5 := ((((((((((((EnvOk.nil.add Try.func19 rfl (by kernel_rfl) k19).add Try.func26 rfl (by kernel_rfl) k26).add Try.func21 rfl (by kernel_rfl) k21).add Try.func28 rfl (by kernel_rfl) k28).add Try.func31 rfl (by kernel_rfl) k31).add Try.func32 rfl (by kernel_rfl) k32).add Try.func25 rfl (by kernel_rfl) k25).add Try.func24 rfl (by kernel_rfl) k24).add Try.func30 rfl (by kernel_rfl) k30).add Try.func33 rfl (by kernel_rfl) k33).add Try.func34 rfl (by kernel_rfl) k34).add Try.func35 rfl (by kernel_rfl) k35).add Try.func36 rfl (by kernel_rfl) k36
def laws_FnExactPitValuesK {R : Type} (fin : Bool → Option R) (x0 : DJob) (x1 : DPlan) : Option R :=
  (laws_szJob x0 1048576).bind fun y1 =>
  cond (decide (y1 < 0))
  (fin true)
  ((laws_szPlan x1 y1).bind fun y2 =>
    cond (decide (y2 < 0))
    (fin true)
    ((laws_toJob x0).bind fun y3 =>
      (laws_toPlan x1).bind fun y4 =>
      (spec_PitValues (y3.1, (y3.2.1, (y3.2.2.1, ((y3.2.2.2.1, (y3.2.2.2.2.1, ())), (y3.2.2.2.2.2.1, (y3.2.2.2.2.2.2.1, (y3.2.2.2.2.2.2.2, ()))))))) (y4.1, (y4.2, ()))).bind fun y5 =>
      (laws_toJob x0).bind fun y6 =>
      (laws_toPlan x1).bind fun y7 =>
      (impl_PitValues (y6.1, (y6.2.1, (y6.2.2.1, ((y6.2.2.2.1, (y6.2.2.2.2.1, ())), (y6.2.2.2.2.2.1, (y6.2.2.2.2.2.2.1, (y6.2.2.2.2.2.2.2, ()))))))) (y7.1, (y7.2, ()))).bind fun y8 =>
      (laws_eqIntS y8.1 y5.1).bind fun y9 =>
      cond (!y9)
      (fin false)
      (cond (!(y8.2 == y5.2))
        (fin false)
        ((laws_toJob x0).bind fun y10 =>
          (laws_eqJob (y6.1, (y6.2.1, (y6.2.2.1, ((y6.2.2.2.1, (y6.2.2.2.2.1, ())), (y6.2.2.2.2.2.1, (y6.2.2.2.2.2.2.1, (y6.2.2.2.2.2.2.2, ()))))))) (y10.1, (y10.2.1, (y10.2.2.1, ((y10.2.2.2.1, (y10.2.2.2.2.1, ())), (y10.2.2.2.2.2.1, (y10.2.2.2.2.2.2.1, (y10.2.2.2.2.2.2.2, ())))))))).bind fun y11 =>
          cond (!y11)
          (fin false)
          ((laws_toPlan x1).bind fun y12 =>
            (laws_eqPlan (y7.1, (y7.2, ())) (y12.1, (y12.2, ()))).bind fun y13 =>
            cond (!y13)
            (fin false)
            ((laws_markJob y6 1).bind fun y14 =>
              (laws_markPlan y7 y14.1).bind fun y15 =>
              cond (decide (y15.1 < 0))
              (fin false)
              ((laws_eqIntS y8.1 y5.1).bind fun y16 =>
                cond (!y16)
                (fin false)
                (cond (!(y8.2 == y5.2))
                  (fin false)
                  ((laws_markIntS y8.1 1).bind fun y17 =>
                    (laws_heldIntS y17.2 1).bind fun y18 =>
                    cond (decide (y18 < 0))
                    (fin false)
                    (cond (y18 != y17.1)
                      (fin false)
                      ((laws_toJob x0).bind fun y19 =>
                        (laws_toPlan x1).bind fun y20 =>
                        (impl_PitValues (y19.1, (y19.2.1, (y19.2.2.1, ((y19.2.2.2.1, (y19.2.2.2.2.1, ())), (y19.2.2.2.2.2.1, (y19.2.2.2.2.2.2.1, (y19.2.2.2.2.2.2.2, ()))))))) (y20.1, (y20.2, ()))).bind fun y21 =>
                        (laws_eqIntS y21.1 y5.1).bind fun y22 =>
                        cond (!y22)
                        (fin false)
                        (cond (!(y21.2 == y5.2))
                          (fin false)
                          ((laws_heldIntS y17.2 1).bind fun y23 =>
                            cond (decide (y23 < 0))
                            (fin false)
                            (cond (y23 != y17.1)
                              (fin false)
                              (fin true)))))))))))))))
def laws_FnExactPitValues (x0 : DJob) (x1 : DPlan) : Option (Bool) := laws_FnExactPitValuesK some x0 x1
theorem p5 {R : Type} (fin : Bool → Option R) (x0 : DJob) (x1 : DPlan) : Par fin (laws_FnExactPitValuesK some x0 x1) (laws_FnExactPitValuesK fin x0 x1) := by
  unfold laws_FnExactPitValuesK
  repeat' (first | exact .fin | exact .none | refine .cond ?_ ?_ | refine .bind fun _ => ?_ | refine .sum (fun _ => ?_) fun _ => ?_)
def c5 : Callee := mkC [.agg [.ro TJob], .agg [.ro TPlan]] 1 [.one (.ro .bool)] fun x => laws_FnExactPitValues x.1 x.2
theorem e5 (x : PK.dens [.agg [.ro TJob], .agg [.ro TPlan]]) : evalFn Try.prog EL5 or0 Try.f5 (PK.outs [.agg [.ro TJob], .agg [.ro TPlan]] x) =
    laws_FnExactPitValuesK (fun y => some (tupOf ((PK.outs [.one (.ro .bool)] y).take 1), (PK.outs [.one (.ro .bool)] y).drop 1)) x.1 x.2 := by kernel_rfl
theorem k5 : CalleeOk Try.prog 5 c5 := callee_mk Try.func5 (code := codeOf Try.f5) (by kernel_rfl) vL5 mixed (LoOk.nil (by kernel_rfl)) fun x y h => (e5 x).trans (p5 _ x.1 x.2 y h)
end
end Go.OAI
