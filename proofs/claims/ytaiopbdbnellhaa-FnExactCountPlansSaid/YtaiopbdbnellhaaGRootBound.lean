/- Contracts: GRootBound. -/
import Derived.Test.YtaiopbdbnellhaaGA
import Derived.Test.YtaiopbdbnellhaaGW
import Derived.Test.YtaiopbdbnellhaaGT
import Derived.Test.YtaiopbdbnellhaaGGr
import Derived.Test.YtaiopbdbnellhaaGSr
namespace Go.OAI
open Go.Proofs
set_option linter.unusedVariables false
noncomputable section


/-- spec.l1Most -/
def EL72 : Nat → Option Callee := env0
theorem vL72 : EnvOk Try.prog EL72 := EnvOk.nil
def spec_l1MostK {R : Type} (fin : Int → Option R) (x0 : Int) (x1 : Int) : Option R :=
  cond (decide (x0 > x1))
  (fin x0)
  (fin x1)
def spec_l1Most (x0 : Int) (x1 : Int) : Option (Int) := spec_l1MostK some x0 x1
theorem p72 {R : Type} (fin : Int → Option R) (x0 : Int) (x1 : Int) : Par fin (spec_l1MostK some x0 x1) (spec_l1MostK fin x0 x1) := by
  unfold spec_l1MostK
  repeat' (first | exact .fin | exact .none | refine .cond ?_ ?_ | refine .bind fun _ => ?_ | refine .sum (fun _ => ?_) fun _ => ?_)
def c72 : Callee := mkC [.one (.ro (.int .i64)), .one (.ro (.int .i64))] 1 [.one (.ro (.int .i64))] fun x => spec_l1Most x.1 x.2
theorem e72 (x : PK.dens [.one (.ro (.int .i64)), .one (.ro (.int .i64))]) : evalFn Try.prog EL72 or0 Try.f72 (PK.outs [.one (.ro (.int .i64)), .one (.ro (.int .i64))] x) =
    spec_l1MostK (fun y => some (tupOf ((PK.outs [.one (.ro (.int .i64))] y).take 1), (PK.outs [.one (.ro (.int .i64))] y).drop 1)) x.1 x.2 := by kernel_rfl
theorem k72 : CalleeOk Try.prog 72 c72 := callee_mk Try.func72 (code := codeOf Try.f72) (by kernel_rfl) vL72 mixed (LoOk.nil (by kernel_rfl)) fun x y h => (e72 x).trans (p72 _ x.1 x.2 y h)

/-- spec.srBound -/
def EL53 : Nat → Option Callee := addE 82 c82 (addE 72 c72 (addE 56 c56 env0))
theorem vL53 : EnvOk Try.prog EL53 := ((EnvOk.nil.add Try.func56 rfl (by kernel_rfl) k56).add Try.func72 rfl (by kernel_rfl) k72).add Try.func82 rfl (by kernel_rfl) k82
def sspec_srBound_l0 : LS := ⟨[(2, .one (.fix (.ptr 0 0))), (5, .one (.dat (.int .i64))), (15, .one (.dat (.slice (.int .i64)))), (16, .one (.dat (.int .i64))), (17, .one (.dat (.int .i64)))], [.box [.dat (.slice (.slice (.int .i64))), .dat (.slice (.int .i64)), .dat (.slice (.int .i64)), .dat (.int .i64), .dat (.int .i64), .dat (.int .i64), .dat (.int .i64), .dat (.int .i64)]], []⟩
def sspec_srBound_l0x0 : LS := ⟨[(5, .one (.dat (.int .i64)))], [], []⟩
def xspec_srBound_l0 : List (XS ((List Int) × Int × (List (List Int)) × (List Int) × (List Int) × Int × Int × Int × Int × Int)) := [⟨.exit 0, ⟨[5], [], [], []⟩, sspec_srBound_l0x0, Int, fun i y => ((y, ()), ())⟩]
def spec_srBound_l0K {R : Type} (a1 : List Int) (a2 : Int) (a9 : Int) (a11 : Int) (rc : Int → Int → Option R) (fin : Int → Option R) (a0 : Int) (a3 : Int) : Option R :=
  cond (decide (a3 < a2))
  ((lat a1 a3).bind fun e1 =>
    (spec_l1Most e1 0).bind fun y2 =>
    (spec_srPower a11 (IntKind.i64.wrap (a9 - 1))).bind fun y3 =>
    rc (IntKind.i64.wrap (a0 + (IntKind.i64.wrap (y2 * y3)))) (IntKind.i64.wrap (a3 + 1)))
  (fin a0)
def spec_srBound_l0F (a1 : List Int) (a2 : Int) (a9 : Int) (a11 : Int) (r : (Int × Int) → Option (Int)) (x : Int × Int) : Option (Int) := spec_srBound_l0K a1 a2 a9 a11 (fun a0 a3 => r (a0, a3)) some x.1 x.2
theorem spec_srBound_l0c (a1 : List Int) (a2 : Int) (a9 : Int) (a11 : Int) (x : Int × Int) : Ct fun r => spec_srBound_l0F a1 a2 a9 a11 r x := by
  unfold spec_srBound_l0F spec_srBound_l0K
  repeat' (first | exact Ct.const | exact Ct.call | refine Ct.cond ?_ ?_ | refine Ct.bind ?_ fun _ => ?_ | refine Ct.sum (fun _ => ?_) fun _ => ?_)
def spec_srBound_l0 (a1 : List Int) (a2 : Int) (a9 : Int) (a11 : Int) (a0 : Int) (a3 : Int) : Option (Int) := lim (spec_srBound_l0F a1 a2 a9 a11) (a0, a3)
theorem spec_srBound_l0_eq (a1 : List Int) (a2 : Int) (a9 : Int) (a11 : Int) (a0 : Int) (a3 : Int) : spec_srBound_l0 a1 a2 a9 a11 a0 a3 = spec_srBound_l0K a1 a2 a9 a11 (spec_srBound_l0 a1 a2 a9 a11) some a0 a3 := lim_eq (spec_srBound_l0c a1 a2 a9 a11) (a0, a3)
theorem spec_srBound_l0p {R : Type} (a1 : List Int) (a2 : Int) (a9 : Int) (a11 : Int) {rc : Int → Int → Option (Int)} {rc' : Int → Int → Option R} {fin : Int → Option R} (hr : ∀ a0 a3, Par fin (rc a0 a3) (rc' a0 a3)) (a0 : Int) (a3 : Int) : Par fin (spec_srBound_l0K a1 a2 a9 a11 rc some a0 a3) (spec_srBound_l0K a1 a2 a9 a11 rc' fin a0 a3) := by
  unfold spec_srBound_l0K
  repeat' (first | exact .fin | exact .none | exact hr _ _ | refine .cond ?_ ?_ | refine .bind fun _ => ?_ | refine .sum (fun _ => ?_) fun _ => ?_)
def Lspec_srBound_l0 : Loop := mkL ⟨[2, 5, 15, 16, 17], [.slot 2], [], []⟩ sspec_srBound_l0 xspec_srBound_l0 (fun (x : (Unit × Int × (List Int) × Int × Int × Unit) × (((List (List Int)) × (List Int) × (List Int) × Int × Int × Int × Int × Int × Unit) × Unit)) => (x.1.2.2.1, (x.1.2.2.2.1, (x.2.1.1, (x.2.1.2.1, (x.2.1.2.2.1, (x.2.1.2.2.2.1, (x.2.1.2.2.2.2.1, (x.2.1.2.2.2.2.2.1, (x.2.1.2.2.2.2.2.2.1, x.2.1.2.2.2.2.2.2.2.1)))))))))) fun (x : (Unit × Int × (List Int) × Int × Int × Unit) × (((List (List Int)) × (List Int) × (List Int) × Int × Int × Int × Int × Int × Unit) × Unit)) => spec_srBound_l0 x.1.2.2.1 x.1.2.2.2.1 x.2.1.2.2.2.2.2.1 x.2.1.2.2.2.2.2.2.2.1 x.1.2.1 x.1.2.2.2.2.1
def spec_srBoundK {R : Type} (fin : Int → Option R) (x0 : DJob) (x1 : List Int) : Option R :=
  (spec_srWorth x0 x1).bind fun y1 =>
  cond (decide ((0 : Int) ≤ (x1.length : Int)) && (decide ((x1.length : Int) ≤ (x0.2.2.1.length : Int)) && decide ((x0.2.2.1.length : Int) ≤ (x0.2.2.1.length : Int))))
  ((spec_srBound_l0 ((x0.2.2.1.drop ((x1.length : Int).toNat)).take ((x0.2.2.1.length : Int).toNat - (x1.length : Int).toNat)) (((x0.2.2.1.drop ((x1.length : Int).toNat)).take ((x0.2.2.1.length : Int).toNat - (x1.length : Int).toNat)).length : Int) x0.2.2.2.2.1 x0.2.2.2.2.2.2.1 y1 0).bind fun y5 =>
    fin y5)
  (none)
def spec_srBound (x0 : DJob) (x1 : List Int) : Option (Int) := spec_srBoundK some x0 x1
theorem p53 {R : Type} (fin : Int → Option R) (x0 : DJob) (x1 : List Int) : Par fin (spec_srBoundK some x0 x1) (spec_srBoundK fin x0 x1) := by
  unfold spec_srBoundK
  repeat' (first | exact .fin | exact .none | refine .cond ?_ ?_ | refine .bind fun _ => ?_ | refine .sum (fun _ => ?_) fun _ => ?_)
def or53 : Ora := { lo := addL 3 (Lspec_srBound_l0) lo0, fin := [] }
theorem spec_srBound_l0e (a1 : List Int) (a2 : Int) (a4 : List (List Int)) (a5 : List Int) (a6 : List Int) (a7 : Int) (a8 : Int) (a9 : Int) (a10 : Int) (a11 : Int) (k : Nat) (a0 : Int) (a3 : Int) : loopC Try.prog EL53 or53 ((loopsIn (codeOf Try.f53)).getD 0 .skip) (Lspec_srBound_l0).h (Lspec_srBound_l0).ho Try.f53.ntmps (k + 1) (sspec_srBound_l0.out (((), (a0, (a1, (a2, (a3, ()))))), ((a4, (a5, (a6, (a7, (a8, (a9, (a10, (a11, ())))))))), ()))) =
    spec_srBound_l0K a1 a2 a9 a11 (fun a0 a3 => loopC Try.prog EL53 or53 ((loopsIn (codeOf Try.f53)).getD 0 .skip) (Lspec_srBound_l0).h (Lspec_srBound_l0).ho Try.f53.ntmps k (sspec_srBound_l0.out (((), (a0, (a1, (a2, (a3, ()))))), ((a4, (a5, (a6, (a7, (a8, (a9, (a10, (a11, ())))))))), ())))) (fun y => some (XS.out xspec_srBound_l0 (a1, (a2, (a4, (a5, (a6, (a7, (a8, (a9, (a10, a11))))))))) y)) a0 a3 := by kernel_rfl
theorem spec_srBound_l0o : LoopOk Try.prog EL53 or53 Try.f53.ntmps ((loopsIn (codeOf Try.f53)).getD 0 .skip) (Lspec_srBound_l0) :=
  loop_lim (hs := sspec_srBound_l0) (xs := xspec_srBound_l0) (ι := fun (x : (Unit × Int × (List Int) × Int × Int × Unit) × (((List (List Int)) × (List Int) × (List Int) × Int × Int × Int × Int × Int × Unit) × Unit)) => (x.1.2.2.1, (x.1.2.2.2.1, (x.2.1.1, (x.2.1.2.1, (x.2.1.2.2.1, (x.2.1.2.2.2.1, (x.2.1.2.2.2.2.1, (x.2.1.2.2.2.2.2.1, (x.2.1.2.2.2.2.2.2.1, x.2.1.2.2.2.2.2.2.2.1)))))))))) (φ := fun (x : (Unit × Int × (List Int) × Int × Int × Unit) × (((List (List Int)) × (List Int) × (List Int) × Int × Int × Int × Int × Int × Unit) × Unit)) => (x.1.2.1, x.1.2.2.2.2.1)) (ψ := fun (i : (List Int) × Int × (List (List Int)) × (List Int) × (List Int) × Int × Int × Int × Int × Int) (v : Int × Int) => (((), (v.1, (i.1, (i.2.1, (v.2, ()))))), ((i.2.2.1, (i.2.2.2.1, (i.2.2.2.2.1, (i.2.2.2.2.2.1, (i.2.2.2.2.2.2.1, (i.2.2.2.2.2.2.2.1, (i.2.2.2.2.2.2.2.2.1, (i.2.2.2.2.2.2.2.2.2, ())))))))), ()))) (F := fun (i : (List Int) × Int × (List (List Int)) × (List Int) × (List Int) × Int × Int × Int × Int × Int) => spec_srBound_l0F i.1 i.2.1 i.2.2.2.2.2.2.2.1 i.2.2.2.2.2.2.2.2.2) (fun _ => rfl) fun i k hk v => Par.of_eq (spec_srBound_l0e i.1 i.2.1 i.2.2.1 i.2.2.2.1 i.2.2.2.2.1 i.2.2.2.2.2.1 i.2.2.2.2.2.2.1 i.2.2.2.2.2.2.2.1 i.2.2.2.2.2.2.2.2.1 i.2.2.2.2.2.2.2.2.2 k v.1 v.2) (spec_srBound_l0p i.1 i.2.1 i.2.2.2.2.2.2.2.1 i.2.2.2.2.2.2.2.2.2 (fun a0 a3 => hk (a0, a3)) v.1 v.2)
def c53 : Callee := mkC [.agg [.ro TJob], .one (.ro (.slice (.int .i64)))] 1 [.one (.ro (.int .i64))] fun x => spec_srBound x.1 x.2
theorem e53 (x : PK.dens [.agg [.ro TJob], .one (.ro (.slice (.int .i64)))]) : evalFn Try.prog EL53 or53 Try.f53 (PK.outs [.agg [.ro TJob], .one (.ro (.slice (.int .i64)))] x) =
    spec_srBoundK (fun y => some (tupOf ((PK.outs [.one (.ro (.int .i64))] y).take 1), (PK.outs [.one (.ro (.int .i64))] y).drop 1)) x.1 x.2 := by kernel_rfl
theorem o53 : LoOk Try.prog EL53 or53 Try.f53.ntmps (loopsIn (codeOf Try.f53)) :=
  LoOk.mk (m := 1) (by kernel_rfl) fun i hi => match i, hi with
    | 0, _ => ⟨Lspec_srBound_l0, by kernel_rfl, spec_srBound_l0o⟩
    | i + 1, hi => absurd hi (by omega)
theorem k53 : CalleeOk Try.prog 53 c53 := callee_mk Try.func53 (code := codeOf Try.f53) (by kernel_rfl) vL53 mixed o53 fun x y h => (e53 x).trans (p53 _ x.1 x.2 y h)

/-- spec.RootBound -/
def EL18 : Nat → Option Callee := addE 53 c53 (addE 45 c45 env0)
theorem vL18 : EnvOk Try.prog EL18 := (EnvOk.nil.add Try.func45 rfl (by kernel_rfl) k45).add Try.func53 rfl (by kernel_rfl) k53
def spec_RootBoundK {R : Type} (fin : Int × Bool → Option R) (x0 : DJob) : Option R :=
  (spec_srGood x0).bind fun y1 =>
  cond (!y1)
  (fin (0, false))
  ((spec_srBound x0 []).bind fun y2 =>
    fin (y2, true))
def spec_RootBound (x0 : DJob) : Option (Int × Bool) := spec_RootBoundK some x0
theorem p18 {R : Type} (fin : Int × Bool → Option R) (x0 : DJob) : Par fin (spec_RootBoundK some x0) (spec_RootBoundK fin x0) := by
  unfold spec_RootBoundK
  repeat' (first | exact .fin | exact .none | refine .cond ?_ ?_ | refine .bind fun _ => ?_ | refine .sum (fun _ => ?_) fun _ => ?_)
def c18 : Callee := mkC [.agg [.ro TJob]] 2 [.one (.ro (.int .i64)), .one (.ro .bool)] fun x => spec_RootBound x
theorem e18 (x : PK.dens [.agg [.ro TJob]]) : evalFn Try.prog EL18 or0 Try.f18 (PK.outs [.agg [.ro TJob]] x) =
    spec_RootBoundK (fun y => some (tupOf ((PK.outs [.one (.ro (.int .i64)), .one (.ro .bool)] y).take 2), (PK.outs [.one (.ro (.int .i64)), .one (.ro .bool)] y).drop 2)) x := by kernel_rfl
theorem k18 : CalleeOk Try.prog 18 c18 := callee_mk Try.func18 (code := codeOf Try.f18) (by kernel_rfl) vL18 mixed (LoOk.nil (by kernel_rfl)) fun x y h => (e18 x).trans (p18 _ x y h)

/-- impl.newSearch -/
def EL54 : Nat → Option Callee := addE 84 c84 (addE 79 c79 (addE 83 c83 env0))
theorem vL54 : EnvOk Try.prog EL54 := ((EnvOk.nil.add Try.func83 rfl (by kernel_rfl) k83).add Try.func79 rfl (by kernel_rfl) k79).add Try.func84 rfl (by kernel_rfl) k84
def simpl_newSearch_l0 : LS := ⟨[(2, .one (.fix (.ptr 0 0))), (5, .one (.fix (.ptr 1 0))), (6, .one (.dat (.int .i64)))], [.box [.dat (.slice (.slice (.int .i64))), .dat (.slice (.int .i64)), .dat (.slice (.int .i64)), .dat (.int .i64), .dat (.int .i64), .dat (.int .i64), .dat (.int .i64), .dat (.int .i64)], .box [.dat (.slice (.slice (.int .i64))), .dat (.slice (.int .i64)), .dat (.slice (.int .i64)), .dat (.int .i64), .dat (.int .i64), .dat (.int .i64), .dat (.int .i64), .dat (.int .i64), .dat (.int .i64), .fix (.sref 2), .fix (.sref 3), .fix (.sref 4), .dat (.int .i64), .fix (.sref 5), .dat (.int .i64), .dat (.int .i64), .dat (.int .i64), .dat (.int .i64), .dat .bool], .sl (.int .i64), .mat (.int .i64), .sl (.int .i64), .sl (.int .i64)], []⟩
def simpl_newSearch_l0x0 : LS := ⟨[(5, .one (.fix (.ptr 0 0)))], [.box [.dat (.slice (.slice (.int .i64))), .dat (.slice (.int .i64)), .dat (.slice (.int .i64)), .dat (.int .i64), .dat (.int .i64), .dat (.int .i64), .dat (.int .i64), .dat (.int .i64), .dat (.int .i64), .fix (.sref 1), .fix (.sref 2), .fix (.sref 3), .dat (.int .i64), .fix (.sref 4), .dat (.int .i64), .dat (.int .i64), .dat (.int .i64), .dat (.int .i64), .dat .bool], .sl (.int .i64), .mat (.int .i64), .sl (.int .i64), .sl (.int .i64)], []⟩
def ximpl_newSearch_l0 : List (XS ((List (List Int)) × (List Int) × (List Int) × Int × Int × Int × Int × Int × (List (List Int)) × (List Int) × (List Int) × Int × Int × Int × Int × Int × Int × Int × Int × Int × Int × Int × Bool × (List Int) × (List (List Int)) × (List Int))) := [⟨.exit 0, ⟨[5], [.slot 5, .cell 5 9, .cell 5 10, .cell 5 11, .cell 5 13], [], []⟩, simpl_newSearch_l0x0, List Int, fun i y => (((), ()), ((i.2.2.2.2.2.2.2.2.1, (i.2.2.2.2.2.2.2.2.2.1, (i.2.2.2.2.2.2.2.2.2.2.1, (i.2.2.2.2.2.2.2.2.2.2.2.1, (i.2.2.2.2.2.2.2.2.2.2.2.2.1, (i.2.2.2.2.2.2.2.2.2.2.2.2.2.1, (i.2.2.2.2.2.2.2.2.2.2.2.2.2.2.1, (i.2.2.2.2.2.2.2.2.2.2.2.2.2.2.2.1, (i.2.2.2.2.2.2.2.2.2.2.2.2.2.2.2.2.1, ((), ((), ((), (i.2.2.2.2.2.2.2.2.2.2.2.2.2.2.2.2.2.1, ((), (i.2.2.2.2.2.2.2.2.2.2.2.2.2.2.2.2.2.2.1, (i.2.2.2.2.2.2.2.2.2.2.2.2.2.2.2.2.2.2.2.1, (i.2.2.2.2.2.2.2.2.2.2.2.2.2.2.2.2.2.2.2.2.1, (i.2.2.2.2.2.2.2.2.2.2.2.2.2.2.2.2.2.2.2.2.2.1, (i.2.2.2.2.2.2.2.2.2.2.2.2.2.2.2.2.2.2.2.2.2.2.1, ()))))))))))))))))))), (i.2.2.2.2.2.2.2.2.2.2.2.2.2.2.2.2.2.2.2.2.2.2.2.1, (i.2.2.2.2.2.2.2.2.2.2.2.2.2.2.2.2.2.2.2.2.2.2.2.2.1, (y, (i.2.2.2.2.2.2.2.2.2.2.2.2.2.2.2.2.2.2.2.2.2.2.2.2.2, ()))))))⟩]
def impl_newSearch_l0K {R : Type} (a3 : List Int) (a6 : Int) (a8 : Int) (rc : Int → List Int → Option R) (fin : List Int → Option R) (a0 : Int) (a26 : List Int) : Option R :=
  cond (decide (a0 ≥ 0))
  (cond (decide ((0 : Int) ≤ IntKind.i64.wrap (a0 + 1)) && decide (IntKind.i64.wrap (a0 + 1) < (a26.length : Int)))
    ((lat a3 a0).bind fun e1 =>
      (impl_power a8 (IntKind.i64.wrap (a6 - 1))).bind fun y2 =>
      (some (IntKind.i64.wrap ((a26.getD (0 + (IntKind.i64.wrap (a0 + 1)).toNat) 0) + (IntKind.i64.wrap ((if e1 > 0 then e1 else 0) * y2))))).bind fun v3 =>
      cond (decide ((0 : Int) ≤ a0) && decide (a0 < (a26.length : Int)))
      ((some (a26.set (0 + a0.toNat) v3)).bind fun v4 =>
        rc (IntKind.i64.wrap (a0 - 1)) v4)
      (none))
    (none))
  (fin a26)
def impl_newSearch_l0F (a3 : List Int) (a6 : Int) (a8 : Int) (r : (Int × (List Int)) → Option (List Int)) (x : Int × (List Int)) : Option (List Int) := impl_newSearch_l0K a3 a6 a8 (fun a0 a26 => r (a0, a26)) some x.1 x.2
theorem impl_newSearch_l0c (a3 : List Int) (a6 : Int) (a8 : Int) (x : Int × (List Int)) : Ct fun r => impl_newSearch_l0F a3 a6 a8 r x := by
  unfold impl_newSearch_l0F impl_newSearch_l0K
  repeat' (first | exact Ct.const | exact Ct.call | refine Ct.cond ?_ ?_ | refine Ct.bind ?_ fun _ => ?_ | refine Ct.sum (fun _ => ?_) fun _ => ?_)
def impl_newSearch_l0 (a3 : List Int) (a6 : Int) (a8 : Int) (a0 : Int) (a26 : List Int) : Option (List Int) := lim (impl_newSearch_l0F a3 a6 a8) (a0, a26)
theorem impl_newSearch_l0_eq (a3 : List Int) (a6 : Int) (a8 : Int) (a0 : Int) (a26 : List Int) : impl_newSearch_l0 a3 a6 a8 a0 a26 = impl_newSearch_l0K a3 a6 a8 (impl_newSearch_l0 a3 a6 a8) some a0 a26 := lim_eq (impl_newSearch_l0c a3 a6 a8) (a0, a26)
theorem impl_newSearch_l0p {R : Type} (a3 : List Int) (a6 : Int) (a8 : Int) {rc : Int → List Int → Option (List Int)} {rc' : Int → List Int → Option R} {fin : List Int → Option R} (hr : ∀ a0 a26, Par fin (rc a0 a26) (rc' a0 a26)) (a0 : Int) (a26 : List Int) : Par fin (impl_newSearch_l0K a3 a6 a8 rc some a0 a26) (impl_newSearch_l0K a3 a6 a8 rc' fin a0 a26) := by
  unfold impl_newSearch_l0K
  repeat' (first | exact .fin | exact .none | exact hr _ _ | refine .cond ?_ ?_ | refine .bind fun _ => ?_ | refine .sum (fun _ => ?_) fun _ => ?_)
def Limpl_newSearch_l0 : Loop := mkL ⟨[2, 5, 6], [.slot 2, .slot 5, .cell 5 9, .cell 5 10, .cell 5 11, .cell 5 13], [], []⟩ simpl_newSearch_l0 ximpl_newSearch_l0 (fun (x : (Unit × Unit × Int × Unit) × (((List (List Int)) × (List Int) × (List Int) × Int × Int × Int × Int × Int × Unit) × ((List (List Int)) × (List Int) × (List Int) × Int × Int × Int × Int × Int × Int × Unit × Unit × Unit × Int × Unit × Int × Int × Int × Int × Bool × Unit) × (List Int) × (List (List Int)) × (List Int) × (List Int) × Unit)) => (x.2.1.1, (x.2.1.2.1, (x.2.1.2.2.1, (x.2.1.2.2.2.1, (x.2.1.2.2.2.2.1, (x.2.1.2.2.2.2.2.1, (x.2.1.2.2.2.2.2.2.1, (x.2.1.2.2.2.2.2.2.2.1, (x.2.2.1.1, (x.2.2.1.2.1, (x.2.2.1.2.2.1, (x.2.2.1.2.2.2.1, (x.2.2.1.2.2.2.2.1, (x.2.2.1.2.2.2.2.2.1, (x.2.2.1.2.2.2.2.2.2.1, (x.2.2.1.2.2.2.2.2.2.2.1, (x.2.2.1.2.2.2.2.2.2.2.2.1, (x.2.2.1.2.2.2.2.2.2.2.2.2.2.2.2.1, (x.2.2.1.2.2.2.2.2.2.2.2.2.2.2.2.2.2.1, (x.2.2.1.2.2.2.2.2.2.2.2.2.2.2.2.2.2.2.1, (x.2.2.1.2.2.2.2.2.2.2.2.2.2.2.2.2.2.2.2.1, (x.2.2.1.2.2.2.2.2.2.2.2.2.2.2.2.2.2.2.2.2.1, (x.2.2.1.2.2.2.2.2.2.2.2.2.2.2.2.2.2.2.2.2.2.1, (x.2.2.2.1, (x.2.2.2.2.1, x.2.2.2.2.2.2.1)))))))))))))))))))))))))) fun (x : (Unit × Unit × Int × Unit) × (((List (List Int)) × (List Int) × (List Int) × Int × Int × Int × Int × Int × Unit) × ((List (List Int)) × (List Int) × (List Int) × Int × Int × Int × Int × Int × Int × Unit × Unit × Unit × Int × Unit × Int × Int × Int × Int × Bool × Unit) × (List Int) × (List (List Int)) × (List Int) × (List Int) × Unit)) => impl_newSearch_l0 x.2.1.2.2.1 x.2.1.2.2.2.2.2.1 x.2.1.2.2.2.2.2.2.2.1 x.1.2.2.1 x.2.2.2.2.2.1
def impl_newSearchK {R : Type} (fin : (List (List Int)) × (List Int) × (List Int) × Int × Int × Int × Int × Int × Int × (List Int) × (List (List Int)) × (List Int) × Int × (List Int) × Int × Int × Int × Int × Bool → Option R) (x0 : DJob) (x1 : Int) : Option R :=
  (impl_emptyPlan x0).bind fun y1 =>
  (impl_emptyPlan x0).bind fun y2 =>
  (impl_tonnesIn x0 (y1.1, (y1.2, ()))).bind fun y3 =>
  cond (decide ((0 : Int) ≤ IntKind.i64.wrap ((x0.1.length : Int) + 1)) && (decide (IntKind.i64.wrap ((x0.1.length : Int) + 1) ≤ IntKind.i64.wrap ((x0.1.length : Int) + 1)) && decide (IntKind.i64.wrap ((x0.1.length : Int) + 1) ≤ 1099511627776)))
  ((some ((List.replicate ((IntKind.i64.wrap ((x0.1.length : Int) + 1)).toNat) 0 : List Int))).bind fun v4 =>
    (impl_newSearch_l0 x0.2.2.1 x0.2.2.2.2.1 x0.2.2.2.2.2.2.1 (IntKind.i64.wrap ((x0.1.length : Int) - 1)) v4).bind fun y9 =>
    fin (x0.1, (x0.2.1, (x0.2.2.1, (x0.2.2.2.1.1, (x0.2.2.2.1.2.1, (x0.2.2.2.2.1, (x0.2.2.2.2.2.1, (x0.2.2.2.2.2.2.1, (y1.1, (y1.2, (y3, (y9, (y2.1, (y2.2, (0, (x1, (0, (0, false)))))))))))))))))))
  (none)
def impl_newSearch (x0 : DJob) (x1 : Int) : Option ((List (List Int)) × (List Int) × (List Int) × Int × Int × Int × Int × Int × Int × (List Int) × (List (List Int)) × (List Int) × Int × (List Int) × Int × Int × Int × Int × Bool) := impl_newSearchK some x0 x1
theorem p54 {R : Type} (fin : (List (List Int)) × (List Int) × (List Int) × Int × Int × Int × Int × Int × Int × (List Int) × (List (List Int)) × (List Int) × Int × (List Int) × Int × Int × Int × Int × Bool → Option R) (x0 : DJob) (x1 : Int) : Par fin (impl_newSearchK some x0 x1) (impl_newSearchK fin x0 x1) := by
  unfold impl_newSearchK
  repeat' (first | exact .fin | exact .none | refine .cond ?_ ?_ | refine .bind fun _ => ?_ | refine .sum (fun _ => ?_) fun _ => ?_)
def or54 : Ora := { lo := addL 5 (Limpl_newSearch_l0) lo0, fin := [] }
theorem impl_newSearch_l0e (a1 : List (List Int)) (a2 : List Int) (a3 : List Int) (a4 : Int) (a5 : Int) (a6 : Int) (a7 : Int) (a8 : Int) (a9 : List (List Int)) (a10 : List Int) (a11 : List Int) (a12 : Int) (a13 : Int) (a14 : Int) (a15 : Int) (a16 : Int) (a17 : Int) (a18 : Int) (a19 : Int) (a20 : Int) (a21 : Int) (a22 : Int) (a23 : Bool) (a24 : List Int) (a25 : List (List Int)) (a27 : List Int) (k : Nat) (a0 : Int) (a26 : List Int) : loopC Try.prog EL54 or54 ((loopsIn (codeOf Try.f54)).getD 0 .skip) (Limpl_newSearch_l0).h (Limpl_newSearch_l0).ho Try.f54.ntmps (k + 1) (simpl_newSearch_l0.out (((), ((), (a0, ()))), ((a1, (a2, (a3, (a4, (a5, (a6, (a7, (a8, ())))))))), ((a9, (a10, (a11, (a12, (a13, (a14, (a15, (a16, (a17, ((), ((), ((), (a18, ((), (a19, (a20, (a21, (a22, (a23, ()))))))))))))))))))), (a24, (a25, (a26, (a27, ())))))))) =
    impl_newSearch_l0K a3 a6 a8 (fun a0 a26 => loopC Try.prog EL54 or54 ((loopsIn (codeOf Try.f54)).getD 0 .skip) (Limpl_newSearch_l0).h (Limpl_newSearch_l0).ho Try.f54.ntmps k (simpl_newSearch_l0.out (((), ((), (a0, ()))), ((a1, (a2, (a3, (a4, (a5, (a6, (a7, (a8, ())))))))), ((a9, (a10, (a11, (a12, (a13, (a14, (a15, (a16, (a17, ((), ((), ((), (a18, ((), (a19, (a20, (a21, (a22, (a23, ()))))))))))))))))))), (a24, (a25, (a26, (a27, ()))))))))) (fun y => some (XS.out ximpl_newSearch_l0 (a1, (a2, (a3, (a4, (a5, (a6, (a7, (a8, (a9, (a10, (a11, (a12, (a13, (a14, (a15, (a16, (a17, (a18, (a19, (a20, (a21, (a22, (a23, (a24, (a25, a27))))))))))))))))))))))))) y)) a0 a26 := by kernel_rfl
theorem impl_newSearch_l0o : LoopOk Try.prog EL54 or54 Try.f54.ntmps ((loopsIn (codeOf Try.f54)).getD 0 .skip) (Limpl_newSearch_l0) :=
  loop_lim (hs := simpl_newSearch_l0) (xs := ximpl_newSearch_l0) (ι := fun (x : (Unit × Unit × Int × Unit) × (((List (List Int)) × (List Int) × (List Int) × Int × Int × Int × Int × Int × Unit) × ((List (List Int)) × (List Int) × (List Int) × Int × Int × Int × Int × Int × Int × Unit × Unit × Unit × Int × Unit × Int × Int × Int × Int × Bool × Unit) × (List Int) × (List (List Int)) × (List Int) × (List Int) × Unit)) => (x.2.1.1, (x.2.1.2.1, (x.2.1.2.2.1, (x.2.1.2.2.2.1, (x.2.1.2.2.2.2.1, (x.2.1.2.2.2.2.2.1, (x.2.1.2.2.2.2.2.2.1, (x.2.1.2.2.2.2.2.2.2.1, (x.2.2.1.1, (x.2.2.1.2.1, (x.2.2.1.2.2.1, (x.2.2.1.2.2.2.1, (x.2.2.1.2.2.2.2.1, (x.2.2.1.2.2.2.2.2.1, (x.2.2.1.2.2.2.2.2.2.1, (x.2.2.1.2.2.2.2.2.2.2.1, (x.2.2.1.2.2.2.2.2.2.2.2.1, (x.2.2.1.2.2.2.2.2.2.2.2.2.2.2.2.1, (x.2.2.1.2.2.2.2.2.2.2.2.2.2.2.2.2.2.1, (x.2.2.1.2.2.2.2.2.2.2.2.2.2.2.2.2.2.2.1, (x.2.2.1.2.2.2.2.2.2.2.2.2.2.2.2.2.2.2.2.1, (x.2.2.1.2.2.2.2.2.2.2.2.2.2.2.2.2.2.2.2.2.1, (x.2.2.1.2.2.2.2.2.2.2.2.2.2.2.2.2.2.2.2.2.2.1, (x.2.2.2.1, (x.2.2.2.2.1, x.2.2.2.2.2.2.1)))))))))))))))))))))))))) (φ := fun (x : (Unit × Unit × Int × Unit) × (((List (List Int)) × (List Int) × (List Int) × Int × Int × Int × Int × Int × Unit) × ((List (List Int)) × (List Int) × (List Int) × Int × Int × Int × Int × Int × Int × Unit × Unit × Unit × Int × Unit × Int × Int × Int × Int × Bool × Unit) × (List Int) × (List (List Int)) × (List Int) × (List Int) × Unit)) => (x.1.2.2.1, x.2.2.2.2.2.1)) (ψ := fun (i : (List (List Int)) × (List Int) × (List Int) × Int × Int × Int × Int × Int × (List (List Int)) × (List Int) × (List Int) × Int × Int × Int × Int × Int × Int × Int × Int × Int × Int × Int × Bool × (List Int) × (List (List Int)) × (List Int)) (v : Int × (List Int)) => (((), ((), (v.1, ()))), ((i.1, (i.2.1, (i.2.2.1, (i.2.2.2.1, (i.2.2.2.2.1, (i.2.2.2.2.2.1, (i.2.2.2.2.2.2.1, (i.2.2.2.2.2.2.2.1, ())))))))), ((i.2.2.2.2.2.2.2.2.1, (i.2.2.2.2.2.2.2.2.2.1, (i.2.2.2.2.2.2.2.2.2.2.1, (i.2.2.2.2.2.2.2.2.2.2.2.1, (i.2.2.2.2.2.2.2.2.2.2.2.2.1, (i.2.2.2.2.2.2.2.2.2.2.2.2.2.1, (i.2.2.2.2.2.2.2.2.2.2.2.2.2.2.1, (i.2.2.2.2.2.2.2.2.2.2.2.2.2.2.2.1, (i.2.2.2.2.2.2.2.2.2.2.2.2.2.2.2.2.1, ((), ((), ((), (i.2.2.2.2.2.2.2.2.2.2.2.2.2.2.2.2.2.1, ((), (i.2.2.2.2.2.2.2.2.2.2.2.2.2.2.2.2.2.2.1, (i.2.2.2.2.2.2.2.2.2.2.2.2.2.2.2.2.2.2.2.1, (i.2.2.2.2.2.2.2.2.2.2.2.2.2.2.2.2.2.2.2.2.1, (i.2.2.2.2.2.2.2.2.2.2.2.2.2.2.2.2.2.2.2.2.2.1, (i.2.2.2.2.2.2.2.2.2.2.2.2.2.2.2.2.2.2.2.2.2.2.1, ()))))))))))))))))))), (i.2.2.2.2.2.2.2.2.2.2.2.2.2.2.2.2.2.2.2.2.2.2.2.1, (i.2.2.2.2.2.2.2.2.2.2.2.2.2.2.2.2.2.2.2.2.2.2.2.2.1, (v.2, (i.2.2.2.2.2.2.2.2.2.2.2.2.2.2.2.2.2.2.2.2.2.2.2.2.2, ())))))))) (F := fun (i : (List (List Int)) × (List Int) × (List Int) × Int × Int × Int × Int × Int × (List (List Int)) × (List Int) × (List Int) × Int × Int × Int × Int × Int × Int × Int × Int × Int × Int × Int × Bool × (List Int) × (List (List Int)) × (List Int)) => impl_newSearch_l0F i.2.2.1 i.2.2.2.2.2.1 i.2.2.2.2.2.2.2.1) (fun _ => rfl) fun i k hk v => Par.of_eq (impl_newSearch_l0e i.1 i.2.1 i.2.2.1 i.2.2.2.1 i.2.2.2.2.1 i.2.2.2.2.2.1 i.2.2.2.2.2.2.1 i.2.2.2.2.2.2.2.1 i.2.2.2.2.2.2.2.2.1 i.2.2.2.2.2.2.2.2.2.1 i.2.2.2.2.2.2.2.2.2.2.1 i.2.2.2.2.2.2.2.2.2.2.2.1 i.2.2.2.2.2.2.2.2.2.2.2.2.1 i.2.2.2.2.2.2.2.2.2.2.2.2.2.1 i.2.2.2.2.2.2.2.2.2.2.2.2.2.2.1 i.2.2.2.2.2.2.2.2.2.2.2.2.2.2.2.1 i.2.2.2.2.2.2.2.2.2.2.2.2.2.2.2.2.1 i.2.2.2.2.2.2.2.2.2.2.2.2.2.2.2.2.2.1 i.2.2.2.2.2.2.2.2.2.2.2.2.2.2.2.2.2.2.1 i.2.2.2.2.2.2.2.2.2.2.2.2.2.2.2.2.2.2.2.1 i.2.2.2.2.2.2.2.2.2.2.2.2.2.2.2.2.2.2.2.2.1 i.2.2.2.2.2.2.2.2.2.2.2.2.2.2.2.2.2.2.2.2.2.1 i.2.2.2.2.2.2.2.2.2.2.2.2.2.2.2.2.2.2.2.2.2.2.1 i.2.2.2.2.2.2.2.2.2.2.2.2.2.2.2.2.2.2.2.2.2.2.2.1 i.2.2.2.2.2.2.2.2.2.2.2.2.2.2.2.2.2.2.2.2.2.2.2.2.1 i.2.2.2.2.2.2.2.2.2.2.2.2.2.2.2.2.2.2.2.2.2.2.2.2.2 k v.1 v.2) (impl_newSearch_l0p i.2.2.1 i.2.2.2.2.2.1 i.2.2.2.2.2.2.2.1 (fun a0 a26 => hk (a0, a26)) v.1 v.2)
def c54 : Callee := mkC [.agg [.ro TJob], .one (.ro (.int .i64))] 1 [.box [.ro (.slice (.slice (.int .i64))), .ro (.slice (.int .i64)), .ro (.slice (.int .i64)), .ro (.int .i64), .ro (.int .i64), .ro (.int .i64), .ro (.int .i64), .ro (.int .i64), .ro (.int .i64), .sl (.int .i64), .mat (.int .i64), .sl (.int .i64), .ro (.int .i64), .sl (.int .i64), .ro (.int .i64), .ro (.int .i64), .ro (.int .i64), .ro (.int .i64), .ro .bool]] fun x => impl_newSearch x.1 x.2
theorem e54 (x : PK.dens [.agg [.ro TJob], .one (.ro (.int .i64))]) : evalFn Try.prog EL54 or54 Try.f54 (PK.outs [.agg [.ro TJob], .one (.ro (.int .i64))] x) =
    impl_newSearchK (fun y => some (tupOf ((PK.outs [.box [.ro (.slice (.slice (.int .i64))), .ro (.slice (.int .i64)), .ro (.slice (.int .i64)), .ro (.int .i64), .ro (.int .i64), .ro (.int .i64), .ro (.int .i64), .ro (.int .i64), .ro (.int .i64), .sl (.int .i64), .mat (.int .i64), .sl (.int .i64), .ro (.int .i64), .sl (.int .i64), .ro (.int .i64), .ro (.int .i64), .ro (.int .i64), .ro (.int .i64), .ro .bool]] y).take 1), (PK.outs [.box [.ro (.slice (.slice (.int .i64))), .ro (.slice (.int .i64)), .ro (.slice (.int .i64)), .ro (.int .i64), .ro (.int .i64), .ro (.int .i64), .ro (.int .i64), .ro (.int .i64), .ro (.int .i64), .sl (.int .i64), .mat (.int .i64), .sl (.int .i64), .ro (.int .i64), .sl (.int .i64), .ro (.int .i64), .ro (.int .i64), .ro (.int .i64), .ro (.int .i64), .ro .bool]] y).drop 1)) x.1 x.2 := by kernel_rfl
theorem o54 : LoOk Try.prog EL54 or54 Try.f54.ntmps (loopsIn (codeOf Try.f54)) :=
  LoOk.mk (m := 1) (by kernel_rfl) fun i hi => match i, hi with
    | 0, _ => ⟨Limpl_newSearch_l0, by kernel_rfl, impl_newSearch_l0o⟩
    | i + 1, hi => absurd hi (by omega)
theorem k54 : CalleeOk Try.prog 54 c54 := callee_mk Try.func54 (code := codeOf Try.f54) (by kernel_rfl) vL54 mixed o54 fun x y h => (e54 x).trans (p54 _ x.1 x.2 y h)

/-- impl.RootBound -/
def EL19 : Nat → Option Callee := addE 54 c54 (addE 16 c16 env0)
theorem vL19 : EnvOk Try.prog EL19 := (EnvOk.nil.add Try.func16 rfl (by kernel_rfl) k16).add Try.func54 rfl (by kernel_rfl) k54
def impl_RootBoundK {R : Type} (fin : Int × Bool → Option R) (x0 : DJob) : Option R :=
  (impl_IsSearchable x0).bind fun y1 =>
  cond (!y1)
  (fin (0, false))
  ((impl_newSearch x0 1).bind fun y2 =>
    cond (decide ((0 : Int) < (y2.2.2.2.2.2.2.2.2.2.2.2.1.length : Int)))
    (fin (y2.2.2.2.2.2.2.2.2.2.2.2.1.getD (0 + 0) 0, true))
    (none))
def impl_RootBound (x0 : DJob) : Option (Int × Bool) := impl_RootBoundK some x0
theorem p19 {R : Type} (fin : Int × Bool → Option R) (x0 : DJob) : Par fin (impl_RootBoundK some x0) (impl_RootBoundK fin x0) := by
  unfold impl_RootBoundK
  repeat' (first | exact .fin | exact .none | refine .cond ?_ ?_ | refine .bind fun _ => ?_ | refine .sum (fun _ => ?_) fun _ => ?_)
def c19 : Callee := mkC [.agg [.ro TJob]] 2 [.one (.ro (.int .i64)), .one (.ro .bool)] fun x => impl_RootBound x
theorem e19 (x : PK.dens [.agg [.ro TJob]]) : evalFn Try.prog EL19 or0 Try.f19 (PK.outs [.agg [.ro TJob]] x) =
    impl_RootBoundK (fun y => some (tupOf ((PK.outs [.one (.ro (.int .i64)), .one (.ro .bool)] y).take 2), (PK.outs [.one (.ro (.int .i64)), .one (.ro .bool)] y).drop 2)) x := by kernel_rfl
theorem k19 : CalleeOk Try.prog 19 c19 := callee_mk Try.func19 (code := codeOf Try.f19) (by kernel_rfl) vL19 mixed (LoOk.nil (by kernel_rfl)) fun x y h => (e19 x).trans (p19 _ x y h)

/-- laws.FnExactRootBound -/
def EL4 : Nat → Option Callee := addE 17 c17 (addE 19 c19 (addE 18 c18 (addE 15 c15 (addE 13 c13 env0))))
theorem vL4 : EnvOk Try.prog EL4 := ((((EnvOk.nil.add Try.func13 rfl (by kernel_rfl) k13).add Try.func15 rfl (by kernel_rfl) k15).add Try.func18 rfl (by kernel_rfl) k18).add Try.func19 rfl (by kernel_rfl) k19).add Try.func17 rfl (by kernel_rfl) k17
def laws_FnExactRootBoundK {R : Type} (fin : Bool → Option R) (x0 : DJob) : Option R :=
  (laws_szJob x0 1048576).bind fun y1 =>
  cond (decide (y1 < 0))
  (fin true)
  ((laws_toJob x0).bind fun y2 =>
    (spec_RootBound (y2.1, (y2.2.1, (y2.2.2.1, ((y2.2.2.2.1, (y2.2.2.2.2.1, ())), (y2.2.2.2.2.2.1, (y2.2.2.2.2.2.2.1, (y2.2.2.2.2.2.2.2, ())))))))).bind fun y3 =>
    (laws_toJob x0).bind fun y4 =>
    (impl_RootBound (y4.1, (y4.2.1, (y4.2.2.1, ((y4.2.2.2.1, (y4.2.2.2.2.1, ())), (y4.2.2.2.2.2.1, (y4.2.2.2.2.2.2.1, (y4.2.2.2.2.2.2.2, ())))))))).bind fun y5 =>
    cond (y5.1 != y3.1)
    (fin false)
    (cond (!(y5.2 == y3.2))
      (fin false)
      ((laws_toJob x0).bind fun y6 =>
        (laws_eqJob (y4.1, (y4.2.1, (y4.2.2.1, ((y4.2.2.2.1, (y4.2.2.2.2.1, ())), (y4.2.2.2.2.2.1, (y4.2.2.2.2.2.2.1, (y4.2.2.2.2.2.2.2, ()))))))) (y6.1, (y6.2.1, (y6.2.2.1, ((y6.2.2.2.1, (y6.2.2.2.2.1, ())), (y6.2.2.2.2.2.1, (y6.2.2.2.2.2.2.1, (y6.2.2.2.2.2.2.2, ())))))))).bind fun y7 =>
        cond (!y7)
        (fin false)
        (fin true))))
def laws_FnExactRootBound (x0 : DJob) : Option (Bool) := laws_FnExactRootBoundK some x0
theorem p4 {R : Type} (fin : Bool → Option R) (x0 : DJob) : Par fin (laws_FnExactRootBoundK some x0) (laws_FnExactRootBoundK fin x0) := by
  unfold laws_FnExactRootBoundK
  repeat' (first | exact .fin | exact .none | refine .cond ?_ ?_ | refine .bind fun _ => ?_ | refine .sum (fun _ => ?_) fun _ => ?_)
def c4 : Callee := mkC [.agg [.ro TJob]] 1 [.one (.ro .bool)] fun x => laws_FnExactRootBound x
theorem e4 (x : PK.dens [.agg [.ro TJob]]) : evalFn Try.prog EL4 or0 Try.f4 (PK.outs [.agg [.ro TJob]] x) =
    laws_FnExactRootBoundK (fun y => some (tupOf ((PK.outs [.one (.ro .bool)] y).take 1), (PK.outs [.one (.ro .bool)] y).drop 1)) x := by kernel_rfl
theorem k4 : CalleeOk Try.prog 4 c4 := callee_mk Try.func4 (code := codeOf Try.f4) (by kernel_rfl) vL4 mixed (LoOk.nil (by kernel_rfl)) fun x y h => (e4 x).trans (p4 _ x y h)
end
end Go.OAI
