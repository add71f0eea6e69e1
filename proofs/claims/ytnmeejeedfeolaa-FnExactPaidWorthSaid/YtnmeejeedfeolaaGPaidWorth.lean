/- Contracts: GPaidWorth. -/
import Derived.Test.YtnmeejeedfeolaaGA
import Derived.Test.YtnmeejeedfeolaaGW
import Derived.Test.YtnmeejeedfeolaaGM
import Derived.Test.YtnmeejeedfeolaaGT
namespace Go.OAI
open Go.Proofs
set_option linter.unusedVariables false
noncomputable section


/-- spec.rePaid -/
def EL91 : Nat → Option Callee := addE 121 c121 (addE 76 c76 env0)
theorem vL91 : EnvOk Try.prog EL91 := (EnvOk.nil.add Try.func76 rfl (by kernel_rfl) k76).add Try.func121 rfl (by kernel_rfl) k121
def sspec_rePaid_l0 : LS := ⟨[(1, .one (.dat (.slice (.int .i64)))), (3, .one (.fix (.ptr 0 0))), (7, .one (.dat (.int .i64))), (16, .one (.fix (.sref 1))), (17, .one (.dat (.int .i64))), (18, .one (.dat (.int .i64)))], [.box [.dat (.slice (.slice (.int .i64))), .dat (.slice (.int .i64)), .dat (.slice (.int .i64)), .dat (.int .i64), .dat (.int .i64), .dat (.int .i64), .dat (.int .i64), .dat (.int .i64)], .mat (.int .i64)], []⟩
def sspec_rePaid_l0x0 : LS := ⟨[(7, .one (.dat (.int .i64)))], [], []⟩
def xspec_rePaid_l0 : List (XS ((List Int) × Int × (List (List Int)) × (List Int) × (List Int) × Int × Int × Int × Int × Int × (List (List Int)))) := [⟨.exit 0, ⟨[7], [], [], []⟩, sspec_rePaid_l0x0, Int, fun i y => ((y, ()), ())⟩]
def spec_rePaid_l0K {R : Type} (a0 : List Int) (a2 : Int) (a7 : Int) (a12 : List (List Int)) (rc : Int → Int → Option R) (fin : Int → Option R) (a1 : Int) (a3 : Int) : Option R :=
  cond (decide (a3 < a2))
  (cond (decide ((0 : Int) ≤ a3) && decide (a3 < (a12.length : Int)))
    ((lat a0 a3).bind fun e1 =>
      cond (decide ((0 : Int) < ((a12.getD (0 + a3.toNat) []).length : Int)))
      ((some (IntKind.i64.wrap (e1 * (IntKind.i64.wrap (a7 - ((a12.getD (0 + a3.toNat) []).getD (0 + 0) 0)))))).bind fun v2 =>
        rc (IntKind.i64.wrap (a1 + v2)) (IntKind.i64.wrap (a3 + 1)))
      (none))
    (none))
  (fin a1)
def spec_rePaid_l0F (a0 : List Int) (a2 : Int) (a7 : Int) (a12 : List (List Int)) (r : (Int × Int) → Option (Int)) (x : Int × Int) : Option (Int) := spec_rePaid_l0K a0 a2 a7 a12 (fun a1 a3 => r (a1, a3)) some x.1 x.2
theorem spec_rePaid_l0c (a0 : List Int) (a2 : Int) (a7 : Int) (a12 : List (List Int)) (x : Int × Int) : Ct fun r => spec_rePaid_l0F a0 a2 a7 a12 r x := by
  unfold spec_rePaid_l0F spec_rePaid_l0K
  repeat' (first | exact Ct.const | exact Ct.call | refine Ct.cond ?_ ?_ | refine Ct.bind ?_ fun _ => ?_ | refine Ct.sum (fun _ => ?_) fun _ => ?_)
def spec_rePaid_l0 (a0 : List Int) (a2 : Int) (a7 : Int) (a12 : List (List Int)) (a1 : Int) (a3 : Int) : Option (Int) := lim (spec_rePaid_l0F a0 a2 a7 a12) (a1, a3)
theorem spec_rePaid_l0_eq (a0 : List Int) (a2 : Int) (a7 : Int) (a12 : List (List Int)) (a1 : Int) (a3 : Int) : spec_rePaid_l0 a0 a2 a7 a12 a1 a3 = spec_rePaid_l0K a0 a2 a7 a12 (spec_rePaid_l0 a0 a2 a7 a12) some a1 a3 := lim_eq (spec_rePaid_l0c a0 a2 a7 a12) (a1, a3)
theorem spec_rePaid_l0p {R : Type} (a0 : List Int) (a2 : Int) (a7 : Int) (a12 : List (List Int)) {rc : Int → Int → Option (Int)} {rc' : Int → Int → Option R} {fin : Int → Option R} (hr : ∀ a1 a3, Par fin (rc a1 a3) (rc' a1 a3)) (a1 : Int) (a3 : Int) : Par fin (spec_rePaid_l0K a0 a2 a7 a12 rc some a1 a3) (spec_rePaid_l0K a0 a2 a7 a12 rc' fin a1 a3) := by
  unfold spec_rePaid_l0K
  repeat' (first | exact .fin | exact .none | exact hr _ _ | refine .cond ?_ ?_ | refine .bind fun _ => ?_ | refine .sum (fun _ => ?_) fun _ => ?_)
def Lspec_rePaid_l0 : Loop := mkL ⟨[1, 3, 7, 16, 17, 18], [.slot 3, .slot 16], [], []⟩ sspec_rePaid_l0 xspec_rePaid_l0 (fun (x : ((List Int) × Unit × Int × Unit × Int × Int × Unit) × (((List (List Int)) × (List Int) × (List Int) × Int × Int × Int × Int × Int × Unit) × (List (List Int)) × Unit)) => (x.1.1, (x.1.2.2.2.2.1, (x.2.1.1, (x.2.1.2.1, (x.2.1.2.2.1, (x.2.1.2.2.2.1, (x.2.1.2.2.2.2.1, (x.2.1.2.2.2.2.2.1, (x.2.1.2.2.2.2.2.2.1, (x.2.1.2.2.2.2.2.2.2.1, x.2.2.1))))))))))) fun (x : ((List Int) × Unit × Int × Unit × Int × Int × Unit) × (((List (List Int)) × (List Int) × (List Int) × Int × Int × Int × Int × Int × Unit) × (List (List Int)) × Unit)) => spec_rePaid_l0 x.1.1 x.1.2.2.2.2.1 x.2.1.2.2.2.1 x.2.2.1 x.1.2.2.1 x.1.2.2.2.2.2.1
def spec_rePaidK {R : Type} (fin : Int → Option R) (x0 : DJob) (x1 : List Int) (x2 : DPlan) : Option R :=
  (spec_srWorth x0 x2.2.1).bind fun y1 =>
  (spec_plTonnes x0 x2).bind fun y2 =>
  (spec_rePaid_l0 x1 (y2.length : Int) x0.2.2.2.1.1 y2 y1 0).bind fun y5 =>
  fin y5
def spec_rePaid (x0 : DJob) (x1 : List Int) (x2 : DPlan) : Option (Int) := spec_rePaidK some x0 x1 x2
theorem p91 {R : Type} (fin : Int → Option R) (x0 : DJob) (x1 : List Int) (x2 : DPlan) : Par fin (spec_rePaidK some x0 x1 x2) (spec_rePaidK fin x0 x1 x2) := by
  unfold spec_rePaidK
  repeat' (first | exact .fin | exact .none | refine .cond ?_ ?_ | refine .bind fun _ => ?_ | refine .sum (fun _ => ?_) fun _ => ?_)
def or91 : Ora := { lo := addL 3 (Lspec_rePaid_l0) lo0, fin := [] }
theorem spec_rePaid_l0e (a0 : List Int) (a2 : Int) (a4 : List (List Int)) (a5 : List Int) (a6 : List Int) (a7 : Int) (a8 : Int) (a9 : Int) (a10 : Int) (a11 : Int) (a12 : List (List Int)) (k : Nat) (a1 : Int) (a3 : Int) : loopC Try.prog EL91 or91 ((loopsIn (codeOf Try.f91)).getD 0 .skip) (Lspec_rePaid_l0).h (Lspec_rePaid_l0).ho Try.f91.ntmps (k + 1) (sspec_rePaid_l0.out ((a0, ((), (a1, ((), (a2, (a3, ())))))), ((a4, (a5, (a6, (a7, (a8, (a9, (a10, (a11, ())))))))), (a12, ())))) =
    spec_rePaid_l0K a0 a2 a7 a12 (fun a1 a3 => loopC Try.prog EL91 or91 ((loopsIn (codeOf Try.f91)).getD 0 .skip) (Lspec_rePaid_l0).h (Lspec_rePaid_l0).ho Try.f91.ntmps k (sspec_rePaid_l0.out ((a0, ((), (a1, ((), (a2, (a3, ())))))), ((a4, (a5, (a6, (a7, (a8, (a9, (a10, (a11, ())))))))), (a12, ()))))) (fun y => some (XS.out xspec_rePaid_l0 (a0, (a2, (a4, (a5, (a6, (a7, (a8, (a9, (a10, (a11, a12)))))))))) y)) a1 a3 := by kernel_rfl
theorem spec_rePaid_l0o : LoopOk Try.prog EL91 or91 Try.f91.ntmps ((loopsIn (codeOf Try.f91)).getD 0 .skip) (Lspec_rePaid_l0) :=
  loop_lim (hs := sspec_rePaid_l0) (xs := xspec_rePaid_l0) (ι := fun (x : ((List Int) × Unit × Int × Unit × Int × Int × Unit) × (((List (List Int)) × (List Int) × (List Int) × Int × Int × Int × Int × Int × Unit) × (List (List Int)) × Unit)) => (x.1.1, (x.1.2.2.2.2.1, (x.2.1.1, (x.2.1.2.1, (x.2.1.2.2.1, (x.2.1.2.2.2.1, (x.2.1.2.2.2.2.1, (x.2.1.2.2.2.2.2.1, (x.2.1.2.2.2.2.2.2.1, (x.2.1.2.2.2.2.2.2.2.1, x.2.2.1))))))))))) (φ := fun (x : ((List Int) × Unit × Int × Unit × Int × Int × Unit) × (((List (List Int)) × (List Int) × (List Int) × Int × Int × Int × Int × Int × Unit) × (List (List Int)) × Unit)) => (x.1.2.2.1, x.1.2.2.2.2.2.1)) (ψ := fun (i : (List Int) × Int × (List (List Int)) × (List Int) × (List Int) × Int × Int × Int × Int × Int × (List (List Int))) (v : Int × Int) => ((i.1, ((), (v.1, ((), (i.2.1, (v.2, ())))))), ((i.2.2.1, (i.2.2.2.1, (i.2.2.2.2.1, (i.2.2.2.2.2.1, (i.2.2.2.2.2.2.1, (i.2.2.2.2.2.2.2.1, (i.2.2.2.2.2.2.2.2.1, (i.2.2.2.2.2.2.2.2.2.1, ())))))))), (i.2.2.2.2.2.2.2.2.2.2, ())))) (F := fun (i : (List Int) × Int × (List (List Int)) × (List Int) × (List Int) × Int × Int × Int × Int × Int × (List (List Int))) => spec_rePaid_l0F i.1 i.2.1 i.2.2.2.2.2.1 i.2.2.2.2.2.2.2.2.2.2) (fun _ => rfl) fun i k hk v => Par.of_eq (spec_rePaid_l0e i.1 i.2.1 i.2.2.1 i.2.2.2.1 i.2.2.2.2.1 i.2.2.2.2.2.1 i.2.2.2.2.2.2.1 i.2.2.2.2.2.2.2.1 i.2.2.2.2.2.2.2.2.1 i.2.2.2.2.2.2.2.2.2.1 i.2.2.2.2.2.2.2.2.2.2 k v.1 v.2) (spec_rePaid_l0p i.1 i.2.1 i.2.2.2.2.2.1 i.2.2.2.2.2.2.2.2.2.2 (fun a1 a3 => hk (a1, a3)) v.1 v.2)
def c91 : Callee := mkC [.agg [.ro TJob], .one (.ro (.slice (.int .i64))), .agg [.ro TPlan]] 1 [.one (.ro (.int .i64))] fun x => spec_rePaid x.1 x.2.1 x.2.2
theorem e91 (x : PK.dens [.agg [.ro TJob], .one (.ro (.slice (.int .i64))), .agg [.ro TPlan]]) : evalFn Try.prog EL91 or91 Try.f91 (PK.outs [.agg [.ro TJob], .one (.ro (.slice (.int .i64))), .agg [.ro TPlan]] x) =
    spec_rePaidK (fun y => some (tupOf ((PK.outs [.one (.ro (.int .i64))] y).take 1), (PK.outs [.one (.ro (.int .i64))] y).drop 1)) x.1 x.2.1 x.2.2 := by kernel_rfl
theorem o91 : LoOk Try.prog EL91 or91 Try.f91.ntmps (loopsIn (codeOf Try.f91)) :=
  LoOk.mk (m := 1) (by kernel_rfl) fun i hi => match i, hi with
    | 0, _ => ⟨Lspec_rePaid_l0, by kernel_rfl, spec_rePaid_l0o⟩
    | i + 1, hi => absurd hi (by omega)
theorem k91 : CalleeOk Try.prog 91 c91 := callee_mk Try.func91 (code := codeOf Try.f91) (by kernel_rfl) vL91 mixed o91 fun x y h => (e91 x).trans (p91 _ x.1 x.2.1 x.2.2 y h)

/-- spec.PaidWorth -/
def EL45 : Nat → Option Callee := addE 91 c91 (addE 90 c90 (addE 67 c67 env0))
theorem vL45 : EnvOk Try.prog EL45 := ((EnvOk.nil.add Try.func67 rfl (by kernel_rfl) k67).add Try.func90 rfl (by kernel_rfl) k90).add Try.func91 rfl (by kernel_rfl) k91
def spec_PaidWorthK {R : Type} (fin : Int × Bool → Option R) (x0 : DJob) (x1 : List Int) (x2 : DPlan) : Option R :=
  (spec_reGood x0 x1).bind fun y1 =>
  cond (!y1)
  (fin (0, false))
  ((spec_plGood x0 x2).bind fun y2 =>
    cond (!y2)
    (fin (0, false))
    ((spec_rePaid x0 x1 x2).bind fun y3 =>
      fin (y3, true)))
def spec_PaidWorth (x0 : DJob) (x1 : List Int) (x2 : DPlan) : Option (Int × Bool) := spec_PaidWorthK some x0 x1 x2
theorem p45 {R : Type} (fin : Int × Bool → Option R) (x0 : DJob) (x1 : List Int) (x2 : DPlan) : Par fin (spec_PaidWorthK some x0 x1 x2) (spec_PaidWorthK fin x0 x1 x2) := by
  unfold spec_PaidWorthK
  repeat' (first | exact .fin | exact .none | refine .cond ?_ ?_ | refine .bind fun _ => ?_ | refine .sum (fun _ => ?_) fun _ => ?_)
def c45 : Callee := mkC [.agg [.ro TJob], .one (.ro (.slice (.int .i64))), .agg [.ro TPlan]] 2 [.one (.ro (.int .i64)), .one (.ro .bool)] fun x => spec_PaidWorth x.1 x.2.1 x.2.2
theorem e45 (x : PK.dens [.agg [.ro TJob], .one (.ro (.slice (.int .i64))), .agg [.ro TPlan]]) : evalFn Try.prog EL45 or0 Try.f45 (PK.outs [.agg [.ro TJob], .one (.ro (.slice (.int .i64))), .agg [.ro TPlan]] x) =
    spec_PaidWorthK (fun y => some (tupOf ((PK.outs [.one (.ro (.int .i64)), .one (.ro .bool)] y).take 2), (PK.outs [.one (.ro (.int .i64)), .one (.ro .bool)] y).drop 2)) x.1 x.2.1 x.2.2 := by kernel_rfl
theorem k45 : CalleeOk Try.prog 45 c45 := callee_mk Try.func45 (code := codeOf Try.f45) (by kernel_rfl) vL45 mixed (LoOk.nil (by kernel_rfl)) fun x y h => (e45 x).trans (p45 _ x.1 x.2.1 x.2.2 y h)

/-- impl.paidWorth -/
def EL92 : Nat → Option Callee := addE 122 c122 (addE 88 c88 env0)
theorem vL92 : EnvOk Try.prog EL92 := (EnvOk.nil.add Try.func88 rfl (by kernel_rfl) k88).add Try.func122 rfl (by kernel_rfl) k122
def simpl_paidWorth_l0 : LS := ⟨[(1, .one (.dat (.slice (.int .i64)))), (3, .one (.fix (.ptr 0 0))), (7, .one (.dat (.int .i64))), (15, .one (.fix (.sref 1))), (16, .one (.dat (.int .i64))), (17, .one (.dat (.int .i64)))], [.box [.dat (.slice (.slice (.int .i64))), .dat (.slice (.int .i64)), .dat (.slice (.int .i64)), .dat (.int .i64), .dat (.int .i64), .dat (.int .i64), .dat (.int .i64), .dat (.int .i64)], .mat (.int .i64)], []⟩
def simpl_paidWorth_l0x0 : LS := ⟨[(7, .one (.dat (.int .i64)))], [], []⟩
def ximpl_paidWorth_l0 : List (XS ((List Int) × Int × (List (List Int)) × (List Int) × (List Int) × Int × Int × Int × Int × Int × (List (List Int)))) := [⟨.exit 0, ⟨[7], [], [], []⟩, simpl_paidWorth_l0x0, Int, fun i y => ((y, ()), ())⟩]
def impl_paidWorth_l0K {R : Type} (a0 : List Int) (a2 : Int) (a7 : Int) (a12 : List (List Int)) (rc : Int → Int → Option R) (fin : Int → Option R) (a1 : Int) (a3 : Int) : Option R :=
  cond (decide (a3 < a2))
  (cond (decide ((0 : Int) ≤ a3) && decide (a3 < (a12.length : Int)))
    ((lat a0 a3).bind fun e1 =>
      cond (decide ((0 : Int) < ((a12.getD (0 + a3.toNat) []).length : Int)))
      ((some (IntKind.i64.wrap (e1 * (IntKind.i64.wrap (a7 - ((a12.getD (0 + a3.toNat) []).getD (0 + 0) 0)))))).bind fun v2 =>
        rc (IntKind.i64.wrap (a1 + v2)) (IntKind.i64.wrap (a3 + 1)))
      (none))
    (none))
  (fin a1)
def impl_paidWorth_l0F (a0 : List Int) (a2 : Int) (a7 : Int) (a12 : List (List Int)) (r : (Int × Int) → Option (Int)) (x : Int × Int) : Option (Int) := impl_paidWorth_l0K a0 a2 a7 a12 (fun a1 a3 => r (a1, a3)) some x.1 x.2
theorem impl_paidWorth_l0c (a0 : List Int) (a2 : Int) (a7 : Int) (a12 : List (List Int)) (x : Int × Int) : Ct fun r => impl_paidWorth_l0F a0 a2 a7 a12 r x := by
  unfold impl_paidWorth_l0F impl_paidWorth_l0K
  repeat' (first | exact Ct.const | exact Ct.call | refine Ct.cond ?_ ?_ | refine Ct.bind ?_ fun _ => ?_ | refine Ct.sum (fun _ => ?_) fun _ => ?_)
def impl_paidWorth_l0 (a0 : List Int) (a2 : Int) (a7 : Int) (a12 : List (List Int)) (a1 : Int) (a3 : Int) : Option (Int) := lim (impl_paidWorth_l0F a0 a2 a7 a12) (a1, a3)
theorem impl_paidWorth_l0_eq (a0 : List Int) (a2 : Int) (a7 : Int) (a12 : List (List Int)) (a1 : Int) (a3 : Int) : impl_paidWorth_l0 a0 a2 a7 a12 a1 a3 = impl_paidWorth_l0K a0 a2 a7 a12 (impl_paidWorth_l0 a0 a2 a7 a12) some a1 a3 := lim_eq (impl_paidWorth_l0c a0 a2 a7 a12) (a1, a3)
theorem impl_paidWorth_l0p {R : Type} (a0 : List Int) (a2 : Int) (a7 : Int) (a12 : List (List Int)) {rc : Int → Int → Option (Int)} {rc' : Int → Int → Option R} {fin : Int → Option R} (hr : ∀ a1 a3, Par fin (rc a1 a3) (rc' a1 a3)) (a1 : Int) (a3 : Int) : Par fin (impl_paidWorth_l0K a0 a2 a7 a12 rc some a1 a3) (impl_paidWorth_l0K a0 a2 a7 a12 rc' fin a1 a3) := by
  unfold impl_paidWorth_l0K
  repeat' (first | exact .fin | exact .none | exact hr _ _ | refine .cond ?_ ?_ | refine .bind fun _ => ?_ | refine .sum (fun _ => ?_) fun _ => ?_)
def Limpl_paidWorth_l0 : Loop := mkL ⟨[1, 3, 7, 15, 16, 17], [.slot 3, .slot 15], [], []⟩ simpl_paidWorth_l0 ximpl_paidWorth_l0 (fun (x : ((List Int) × Unit × Int × Unit × Int × Int × Unit) × (((List (List Int)) × (List Int) × (List Int) × Int × Int × Int × Int × Int × Unit) × (List (List Int)) × Unit)) => (x.1.1, (x.1.2.2.2.2.1, (x.2.1.1, (x.2.1.2.1, (x.2.1.2.2.1, (x.2.1.2.2.2.1, (x.2.1.2.2.2.2.1, (x.2.1.2.2.2.2.2.1, (x.2.1.2.2.2.2.2.2.1, (x.2.1.2.2.2.2.2.2.2.1, x.2.2.1))))))))))) fun (x : ((List Int) × Unit × Int × Unit × Int × Int × Unit) × (((List (List Int)) × (List Int) × (List Int) × Int × Int × Int × Int × Int × Unit) × (List (List Int)) × Unit)) => impl_paidWorth_l0 x.1.1 x.1.2.2.2.2.1 x.2.1.2.2.2.1 x.2.2.1 x.1.2.2.1 x.1.2.2.2.2.2.1
def impl_paidWorthK {R : Type} (fin : Int → Option R) (x0 : DJob) (x1 : List Int) (x2 : DPlan) : Option R :=
  (impl_scaledWorth x0 x2).bind fun y1 =>
  (impl_tonnesIn x0 x2).bind fun y2 =>
  (impl_paidWorth_l0 x1 (y2.length : Int) x0.2.2.2.1.1 y2 y1 0).bind fun y5 =>
  fin y5
def impl_paidWorth (x0 : DJob) (x1 : List Int) (x2 : DPlan) : Option (Int) := impl_paidWorthK some x0 x1 x2
theorem p92 {R : Type} (fin : Int → Option R) (x0 : DJob) (x1 : List Int) (x2 : DPlan) : Par fin (impl_paidWorthK some x0 x1 x2) (impl_paidWorthK fin x0 x1 x2) := by
  unfold impl_paidWorthK
  repeat' (first | exact .fin | exact .none | refine .cond ?_ ?_ | refine .bind fun _ => ?_ | refine .sum (fun _ => ?_) fun _ => ?_)
def or92 : Ora := { lo := addL 3 (Limpl_paidWorth_l0) lo0, fin := [] }
theorem impl_paidWorth_l0e (a0 : List Int) (a2 : Int) (a4 : List (List Int)) (a5 : List Int) (a6 : List Int) (a7 : Int) (a8 : Int) (a9 : Int) (a10 : Int) (a11 : Int) (a12 : List (List Int)) (k : Nat) (a1 : Int) (a3 : Int) : loopC Try.prog EL92 or92 ((loopsIn (codeOf Try.f92)).getD 0 .skip) (Limpl_paidWorth_l0).h (Limpl_paidWorth_l0).ho Try.f92.ntmps (k + 1) (simpl_paidWorth_l0.out ((a0, ((), (a1, ((), (a2, (a3, ())))))), ((a4, (a5, (a6, (a7, (a8, (a9, (a10, (a11, ())))))))), (a12, ())))) =
    impl_paidWorth_l0K a0 a2 a7 a12 (fun a1 a3 => loopC Try.prog EL92 or92 ((loopsIn (codeOf Try.f92)).getD 0 .skip) (Limpl_paidWorth_l0).h (Limpl_paidWorth_l0).ho Try.f92.ntmps k (simpl_paidWorth_l0.out ((a0, ((), (a1, ((), (a2, (a3, ())))))), ((a4, (a5, (a6, (a7, (a8, (a9, (a10, (a11, ())))))))), (a12, ()))))) (fun y => some (XS.out ximpl_paidWorth_l0 (a0, (a2, (a4, (a5, (a6, (a7, (a8, (a9, (a10, (a11, a12)))))))))) y)) a1 a3 := by kernel_rfl
theorem impl_paidWorth_l0o : LoopOk Try.prog EL92 or92 Try.f92.ntmps ((loopsIn (codeOf Try.f92)).getD 0 .skip) (Limpl_paidWorth_l0) :=
  loop_lim (hs := simpl_paidWorth_l0) (xs := ximpl_paidWorth_l0) (ι := fun (x : ((List Int) × Unit × Int × Unit × Int × Int × Unit) × (((List (List Int)) × (List Int) × (List Int) × Int × Int × Int × Int × Int × Unit) × (List (List Int)) × Unit)) => (x.1.1, (x.1.2.2.2.2.1, (x.2.1.1, (x.2.1.2.1, (x.2.1.2.2.1, (x.2.1.2.2.2.1, (x.2.1.2.2.2.2.1, (x.2.1.2.2.2.2.2.1, (x.2.1.2.2.2.2.2.2.1, (x.2.1.2.2.2.2.2.2.2.1, x.2.2.1))))))))))) (φ := fun (x : ((List Int) × Unit × Int × Unit × Int × Int × Unit) × (((List (List Int)) × (List Int) × (List Int) × Int × Int × Int × Int × Int × Unit) × (List (List Int)) × Unit)) => (x.1.2.2.1, x.1.2.2.2.2.2.1)) (ψ := fun (i : (List Int) × Int × (List (List Int)) × (List Int) × (List Int) × Int × Int × Int × Int × Int × (List (List Int))) (v : Int × Int) => ((i.1, ((), (v.1, ((), (i.2.1, (v.2, ())))))), ((i.2.2.1, (i.2.2.2.1, (i.2.2.2.2.1, (i.2.2.2.2.2.1, (i.2.2.2.2.2.2.1, (i.2.2.2.2.2.2.2.1, (i.2.2.2.2.2.2.2.2.1, (i.2.2.2.2.2.2.2.2.2.1, ())))))))), (i.2.2.2.2.2.2.2.2.2.2, ())))) (F := fun (i : (List Int) × Int × (List (List Int)) × (List Int) × (List Int) × Int × Int × Int × Int × Int × (List (List Int))) => impl_paidWorth_l0F i.1 i.2.1 i.2.2.2.2.2.1 i.2.2.2.2.2.2.2.2.2.2) (fun _ => rfl) fun i k hk v => Par.of_eq (impl_paidWorth_l0e i.1 i.2.1 i.2.2.1 i.2.2.2.1 i.2.2.2.2.1 i.2.2.2.2.2.1 i.2.2.2.2.2.2.1 i.2.2.2.2.2.2.2.1 i.2.2.2.2.2.2.2.2.1 i.2.2.2.2.2.2.2.2.2.1 i.2.2.2.2.2.2.2.2.2.2 k v.1 v.2) (impl_paidWorth_l0p i.1 i.2.1 i.2.2.2.2.2.1 i.2.2.2.2.2.2.2.2.2.2 (fun a1 a3 => hk (a1, a3)) v.1 v.2)
def c92 : Callee := mkC [.agg [.ro TJob], .one (.ro (.slice (.int .i64))), .agg [.ro TPlan]] 1 [.one (.ro (.int .i64))] fun x => impl_paidWorth x.1 x.2.1 x.2.2
theorem e92 (x : PK.dens [.agg [.ro TJob], .one (.ro (.slice (.int .i64))), .agg [.ro TPlan]]) : evalFn Try.prog EL92 or92 Try.f92 (PK.outs [.agg [.ro TJob], .one (.ro (.slice (.int .i64))), .agg [.ro TPlan]] x) =
    impl_paidWorthK (fun y => some (tupOf ((PK.outs [.one (.ro (.int .i64))] y).take 1), (PK.outs [.one (.ro (.int .i64))] y).drop 1)) x.1 x.2.1 x.2.2 := by kernel_rfl
theorem o92 : LoOk Try.prog EL92 or92 Try.f92.ntmps (loopsIn (codeOf Try.f92)) :=
  LoOk.mk (m := 1) (by kernel_rfl) fun i hi => match i, hi with
    | 0, _ => ⟨Limpl_paidWorth_l0, by kernel_rfl, impl_paidWorth_l0o⟩
    | i + 1, hi => absurd hi (by omega)
theorem k92 : CalleeOk Try.prog 92 c92 := callee_mk Try.func92 (code := codeOf Try.f92) (by kernel_rfl) vL92 mixed o92 fun x y h => (e92 x).trans (p92 _ x.1 x.2.1 x.2.2 y h)

/-- impl.PaidWorth -/
def EL46 : Nat → Option Callee := addE 92 c92 (addE 78 c78 (addE 71 c71 (addE 70 c70 env0)))
theorem vL46 : EnvOk Try.prog EL46 := (((EnvOk.nil.add Try.func70 rfl (by kernel_rfl) k70).add Try.func71 rfl (by kernel_rfl) k71).add Try.func78 rfl (by kernel_rfl) k78).add Try.func92 rfl (by kernel_rfl) k92
def impl_PaidWorthK {R : Type} (fin : Int × Bool → Option R) (x0 : DJob) (x1 : List Int) (x2 : DPlan) : Option R :=
  (impl_IsJob x0).bind fun y1 =>
  cond (!y1)
  (fin (0, false))
  ((impl_areMultipliers x0 x1).bind fun y2 =>
    cond (!y2)
    (fin (0, false))
    ((impl_isPlan x0 x2).bind fun y3 =>
      cond (!y3)
      (fin (0, false))
      ((impl_paidWorth x0 x1 x2).bind fun y4 =>
        fin (y4, true))))
def impl_PaidWorth (x0 : DJob) (x1 : List Int) (x2 : DPlan) : Option (Int × Bool) := impl_PaidWorthK some x0 x1 x2
theorem p46 {R : Type} (fin : Int × Bool → Option R) (x0 : DJob) (x1 : List Int) (x2 : DPlan) : Par fin (impl_PaidWorthK some x0 x1 x2) (impl_PaidWorthK fin x0 x1 x2) := by
  unfold impl_PaidWorthK
  repeat' (first | exact .fin | exact .none | refine .cond ?_ ?_ | refine .bind fun _ => ?_ | refine .sum (fun _ => ?_) fun _ => ?_)
def c46 : Callee := mkC [.agg [.ro TJob], .one (.ro (.slice (.int .i64))), .agg [.ro TPlan]] 2 [.one (.ro (.int .i64)), .one (.ro .bool)] fun x => impl_PaidWorth x.1 x.2.1 x.2.2
theorem e46 (x : PK.dens [.agg [.ro TJob], .one (.ro (.slice (.int .i64))), .agg [.ro TPlan]]) : evalFn Try.prog EL46 or0 Try.f46 (PK.outs [.agg [.ro TJob], .one (.ro (.slice (.int .i64))), .agg [.ro TPlan]] x) =
    impl_PaidWorthK (fun y => some (tupOf ((PK.outs [.one (.ro (.int .i64)), .one (.ro .bool)] y).take 2), (PK.outs [.one (.ro (.int .i64)), .one (.ro .bool)] y).drop 2)) x.1 x.2.1 x.2.2 := by kernel_rfl
theorem k46 : CalleeOk Try.prog 46 c46 := callee_mk Try.func46 (code := codeOf Try.f46) (by kernel_rfl) vL46 mixed (LoOk.nil (by kernel_rfl)) fun x y h => (e46 x).trans (p46 _ x.1 x.2.1 x.2.2 y h)

/-- laws.FnExactPaidWorth -/
def EL10 : Nat → Option Callee := addE 30 c30 (addE 25 c25 (addE 24 c24 (addE 46 c46 (addE 45 c45 (addE 28 c28 (addE 22 c22 (addE 21 c21 (addE 26 c26 (addE 19 c19 env0)))))))))
theorem vL10 : EnvOk Try.prog EL10 := (((((((((EnvOk.nil.add Try.func19 rfl (by kernel_rfl) k19).add Try.func26 rfl (by kernel_rfl) k26).add Try.func21 rfl (by kernel_rfl) k21).add Try.func22 rfl (by kernel_rfl) k22).add Try.func28 rfl (by kernel_rfl) k28).add Try.func45 rfl (by kernel_rfl) k45).add Try.func46 rfl (by kernel_rfl) k46).add Try.func24 rfl (by kernel_rfl) k24).add Try.func25 rfl (by kernel_rfl) k25).add Try.func30 rfl (by kernel_rfl) k30
def laws_FnExactPaidWorthK {R : Type} (fin : Bool → Option R) (x0 : DJob) (x1 : List Int) (x2 : DPlan) : Option R :=
  cond (decide ((x1.length : Int) > 1048576))
  (fin true)
  ((laws_szJob x0 1048576).bind fun y1 =>
    cond (decide (y1 < 0))
    (fin true)
    ((laws_szPlan x2 y1).bind fun y2 =>
      cond (decide (y2 < 0))
      (fin true)
      ((laws_toJob x0).bind fun y3 =>
        (laws_toIntS x1).bind fun y4 =>
        (laws_toPlan x2).bind fun y5 =>
        (spec_PaidWorth (y3.1, (y3.2.1, (y3.2.2.1, ((y3.2.2.2.1, (y3.2.2.2.2.1, ())), (y3.2.2.2.2.2.1, (y3.2.2.2.2.2.2.1, (y3.2.2.2.2.2.2.2, ()))))))) y4 (y5.1, (y5.2, ()))).bind fun y6 =>
        (laws_toJob x0).bind fun y7 =>
        (laws_toIntS x1).bind fun y8 =>
        (laws_toPlan x2).bind fun y9 =>
        (impl_PaidWorth (y7.1, (y7.2.1, (y7.2.2.1, ((y7.2.2.2.1, (y7.2.2.2.2.1, ())), (y7.2.2.2.2.2.1, (y7.2.2.2.2.2.2.1, (y7.2.2.2.2.2.2.2, ()))))))) y8 (y9.1, (y9.2, ()))).bind fun y10 =>
        cond (y10.1 != y6.1)
        (fin false)
        (cond (!(y10.2 == y6.2))
          (fin false)
          ((laws_toJob x0).bind fun y11 =>
            (laws_eqJob (y7.1, (y7.2.1, (y7.2.2.1, ((y7.2.2.2.1, (y7.2.2.2.2.1, ())), (y7.2.2.2.2.2.1, (y7.2.2.2.2.2.2.1, (y7.2.2.2.2.2.2.2, ()))))))) (y11.1, (y11.2.1, (y11.2.2.1, ((y11.2.2.2.1, (y11.2.2.2.2.1, ())), (y11.2.2.2.2.2.1, (y11.2.2.2.2.2.2.1, (y11.2.2.2.2.2.2.2, ())))))))).bind fun y12 =>
            cond (!y12)
            (fin false)
            ((laws_toIntS x1).bind fun y13 =>
              (laws_eqIntS y8 y13).bind fun y14 =>
              cond (!y14)
              (fin false)
              ((laws_toPlan x2).bind fun y15 =>
                (laws_eqPlan (y9.1, (y9.2, ())) (y15.1, (y15.2, ()))).bind fun y16 =>
                cond (!y16)
                (fin false)
                (fin true))))))))
def laws_FnExactPaidWorth (x0 : DJob) (x1 : List Int) (x2 : DPlan) : Option (Bool) := laws_FnExactPaidWorthK some x0 x1 x2
theorem p10 {R : Type} (fin : Bool → Option R) (x0 : DJob) (x1 : List Int) (x2 : DPlan) : Par fin (laws_FnExactPaidWorthK some x0 x1 x2) (laws_FnExactPaidWorthK fin x0 x1 x2) := by
  unfold laws_FnExactPaidWorthK
  repeat' (first | exact .fin | exact .none | refine .cond ?_ ?_ | refine .bind fun _ => ?_ | refine .sum (fun _ => ?_) fun _ => ?_)
def c10 : Callee := mkC [.agg [.ro TJob], .one (.ro (.slice (.int .i64))), .agg [.ro TPlan]] 1 [.one (.ro .bool)] fun x => laws_FnExactPaidWorth x.1 x.2.1 x.2.2
theorem e10 (x : PK.dens [.agg [.ro TJob], .one (.ro (.slice (.int .i64))), .agg [.ro TPlan]]) : evalFn Try.prog EL10 or0 Try.f10 (PK.outs [.agg [.ro TJob], .one (.ro (.slice (.int .i64))), .agg [.ro TPlan]] x) =
    laws_FnExactPaidWorthK (fun y => some (tupOf ((PK.outs [.one (.ro .bool)] y).take 1), (PK.outs [.one (.ro .bool)] y).drop 1)) x.1 x.2.1 x.2.2 := by kernel_rfl
theorem k10 : CalleeOk Try.prog 10 c10 := callee_mk Try.func10 (code := codeOf Try.f10) (by kernel_rfl) vL10 mixed (LoOk.nil (by kernel_rfl)) fun x y h => (e10 x).trans (p10 _ x.1 x.2.1 x.2.2 y h)
end
end Go.OAI
