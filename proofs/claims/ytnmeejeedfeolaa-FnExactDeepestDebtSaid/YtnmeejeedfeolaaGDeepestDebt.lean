/- Contracts: GDeepestDebt. -/
import Derived.Test.YtnmeejeedfeolaaGA
import Derived.Test.YtnmeejeedfeolaaGW
namespace Go.OAI
open Go.Proofs
set_option linter.unusedVariables false
noncomputable section


/-- spec.l1Least -/
def EL84 : Nat → Option Callee := env0
theorem vL84 : EnvOk Try.prog EL84 := EnvOk.nil
def spec_l1LeastK {R : Type} (fin : Int → Option R) (x0 : Int) (x1 : Int) : Option R :=
  cond (decide (x0 < x1))
  (fin x0)
  (fin x1)
def spec_l1Least (x0 : Int) (x1 : Int) : Option (Int) := spec_l1LeastK some x0 x1
theorem p84 {R : Type} (fin : Int → Option R) (x0 : Int) (x1 : Int) : Par fin (spec_l1LeastK some x0 x1) (spec_l1LeastK fin x0 x1) := by
  unfold spec_l1LeastK
  repeat' (first | exact .fin | exact .none | refine .cond ?_ ?_ | refine .bind fun _ => ?_ | refine .sum (fun _ => ?_) fun _ => ?_)
def c84 : Callee := mkC [.one (.ro (.int .i64)), .one (.ro (.int .i64))] 1 [.one (.ro (.int .i64))] fun x => spec_l1Least x.1 x.2
theorem e84 (x : PK.dens [.one (.ro (.int .i64)), .one (.ro (.int .i64))]) : evalFn Try.prog EL84 or0 Try.f84 (PK.outs [.one (.ro (.int .i64)), .one (.ro (.int .i64))] x) =
    spec_l1LeastK (fun y => some (tupOf ((PK.outs [.one (.ro (.int .i64))] y).take 1), (PK.outs [.one (.ro (.int .i64))] y).drop 1)) x.1 x.2 := by kernel_rfl
theorem k84 : CalleeOk Try.prog 84 c84 := callee_mk Try.func84 (code := codeOf Try.f84) (by kernel_rfl) vL84 mixed (LoOk.nil (by kernel_rfl)) fun x y h => (e84 x).trans (p84 _ x.1 x.2 y h)

/-- spec.DeepestDebt -/
def EL39 : Nat → Option Callee := addE 84 c84 (addE 80 c80 (addE 82 c82 (addE 74 c74 env0)))
theorem vL39 : EnvOk Try.prog EL39 := (((EnvOk.nil.add Try.func74 rfl (by kernel_rfl) k74).add Try.func82 rfl (by kernel_rfl) k82).add Try.func80 rfl (by kernel_rfl) k80).add Try.func84 rfl (by kernel_rfl) k84
def sspec_DeepestDebt_l0 : LS := ⟨[(6, .one (.dat (.int .i64))), (16, .one (.fix (.sref 0))), (17, .one (.dat (.int .i64))), (18, .one (.dat (.int .i64)))], [.sl (.int .i64)], []⟩
def sspec_DeepestDebt_l0x0 : LS := ⟨[(6, .one (.dat (.int .i64)))], [], []⟩
def xspec_DeepestDebt_l0 : List (XS (Int × (List Int))) := [⟨.exit 0, ⟨[6], [], [], []⟩, sspec_DeepestDebt_l0x0, Int, fun i y => ((y, ()), ())⟩]
def spec_DeepestDebt_l0K {R : Type} (a1 : Int) (a3 : List Int) (rc : Int → Int → Option R) (fin : Int → Option R) (a0 : Int) (a2 : Int) : Option R :=
  cond (decide (a2 < a1))
  (cond (decide ((0 : Int) ≤ a2) && decide (a2 < (a3.length : Int)))
    ((spec_l1Least a0 (a3.getD (0 + a2.toNat) 0)).bind fun y1 =>
      rc y1 (IntKind.i64.wrap (a2 + 1)))
    (none))
  (fin a0)
def spec_DeepestDebt_l0F (a1 : Int) (a3 : List Int) (r : (Int × Int) → Option (Int)) (x : Int × Int) : Option (Int) := spec_DeepestDebt_l0K a1 a3 (fun a0 a2 => r (a0, a2)) some x.1 x.2
theorem spec_DeepestDebt_l0c (a1 : Int) (a3 : List Int) (x : Int × Int) : Ct fun r => spec_DeepestDebt_l0F a1 a3 r x := by
  unfold spec_DeepestDebt_l0F spec_DeepestDebt_l0K
  repeat' (first | exact Ct.const | exact Ct.call | refine Ct.cond ?_ ?_ | refine Ct.bind ?_ fun _ => ?_ | refine Ct.sum (fun _ => ?_) fun _ => ?_)
def spec_DeepestDebt_l0 (a1 : Int) (a3 : List Int) (a0 : Int) (a2 : Int) : Option (Int) := lim (spec_DeepestDebt_l0F a1 a3) (a0, a2)
theorem spec_DeepestDebt_l0_eq (a1 : Int) (a3 : List Int) (a0 : Int) (a2 : Int) : spec_DeepestDebt_l0 a1 a3 a0 a2 = spec_DeepestDebt_l0K a1 a3 (spec_DeepestDebt_l0 a1 a3) some a0 a2 := lim_eq (spec_DeepestDebt_l0c a1 a3) (a0, a2)
theorem spec_DeepestDebt_l0p {R : Type} (a1 : Int) (a3 : List Int) {rc : Int → Int → Option (Int)} {rc' : Int → Int → Option R} {fin : Int → Option R} (hr : ∀ a0 a2, Par fin (rc a0 a2) (rc' a0 a2)) (a0 : Int) (a2 : Int) : Par fin (spec_DeepestDebt_l0K a1 a3 rc some a0 a2) (spec_DeepestDebt_l0K a1 a3 rc' fin a0 a2) := by
  unfold spec_DeepestDebt_l0K
  repeat' (first | exact .fin | exact .none | exact hr _ _ | refine .cond ?_ ?_ | refine .bind fun _ => ?_ | refine .sum (fun _ => ?_) fun _ => ?_)
def Lspec_DeepestDebt_l0 : Loop := mkL ⟨[6, 16, 17, 18], [.slot 16], [], []⟩ sspec_DeepestDebt_l0 xspec_DeepestDebt_l0 (fun (x : (Int × Unit × Int × Int × Unit) × ((List Int) × Unit)) => (x.1.2.2.1, x.2.1)) fun (x : (Int × Unit × Int × Int × Unit) × ((List Int) × Unit)) => spec_DeepestDebt_l0 x.1.2.2.1 x.2.1 x.1.1 x.1.2.2.2.1
def spec_DeepestDebtK {R : Type} (fin : Int × Bool → Option R) (x0 : DJob) (x1 : DPlan) : Option R :=
  (spec_plBoth x0 x1).bind fun y1 =>
  cond (!y1)
  (fin (0, false))
  ((spec_woPeriods x0 x1).bind fun y2 =>
    (spec_woSums y2).bind fun y3 =>
    (spec_DeepestDebt_l0 (y3.length : Int) y3 0 0).bind fun y5 =>
    fin (IntKind.i64.wrap (0 - y5), true))
def spec_DeepestDebt (x0 : DJob) (x1 : DPlan) : Option (Int × Bool) := spec_DeepestDebtK some x0 x1
theorem p39 {R : Type} (fin : Int × Bool → Option R) (x0 : DJob) (x1 : DPlan) : Par fin (spec_DeepestDebtK some x0 x1) (spec_DeepestDebtK fin x0 x1) := by
  unfold spec_DeepestDebtK
  repeat' (first | exact .fin | exact .none | refine .cond ?_ ?_ | refine .bind fun _ => ?_ | refine .sum (fun _ => ?_) fun _ => ?_)
def or39 : Ora := { lo := addL 5 (Lspec_DeepestDebt_l0) lo0, fin := [] }
theorem spec_DeepestDebt_l0e (a1 : Int) (a3 : List Int) (k : Nat) (a0 : Int) (a2 : Int) : loopC Try.prog EL39 or39 ((loopsIn (codeOf Try.f39)).getD 0 .skip) (Lspec_DeepestDebt_l0).h (Lspec_DeepestDebt_l0).ho Try.f39.ntmps (k + 1) (sspec_DeepestDebt_l0.out ((a0, ((), (a1, (a2, ())))), (a3, ()))) =
    spec_DeepestDebt_l0K a1 a3 (fun a0 a2 => loopC Try.prog EL39 or39 ((loopsIn (codeOf Try.f39)).getD 0 .skip) (Lspec_DeepestDebt_l0).h (Lspec_DeepestDebt_l0).ho Try.f39.ntmps k (sspec_DeepestDebt_l0.out ((a0, ((), (a1, (a2, ())))), (a3, ())))) (fun y => some (XS.out xspec_DeepestDebt_l0 (a1, a3) y)) a0 a2 := by kernel_rfl
theorem spec_DeepestDebt_l0o : LoopOk Try.prog EL39 or39 Try.f39.ntmps ((loopsIn (codeOf Try.f39)).getD 0 .skip) (Lspec_DeepestDebt_l0) :=
  loop_lim (hs := sspec_DeepestDebt_l0) (xs := xspec_DeepestDebt_l0) (ι := fun (x : (Int × Unit × Int × Int × Unit) × ((List Int) × Unit)) => (x.1.2.2.1, x.2.1)) (φ := fun (x : (Int × Unit × Int × Int × Unit) × ((List Int) × Unit)) => (x.1.1, x.1.2.2.2.1)) (ψ := fun (i : Int × (List Int)) (v : Int × Int) => ((v.1, ((), (i.1, (v.2, ())))), (i.2, ()))) (F := fun (i : Int × (List Int)) => spec_DeepestDebt_l0F i.1 i.2) (fun _ => rfl) fun i k hk v => Par.of_eq (spec_DeepestDebt_l0e i.1 i.2 k v.1 v.2) (spec_DeepestDebt_l0p i.1 i.2 (fun a0 a2 => hk (a0, a2)) v.1 v.2)
def c39 : Callee := mkC [.agg [.ro TJob], .agg [.ro TPlan]] 2 [.one (.ro (.int .i64)), .one (.ro .bool)] fun x => spec_DeepestDebt x.1 x.2
theorem e39 (x : PK.dens [.agg [.ro TJob], .agg [.ro TPlan]]) : evalFn Try.prog EL39 or39 Try.f39 (PK.outs [.agg [.ro TJob], .agg [.ro TPlan]] x) =
    spec_DeepestDebtK (fun y => some (tupOf ((PK.outs [.one (.ro (.int .i64)), .one (.ro .bool)] y).take 2), (PK.outs [.one (.ro (.int .i64)), .one (.ro .bool)] y).drop 2)) x.1 x.2 := by kernel_rfl
theorem o39 : LoOk Try.prog EL39 or39 Try.f39.ntmps (loopsIn (codeOf Try.f39)) :=
  LoOk.mk (m := 1) (by kernel_rfl) fun i hi => match i, hi with
    | 0, _ => ⟨Lspec_DeepestDebt_l0, by kernel_rfl, spec_DeepestDebt_l0o⟩
    | i + 1, hi => absurd hi (by omega)
theorem k39 : CalleeOk Try.prog 39 c39 := callee_mk Try.func39 (code := codeOf Try.f39) (by kernel_rfl) vL39 mixed o39 fun x y h => (e39 x).trans (p39 _ x.1 x.2 y h)

/-- impl.DeepestDebt -/
def EL40 : Nat → Option Callee := addE 83 c83 (addE 78 c78 (addE 70 c70 env0))
theorem vL40 : EnvOk Try.prog EL40 := ((EnvOk.nil.add Try.func70 rfl (by kernel_rfl) k70).add Try.func78 rfl (by kernel_rfl) k78).add Try.func83 rfl (by kernel_rfl) k83
def simpl_DeepestDebt_l0 : LS := ⟨[(6, .one (.dat (.int .i64))), (7, .one (.dat (.int .i64))), (21, .one (.fix (.sref 0))), (22, .one (.dat (.int .i64))), (23, .one (.dat (.int .i64)))], [.sl (.int .i64)], []⟩
def simpl_DeepestDebt_l0x0 : LS := ⟨[(7, .one (.dat (.int .i64)))], [], []⟩
def ximpl_DeepestDebt_l0 : List (XS (Int × (List Int))) := [⟨.exit 0, ⟨[7], [], [], []⟩, simpl_DeepestDebt_l0x0, Int, fun i y => ((y, ()), ())⟩]
def impl_DeepestDebt_l0K {R : Type} (a2 : Int) (a4 : List Int) (rc : Int → Int → Int → Option R) (fin : Int → Option R) (a0 : Int) (a1 : Int) (a3 : Int) : Option R :=
  cond (decide (a3 < a2))
  (cond (decide ((0 : Int) ≤ a3) && decide (a3 < (a4.length : Int)))
    (rc (IntKind.i64.wrap (a0 + (a4.getD (0 + a3.toNat) 0))) (if (IntKind.i64.wrap (0 - (IntKind.i64.wrap (a0 + (a4.getD (0 + a3.toNat) 0))))) > a1 then IntKind.i64.wrap (0 - (IntKind.i64.wrap (a0 + (a4.getD (0 + a3.toNat) 0)))) else a1) (IntKind.i64.wrap (a3 + 1)))
    (none))
  (fin a1)
def impl_DeepestDebt_l0F (a2 : Int) (a4 : List Int) (r : (Int × Int × Int) → Option (Int)) (x : Int × Int × Int) : Option (Int) := impl_DeepestDebt_l0K a2 a4 (fun a0 a1 a3 => r (a0, (a1, a3))) some x.1 x.2.1 x.2.2
theorem impl_DeepestDebt_l0c (a2 : Int) (a4 : List Int) (x : Int × Int × Int) : Ct fun r => impl_DeepestDebt_l0F a2 a4 r x := by
  unfold impl_DeepestDebt_l0F impl_DeepestDebt_l0K
  repeat' (first | exact Ct.const | exact Ct.call | refine Ct.cond ?_ ?_ | refine Ct.bind ?_ fun _ => ?_ | refine Ct.sum (fun _ => ?_) fun _ => ?_)
def impl_DeepestDebt_l0 (a2 : Int) (a4 : List Int) (a0 : Int) (a1 : Int) (a3 : Int) : Option (Int) := lim (impl_DeepestDebt_l0F a2 a4) (a0, (a1, a3))
theorem impl_DeepestDebt_l0_eq (a2 : Int) (a4 : List Int) (a0 : Int) (a1 : Int) (a3 : Int) : impl_DeepestDebt_l0 a2 a4 a0 a1 a3 = impl_DeepestDebt_l0K a2 a4 (impl_DeepestDebt_l0 a2 a4) some a0 a1 a3 := lim_eq (impl_DeepestDebt_l0c a2 a4) (a0, (a1, a3))
theorem impl_DeepestDebt_l0p {R : Type} (a2 : Int) (a4 : List Int) {rc : Int → Int → Int → Option (Int)} {rc' : Int → Int → Int → Option R} {fin : Int → Option R} (hr : ∀ a0 a1 a3, Par fin (rc a0 a1 a3) (rc' a0 a1 a3)) (a0 : Int) (a1 : Int) (a3 : Int) : Par fin (impl_DeepestDebt_l0K a2 a4 rc some a0 a1 a3) (impl_DeepestDebt_l0K a2 a4 rc' fin a0 a1 a3) := by
  unfold impl_DeepestDebt_l0K
  repeat' (first | exact .fin | exact .none | exact hr _ _ _ | refine .cond ?_ ?_ | refine .bind fun _ => ?_ | refine .sum (fun _ => ?_) fun _ => ?_)
def Limpl_DeepestDebt_l0 : Loop := mkL ⟨[6, 7, 21, 22, 23], [.slot 21], [], []⟩ simpl_DeepestDebt_l0 ximpl_DeepestDebt_l0 (fun (x : (Int × Int × Unit × Int × Int × Unit) × ((List Int) × Unit)) => (x.1.2.2.2.1, x.2.1)) fun (x : (Int × Int × Unit × Int × Int × Unit) × ((List Int) × Unit)) => impl_DeepestDebt_l0 x.1.2.2.2.1 x.2.1 x.1.1 x.1.2.1 x.1.2.2.2.2.1
def impl_DeepestDebtK {R : Type} (fin : Int × Bool → Option R) (x0 : DJob) (x1 : DPlan) : Option R :=
  (impl_IsJob x0).bind fun y1 =>
  cond (!y1)
  (fin (0, false))
  ((impl_isPlan x0 x1).bind fun y2 =>
    cond (!y2)
    (fin (0, false))
    ((impl_periodWorths x0 x1).bind fun y3 =>
      (impl_DeepestDebt_l0 (y3.length : Int) y3 0 0 0).bind fun y4 =>
      fin (y4, true)))
def impl_DeepestDebt (x0 : DJob) (x1 : DPlan) : Option (Int × Bool) := impl_DeepestDebtK some x0 x1
theorem p40 {R : Type} (fin : Int × Bool → Option R) (x0 : DJob) (x1 : DPlan) : Par fin (impl_DeepestDebtK some x0 x1) (impl_DeepestDebtK fin x0 x1) := by
  unfold impl_DeepestDebtK
  repeat' (first | exact .fin | exact .none | refine .cond ?_ ?_ | refine .bind fun _ => ?_ | refine .sum (fun _ => ?_) fun _ => ?_)
def or40 : Ora := { lo := addL 5 (Limpl_DeepestDebt_l0) lo0, fin := [] }
theorem impl_DeepestDebt_l0e (a2 : Int) (a4 : List Int) (k : Nat) (a0 : Int) (a1 : Int) (a3 : Int) : loopC Try.prog EL40 or40 ((loopsIn (codeOf Try.f40)).getD 0 .skip) (Limpl_DeepestDebt_l0).h (Limpl_DeepestDebt_l0).ho Try.f40.ntmps (k + 1) (simpl_DeepestDebt_l0.out ((a0, (a1, ((), (a2, (a3, ()))))), (a4, ()))) =
    impl_DeepestDebt_l0K a2 a4 (fun a0 a1 a3 => loopC Try.prog EL40 or40 ((loopsIn (codeOf Try.f40)).getD 0 .skip) (Limpl_DeepestDebt_l0).h (Limpl_DeepestDebt_l0).ho Try.f40.ntmps k (simpl_DeepestDebt_l0.out ((a0, (a1, ((), (a2, (a3, ()))))), (a4, ())))) (fun y => some (XS.out ximpl_DeepestDebt_l0 (a2, a4) y)) a0 a1 a3 := by kernel_rfl
theorem impl_DeepestDebt_l0o : LoopOk Try.prog EL40 or40 Try.f40.ntmps ((loopsIn (codeOf Try.f40)).getD 0 .skip) (Limpl_DeepestDebt_l0) :=
  loop_lim (hs := simpl_DeepestDebt_l0) (xs := ximpl_DeepestDebt_l0) (ι := fun (x : (Int × Int × Unit × Int × Int × Unit) × ((List Int) × Unit)) => (x.1.2.2.2.1, x.2.1)) (φ := fun (x : (Int × Int × Unit × Int × Int × Unit) × ((List Int) × Unit)) => (x.1.1, (x.1.2.1, x.1.2.2.2.2.1))) (ψ := fun (i : Int × (List Int)) (v : Int × Int × Int) => ((v.1, (v.2.1, ((), (i.1, (v.2.2, ()))))), (i.2, ()))) (F := fun (i : Int × (List Int)) => impl_DeepestDebt_l0F i.1 i.2) (fun _ => rfl) fun i k hk v => Par.of_eq (impl_DeepestDebt_l0e i.1 i.2 k v.1 v.2.1 v.2.2) (impl_DeepestDebt_l0p i.1 i.2 (fun a0 a1 a3 => hk (a0, (a1, a3))) v.1 v.2.1 v.2.2)
def c40 : Callee := mkC [.agg [.ro TJob], .agg [.ro TPlan]] 2 [.one (.ro (.int .i64)), .one (.ro .bool)] fun x => impl_DeepestDebt x.1 x.2
theorem e40 (x : PK.dens [.agg [.ro TJob], .agg [.ro TPlan]]) : evalFn Try.prog EL40 or40 Try.f40 (PK.outs [.agg [.ro TJob], .agg [.ro TPlan]] x) =
    impl_DeepestDebtK (fun y => some (tupOf ((PK.outs [.one (.ro (.int .i64)), .one (.ro .bool)] y).take 2), (PK.outs [.one (.ro (.int .i64)), .one (.ro .bool)] y).drop 2)) x.1 x.2 := by kernel_rfl
theorem o40 : LoOk Try.prog EL40 or40 Try.f40.ntmps (loopsIn (codeOf Try.f40)) :=
  LoOk.mk (m := 1) (by kernel_rfl) fun i hi => match i, hi with
    | 0, _ => ⟨Limpl_DeepestDebt_l0, by kernel_rfl, impl_DeepestDebt_l0o⟩
    | i + 1, hi => absurd hi (by omega)
theorem k40 : CalleeOk Try.prog 40 c40 := callee_mk Try.func40 (code := codeOf Try.f40) (by kernel_rfl) vL40 mixed o40 fun x y h => (e40 x).trans (p40 _ x.1 x.2 y h)

/-- laws.FnExactDeepestDebt -/
def EL7 : Nat → Option Callee := addE 30 c30 (addE 24 c24 (addE 40 c40 (addE 39 c39 (addE 28 c28 (addE 21 c21 (addE 26 c26 (addE 19 c19 env0)))))))
theorem vL7 : EnvOk Try.prog EL7 := (((((((EnvOk.nil.add Try.func19 rfl (by kernel_rfl) k19).add Try.func26 rfl (by kernel_rfl) k26).add Try.func21 rfl (by kernel_rfl) k21).add Try.func28 rfl (by kernel_rfl) k28).add Try.func39 rfl (by kernel_rfl) k39).add Try.func40 rfl (by kernel_rfl) k40).add Try.func24 rfl (by kernel_rfl) k24).add Try.func30 rfl (by kernel_rfl) k30
def laws_FnExactDeepestDebtK {R : Type} (fin : Bool → Option R) (x0 : DJob) (x1 : DPlan) : Option R :=
  (laws_szJob x0 1048576).bind fun y1 =>
  cond (decide (y1 < 0))
  (fin true)
  ((laws_szPlan x1 y1).bind fun y2 =>
    cond (decide (y2 < 0))
    (fin true)
    ((laws_toJob x0).bind fun y3 =>
      (laws_toPlan x1).bind fun y4 =>
      (spec_DeepestDebt (y3.1, (y3.2.1, (y3.2.2.1, ((y3.2.2.2.1, (y3.2.2.2.2.1, ())), (y3.2.2.2.2.2.1, (y3.2.2.2.2.2.2.1, (y3.2.2.2.2.2.2.2, ()))))))) (y4.1, (y4.2, ()))).bind fun y5 =>
      (laws_toJob x0).bind fun y6 =>
      (laws_toPlan x1).bind fun y7 =>
      (impl_DeepestDebt (y6.1, (y6.2.1, (y6.2.2.1, ((y6.2.2.2.1, (y6.2.2.2.2.1, ())), (y6.2.2.2.2.2.1, (y6.2.2.2.2.2.2.1, (y6.2.2.2.2.2.2.2, ()))))))) (y7.1, (y7.2, ()))).bind fun y8 =>
      cond (y8.1 != y5.1)
      (fin false)
      (cond (!(y8.2 == y5.2))
        (fin false)
        ((laws_toJob x0).bind fun y9 =>
          (laws_eqJob (y6.1, (y6.2.1, (y6.2.2.1, ((y6.2.2.2.1, (y6.2.2.2.2.1, ())), (y6.2.2.2.2.2.1, (y6.2.2.2.2.2.2.1, (y6.2.2.2.2.2.2.2, ()))))))) (y9.1, (y9.2.1, (y9.2.2.1, ((y9.2.2.2.1, (y9.2.2.2.2.1, ())), (y9.2.2.2.2.2.1, (y9.2.2.2.2.2.2.1, (y9.2.2.2.2.2.2.2, ())))))))).bind fun y10 =>
          cond (!y10)
          (fin false)
          ((laws_toPlan x1).bind fun y11 =>
            (laws_eqPlan (y7.1, (y7.2, ())) (y11.1, (y11.2, ()))).bind fun y12 =>
            cond (!y12)
            (fin false)
            (fin true))))))
def laws_FnExactDeepestDebt (x0 : DJob) (x1 : DPlan) : Option (Bool) := laws_FnExactDeepestDebtK some x0 x1
theorem p7 {R : Type} (fin : Bool → Option R) (x0 : DJob) (x1 : DPlan) : Par fin (laws_FnExactDeepestDebtK some x0 x1) (laws_FnExactDeepestDebtK fin x0 x1) := by
  unfold laws_FnExactDeepestDebtK
  repeat' (first | exact .fin | exact .none | refine .cond ?_ ?_ | refine .bind fun _ => ?_ | refine .sum (fun _ => ?_) fun _ => ?_)
def c7 : Callee := mkC [.agg [.ro TJob], .agg [.ro TPlan]] 1 [.one (.ro .bool)] fun x => laws_FnExactDeepestDebt x.1 x.2
theorem e7 (x : PK.dens [.agg [.ro TJob], .agg [.ro TPlan]]) : evalFn Try.prog EL7 or0 Try.f7 (PK.outs [.agg [.ro TJob], .agg [.ro TPlan]] x) =
    laws_FnExactDeepestDebtK (fun y => some (tupOf ((PK.outs [.one (.ro .bool)] y).take 1), (PK.outs [.one (.ro .bool)] y).drop 1)) x.1 x.2 := by kernel_rfl
theorem k7 : CalleeOk Try.prog 7 c7 := callee_mk Try.func7 (code := codeOf Try.f7) (by kernel_rfl) vL7 mixed (LoOk.nil (by kernel_rfl)) fun x y h => (e7 x).trans (p7 _ x.1 x.2 y h)
end
end Go.OAI
