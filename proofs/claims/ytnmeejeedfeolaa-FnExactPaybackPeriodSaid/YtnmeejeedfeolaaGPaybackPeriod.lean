/- Contracts: GPaybackPeriod. -/
import Derived.Test.YtnmeejeedfeolaaGA
import Derived.Test.YtnmeejeedfeolaaGW
namespace Go.OAI
open Go.Proofs
set_option linter.unusedVariables false
noncomputable section


/-- spec.PaybackPeriod -/
def EL37 : Nat → Option Callee := addE 80 c80 (addE 82 c82 (addE 74 c74 env0))
theorem vL37 : EnvOk Try.prog EL37 := ((EnvOk.nil.add Try.func74 rfl (by kernel_rfl) k74).add Try.func82 rfl (by kernel_rfl) k82).add Try.func80 rfl (by kernel_rfl) k80
def sspec_PaybackPeriod_l0 : LS := ⟨[(15, .one (.fix (.sref 0))), (16, .one (.dat (.int .i64))), (17, .one (.dat (.int .i64)))], [.sl (.int .i64)], []⟩
def sspec_PaybackPeriod_l0x0 : LS := ⟨[(4, .one (.dat (.int .i64))), (5, .one (.dat .bool))], [], []⟩
def sspec_PaybackPeriod_l0x1 : LS := ⟨[], [], []⟩
def xspec_PaybackPeriod_l0 : List (XS (Int × (List Int))) := [⟨.ret, ⟨[4, 5], [], [], []⟩, sspec_PaybackPeriod_l0x0, Int × Bool, fun i y => ((y.1, (y.2, ())), ())⟩,
  ⟨.exit 0, ⟨[], [], [], []⟩, sspec_PaybackPeriod_l0x1, Unit, fun i y => ((), ())⟩]
def spec_PaybackPeriod_l0K {R : Type} (a0 : Int) (a2 : List Int) (rc : Int → Option R) (fin : ((Int × Bool) ⊕ Unit) → Option R) (a1 : Int) : Option R :=
  cond (decide (a1 < a0))
  (cond (decide ((0 : Int) ≤ a1) && decide (a1 < (a2.length : Int)))
    (cond (decide ((a2.getD (0 + a1.toNat) 0) > 0))
      (fin (.inl (a1, true)))
      (rc (IntKind.i64.wrap (a1 + 1))))
    (none))
  (fin (.inr ()))
def spec_PaybackPeriod_l0F (a0 : Int) (a2 : List Int) (r : Int → Option ((Int × Bool) ⊕ Unit)) (x : Int) : Option ((Int × Bool) ⊕ Unit) := spec_PaybackPeriod_l0K a0 a2 (fun a1 => r a1) some x
theorem spec_PaybackPeriod_l0c (a0 : Int) (a2 : List Int) (x : Int) : Ct fun r => spec_PaybackPeriod_l0F a0 a2 r x := by
  unfold spec_PaybackPeriod_l0F spec_PaybackPeriod_l0K
  repeat' (first | exact Ct.const | exact Ct.call | refine Ct.cond ?_ ?_ | refine Ct.bind ?_ fun _ => ?_ | refine Ct.sum (fun _ => ?_) fun _ => ?_)
def spec_PaybackPeriod_l0 (a0 : Int) (a2 : List Int) (a1 : Int) : Option ((Int × Bool) ⊕ Unit) := lim (spec_PaybackPeriod_l0F a0 a2) a1
theorem spec_PaybackPeriod_l0_eq (a0 : Int) (a2 : List Int) (a1 : Int) : spec_PaybackPeriod_l0 a0 a2 a1 = spec_PaybackPeriod_l0K a0 a2 (spec_PaybackPeriod_l0 a0 a2) some a1 := lim_eq (spec_PaybackPeriod_l0c a0 a2) a1
theorem spec_PaybackPeriod_l0p {R : Type} (a0 : Int) (a2 : List Int) {rc : Int → Option ((Int × Bool) ⊕ Unit)} {rc' : Int → Option R} {fin : ((Int × Bool) ⊕ Unit) → Option R} (hr : ∀ a1, Par fin (rc a1) (rc' a1)) (a1 : Int) : Par fin (spec_PaybackPeriod_l0K a0 a2 rc some a1) (spec_PaybackPeriod_l0K a0 a2 rc' fin a1) := by
  unfold spec_PaybackPeriod_l0K
  repeat' (first | exact .fin | exact .none | exact hr _ | refine .cond ?_ ?_ | refine .bind fun _ => ?_ | refine .sum (fun _ => ?_) fun _ => ?_)
def Lspec_PaybackPeriod_l0 : Loop := mkL ⟨[15, 16, 17], [.slot 15], [], []⟩ sspec_PaybackPeriod_l0 xspec_PaybackPeriod_l0 (fun (x : (Unit × Int × Int × Unit) × ((List Int) × Unit)) => (x.1.2.1, x.2.1)) fun (x : (Unit × Int × Int × Unit) × ((List Int) × Unit)) => spec_PaybackPeriod_l0 x.1.2.1 x.2.1 x.1.2.2.1
def spec_PaybackPeriodK {R : Type} (fin : Int × Bool → Option R) (x0 : DJob) (x1 : DPlan) : Option R :=
  (spec_plBoth x0 x1).bind fun y1 =>
  cond (!y1)
  (fin (0, false))
  ((spec_woPeriods x0 x1).bind fun y2 =>
    (spec_woSums y2).bind fun y3 =>
    (spec_PaybackPeriod_l0 (y3.length : Int) y3 0).bind fun y4 =>
    sumO y4 (fun y5 =>
    fin y5)
    (fun y6 =>
    fin (0, false)))
def spec_PaybackPeriod (x0 : DJob) (x1 : DPlan) : Option (Int × Bool) := spec_PaybackPeriodK some x0 x1
theorem p37 {R : Type} (fin : Int × Bool → Option R) (x0 : DJob) (x1 : DPlan) : Par fin (spec_PaybackPeriodK some x0 x1) (spec_PaybackPeriodK fin x0 x1) := by
  unfold spec_PaybackPeriodK
  repeat' (first | exact .fin | exact .none | refine .cond ?_ ?_ | refine .bind fun _ => ?_ | refine .sum (fun _ => ?_) fun _ => ?_)
def or37 : Ora := { lo := addL 4 (Lspec_PaybackPeriod_l0) lo0, fin := [] }
theorem spec_PaybackPeriod_l0e (a0 : Int) (a2 : List Int) (k : Nat) (a1 : Int) : loopC Try.prog EL37 or37 ((loopsIn (codeOf Try.f37)).getD 0 .skip) (Lspec_PaybackPeriod_l0).h (Lspec_PaybackPeriod_l0).ho Try.f37.ntmps (k + 1) (sspec_PaybackPeriod_l0.out (((), (a0, (a1, ()))), (a2, ()))) =
    spec_PaybackPeriod_l0K a0 a2 (fun a1 => loopC Try.prog EL37 or37 ((loopsIn (codeOf Try.f37)).getD 0 .skip) (Lspec_PaybackPeriod_l0).h (Lspec_PaybackPeriod_l0).ho Try.f37.ntmps k (sspec_PaybackPeriod_l0.out (((), (a0, (a1, ()))), (a2, ())))) (fun y => some (XS.out xspec_PaybackPeriod_l0 (a0, a2) y)) a1 := by kernel_rfl
theorem spec_PaybackPeriod_l0o : LoopOk Try.prog EL37 or37 Try.f37.ntmps ((loopsIn (codeOf Try.f37)).getD 0 .skip) (Lspec_PaybackPeriod_l0) :=
  loop_lim (hs := sspec_PaybackPeriod_l0) (xs := xspec_PaybackPeriod_l0) (ι := fun (x : (Unit × Int × Int × Unit) × ((List Int) × Unit)) => (x.1.2.1, x.2.1)) (φ := fun (x : (Unit × Int × Int × Unit) × ((List Int) × Unit)) => x.1.2.2.1) (ψ := fun (i : Int × (List Int)) (v : Int) => (((), (i.1, (v, ()))), (i.2, ()))) (F := fun (i : Int × (List Int)) => spec_PaybackPeriod_l0F i.1 i.2) (fun _ => rfl) fun i k hk v => Par.of_eq (spec_PaybackPeriod_l0e i.1 i.2 k v) (spec_PaybackPeriod_l0p i.1 i.2 (fun a1 => hk a1) v)
def c37 : Callee := mkC [.agg [.ro TJob], .agg [.ro TPlan]] 2 [.one (.ro (.int .i64)), .one (.ro .bool)] fun x => spec_PaybackPeriod x.1 x.2
theorem e37 (x : PK.dens [.agg [.ro TJob], .agg [.ro TPlan]]) : evalFn Try.prog EL37 or37 Try.f37 (PK.outs [.agg [.ro TJob], .agg [.ro TPlan]] x) =
    spec_PaybackPeriodK (fun y => some (tupOf ((PK.outs [.one (.ro (.int .i64)), .one (.ro .bool)] y).take 2), (PK.outs [.one (.ro (.int .i64)), .one (.ro .bool)] y).drop 2)) x.1 x.2 := by kernel_rfl
theorem o37 : LoOk Try.prog EL37 or37 Try.f37.ntmps (loopsIn (codeOf Try.f37)) :=
  LoOk.mk (m := 1) (by kernel_rfl) fun i hi => match i, hi with
    | 0, _ => ⟨Lspec_PaybackPeriod_l0, by kernel_rfl, spec_PaybackPeriod_l0o⟩
    | i + 1, hi => absurd hi (by omega)
theorem k37 : CalleeOk Try.prog 37 c37 := callee_mk Try.func37 (code := codeOf Try.f37) (by kernel_rfl) vL37 mixed o37 fun x y h => (e37 x).trans (p37 _ x.1 x.2 y h)

/-- impl.PaybackPeriod -/
def EL38 : Nat → Option Callee := addE 83 c83 (addE 78 c78 (addE 70 c70 env0))
theorem vL38 : EnvOk Try.prog EL38 := ((EnvOk.nil.add Try.func70 rfl (by kernel_rfl) k70).add Try.func78 rfl (by kernel_rfl) k78).add Try.func83 rfl (by kernel_rfl) k83
def simpl_PaybackPeriod_l0 : LS := ⟨[(6, .one (.dat (.int .i64))), (20, .one (.fix (.sref 0))), (21, .one (.dat (.int .i64))), (22, .one (.dat (.int .i64)))], [.sl (.int .i64)], []⟩
def simpl_PaybackPeriod_l0x0 : LS := ⟨[(4, .one (.dat (.int .i64))), (5, .one (.dat .bool))], [], []⟩
def simpl_PaybackPeriod_l0x1 : LS := ⟨[], [], []⟩
def ximpl_PaybackPeriod_l0 : List (XS (Int × (List Int))) := [⟨.ret, ⟨[4, 5], [], [], []⟩, simpl_PaybackPeriod_l0x0, Int × Bool, fun i y => ((y.1, (y.2, ())), ())⟩,
  ⟨.exit 0, ⟨[], [], [], []⟩, simpl_PaybackPeriod_l0x1, Unit, fun i y => ((), ())⟩]
def impl_PaybackPeriod_l0K {R : Type} (a1 : Int) (a3 : List Int) (rc : Int → Int → Option R) (fin : ((Int × Bool) ⊕ Unit) → Option R) (a0 : Int) (a2 : Int) : Option R :=
  cond (decide (a2 < a1))
  (cond (decide ((0 : Int) ≤ a2) && decide (a2 < (a3.length : Int)))
    (cond (decide ((IntKind.i64.wrap (a0 + (a3.getD (0 + a2.toNat) 0))) > 0))
      (fin (.inl (a2, true)))
      (rc (IntKind.i64.wrap (a0 + (a3.getD (0 + a2.toNat) 0))) (IntKind.i64.wrap (a2 + 1))))
    (none))
  (fin (.inr ()))
def impl_PaybackPeriod_l0F (a1 : Int) (a3 : List Int) (r : (Int × Int) → Option ((Int × Bool) ⊕ Unit)) (x : Int × Int) : Option ((Int × Bool) ⊕ Unit) := impl_PaybackPeriod_l0K a1 a3 (fun a0 a2 => r (a0, a2)) some x.1 x.2
theorem impl_PaybackPeriod_l0c (a1 : Int) (a3 : List Int) (x : Int × Int) : Ct fun r => impl_PaybackPeriod_l0F a1 a3 r x := by
  unfold impl_PaybackPeriod_l0F impl_PaybackPeriod_l0K
  repeat' (first | exact Ct.const | exact Ct.call | refine Ct.cond ?_ ?_ | refine Ct.bind ?_ fun _ => ?_ | refine Ct.sum (fun _ => ?_) fun _ => ?_)
def impl_PaybackPeriod_l0 (a1 : Int) (a3 : List Int) (a0 : Int) (a2 : Int) : Option ((Int × Bool) ⊕ Unit) := lim (impl_PaybackPeriod_l0F a1 a3) (a0, a2)
theorem impl_PaybackPeriod_l0_eq (a1 : Int) (a3 : List Int) (a0 : Int) (a2 : Int) : impl_PaybackPeriod_l0 a1 a3 a0 a2 = impl_PaybackPeriod_l0K a1 a3 (impl_PaybackPeriod_l0 a1 a3) some a0 a2 := lim_eq (impl_PaybackPeriod_l0c a1 a3) (a0, a2)
theorem impl_PaybackPeriod_l0p {R : Type} (a1 : Int) (a3 : List Int) {rc : Int → Int → Option ((Int × Bool) ⊕ Unit)} {rc' : Int → Int → Option R} {fin : ((Int × Bool) ⊕ Unit) → Option R} (hr : ∀ a0 a2, Par fin (rc a0 a2) (rc' a0 a2)) (a0 : Int) (a2 : Int) : Par fin (impl_PaybackPeriod_l0K a1 a3 rc some a0 a2) (impl_PaybackPeriod_l0K a1 a3 rc' fin a0 a2) := by
  unfold impl_PaybackPeriod_l0K
  repeat' (first | exact .fin | exact .none | exact hr _ _ | refine .cond ?_ ?_ | refine .bind fun _ => ?_ | refine .sum (fun _ => ?_) fun _ => ?_)
def Limpl_PaybackPeriod_l0 : Loop := mkL ⟨[6, 20, 21, 22], [.slot 20], [], []⟩ simpl_PaybackPeriod_l0 ximpl_PaybackPeriod_l0 (fun (x : (Int × Unit × Int × Int × Unit) × ((List Int) × Unit)) => (x.1.2.2.1, x.2.1)) fun (x : (Int × Unit × Int × Int × Unit) × ((List Int) × Unit)) => impl_PaybackPeriod_l0 x.1.2.2.1 x.2.1 x.1.1 x.1.2.2.2.1
def impl_PaybackPeriodK {R : Type} (fin : Int × Bool → Option R) (x0 : DJob) (x1 : DPlan) : Option R :=
  (impl_IsJob x0).bind fun y1 =>
  cond (!y1)
  (fin (0, false))
  ((impl_isPlan x0 x1).bind fun y2 =>
    cond (!y2)
    (fin (0, false))
    ((impl_periodWorths x0 x1).bind fun y3 =>
      (impl_PaybackPeriod_l0 (y3.length : Int) y3 0 0).bind fun y4 =>
      sumO y4 (fun y5 =>
      fin y5)
      (fun y6 =>
      fin (0, false))))
def impl_PaybackPeriod (x0 : DJob) (x1 : DPlan) : Option (Int × Bool) := impl_PaybackPeriodK some x0 x1
theorem p38 {R : Type} (fin : Int × Bool → Option R) (x0 : DJob) (x1 : DPlan) : Par fin (impl_PaybackPeriodK some x0 x1) (impl_PaybackPeriodK fin x0 x1) := by
  unfold impl_PaybackPeriodK
  repeat' (first | exact .fin | exact .none | refine .cond ?_ ?_ | refine .bind fun _ => ?_ | refine .sum (fun _ => ?_) fun _ => ?_)
def or38 : Ora := { lo := addL 5 (Limpl_PaybackPeriod_l0) lo0, fin := [] }
theorem impl_PaybackPeriod_l0e (a1 : Int) (a3 : List Int) (k : Nat) (a0 : Int) (a2 : Int) : loopC Try.prog EL38 or38 ((loopsIn (codeOf Try.f38)).getD 0 .skip) (Limpl_PaybackPeriod_l0).h (Limpl_PaybackPeriod_l0).ho Try.f38.ntmps (k + 1) (simpl_PaybackPeriod_l0.out ((a0, ((), (a1, (a2, ())))), (a3, ()))) =
    impl_PaybackPeriod_l0K a1 a3 (fun a0 a2 => loopC Try.prog EL38 or38 ((loopsIn (codeOf Try.f38)).getD 0 .skip) (Limpl_PaybackPeriod_l0).h (Limpl_PaybackPeriod_l0).ho Try.f38.ntmps k (simpl_PaybackPeriod_l0.out ((a0, ((), (a1, (a2, ())))), (a3, ())))) (fun y => some (XS.out ximpl_PaybackPeriod_l0 (a1, a3) y)) a0 a2 := by kernel_rfl
theorem impl_PaybackPeriod_l0o : LoopOk Try.prog EL38 or38 Try.f38.ntmps ((loopsIn (codeOf Try.f38)).getD 0 .skip) (Limpl_PaybackPeriod_l0) :=
  loop_lim (hs := simpl_PaybackPeriod_l0) (xs := ximpl_PaybackPeriod_l0) (ι := fun (x : (Int × Unit × Int × Int × Unit) × ((List Int) × Unit)) => (x.1.2.2.1, x.2.1)) (φ := fun (x : (Int × Unit × Int × Int × Unit) × ((List Int) × Unit)) => (x.1.1, x.1.2.2.2.1)) (ψ := fun (i : Int × (List Int)) (v : Int × Int) => ((v.1, ((), (i.1, (v.2, ())))), (i.2, ()))) (F := fun (i : Int × (List Int)) => impl_PaybackPeriod_l0F i.1 i.2) (fun _ => rfl) fun i k hk v => Par.of_eq (impl_PaybackPeriod_l0e i.1 i.2 k v.1 v.2) (impl_PaybackPeriod_l0p i.1 i.2 (fun a0 a2 => hk (a0, a2)) v.1 v.2)
def c38 : Callee := mkC [.agg [.ro TJob], .agg [.ro TPlan]] 2 [.one (.ro (.int .i64)), .one (.ro .bool)] fun x => impl_PaybackPeriod x.1 x.2
theorem e38 (x : PK.dens [.agg [.ro TJob], .agg [.ro TPlan]]) : evalFn Try.prog EL38 or38 Try.f38 (PK.outs [.agg [.ro TJob], .agg [.ro TPlan]] x) =
    impl_PaybackPeriodK (fun y => some (tupOf ((PK.outs [.one (.ro (.int .i64)), .one (.ro .bool)] y).take 2), (PK.outs [.one (.ro (.int .i64)), .one (.ro .bool)] y).drop 2)) x.1 x.2 := by kernel_rfl
theorem o38 : LoOk Try.prog EL38 or38 Try.f38.ntmps (loopsIn (codeOf Try.f38)) :=
  LoOk.mk (m := 1) (by kernel_rfl) fun i hi => match i, hi with
    | 0, _ => ⟨Limpl_PaybackPeriod_l0, by kernel_rfl, impl_PaybackPeriod_l0o⟩
    | i + 1, hi => absurd hi (by omega)
theorem k38 : CalleeOk Try.prog 38 c38 := callee_mk Try.func38 (code := codeOf Try.f38) (by kernel_rfl) vL38 mixed o38 fun x y h => (e38 x).trans (p38 _ x.1 x.2 y h)

/-- laws.FnExactPaybackPeriod -/
def EL6 : Nat → Option Callee := addE 30 c30 (addE 24 c24 (addE 38 c38 (addE 37 c37 (addE 28 c28 (addE 21 c21 (addE 26 c26 (addE 19 c19 env0)))))))
theorem vL6 : EnvOk Try.prog EL6 := (((((((EnvOk.nil.add Try.func19 rfl (by kernel_rfl) k19).add Try.func26 rfl (by kernel_rfl) k26).add Try.func21 rfl (by kernel_rfl) k21).add Try.func28 rfl (by kernel_rfl) k28).add Try.func37 rfl (by kernel_rfl) k37).add Try.func38 rfl (by kernel_rfl) k38).add Try.func24 rfl (by kernel_rfl) k24).add Try.func30 rfl (by kernel_rfl) k30
def laws_FnExactPaybackPeriodK {R : Type} (fin : Bool → Option R) (x0 : DJob) (x1 : DPlan) : Option R :=
  (laws_szJob x0 1048576).bind fun y1 =>
  cond (decide (y1 < 0))
  (fin true)
  ((laws_szPlan x1 y1).bind fun y2 =>
    cond (decide (y2 < 0))
    (fin true)
    ((laws_toJob x0).bind fun y3 =>
      (laws_toPlan x1).bind fun y4 =>
      (spec_PaybackPeriod (y3.1, (y3.2.1, (y3.2.2.1, ((y3.2.2.2.1, (y3.2.2.2.2.1, ())), (y3.2.2.2.2.2.1, (y3.2.2.2.2.2.2.1, (y3.2.2.2.2.2.2.2, ()))))))) (y4.1, (y4.2, ()))).bind fun y5 =>
      (laws_toJob x0).bind fun y6 =>
      (laws_toPlan x1).bind fun y7 =>
      (impl_PaybackPeriod (y6.1, (y6.2.1, (y6.2.2.1, ((y6.2.2.2.1, (y6.2.2.2.2.1, ())), (y6.2.2.2.2.2.1, (y6.2.2.2.2.2.2.1, (y6.2.2.2.2.2.2.2, ()))))))) (y7.1, (y7.2, ()))).bind fun y8 =>
      cond (y8.1 != y5.1)
      (fin false)
      (cond (!(y8.2 == y5.2))
        (fin false)
        ((laws_toJob x0).bind fun y9 =>
          (laws_eqJob (y6.1, (y6.2.1, (y6.2.2.1, ((y6.2.2.2.1, (y6.2.2.2.2.1, ())), (y6.2.2.2.2.2.1, (y6.2.2.2.2.2.2.1, (y6.2.2.2.2.2.2.2, ()))))))) (y9.1, (y9.2.1, (y9.2.2.1, ((y9.2.2.2.1, (y9.2.2.2.2.1, ())), (y9.2.2.2.2.2.1, (y9.2.2.2.2.2.2.1, (y9.2.2.2.2.2.2.2, ())))))))).bind fun y10 =>
          cond (!y10)
          (fin false)
          ((laws_toPlan x1).bind fun y11 =>
            (laws_eqPlan (y7.1, (y7.2, ())) (y11.1, (y11.2, ()))).bind fun y12 =>
            cond (!y12)
            (fin false)
            (fin true))))))
def laws_FnExactPaybackPeriod (x0 : DJob) (x1 : DPlan) : Option (Bool) := laws_FnExactPaybackPeriodK some x0 x1
theorem p6 {R : Type} (fin : Bool → Option R) (x0 : DJob) (x1 : DPlan) : Par fin (laws_FnExactPaybackPeriodK some x0 x1) (laws_FnExactPaybackPeriodK fin x0 x1) := by
  unfold laws_FnExactPaybackPeriodK
  repeat' (first | exact .fin | exact .none | refine .cond ?_ ?_ | refine .bind fun _ => ?_ | refine .sum (fun _ => ?_) fun _ => ?_)
def c6 : Callee := mkC [.agg [.ro TJob], .agg [.ro TPlan]] 1 [.one (.ro .bool)] fun x => laws_FnExactPaybackPeriod x.1 x.2
theorem e6 (x : PK.dens [.agg [.ro TJob], .agg [.ro TPlan]]) : evalFn Try.prog EL6 or0 Try.f6 (PK.outs [.agg [.ro TJob], .agg [.ro TPlan]] x) =
    laws_FnExactPaybackPeriodK (fun y => some (tupOf ((PK.outs [.one (.ro .bool)] y).take 1), (PK.outs [.one (.ro .bool)] y).drop 1)) x.1 x.2 := by kernel_rfl
theorem k6 : CalleeOk Try.prog 6 c6 := callee_mk Try.func6 (code := codeOf Try.f6) (by kernel_rfl) vL6 mixed (LoOk.nil (by kernel_rfl)) fun x y h => (e6 x).trans (p6 _ x.1 x.2 y h)
end
end Go.OAI
