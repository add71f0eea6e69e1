/- Contracts: GW. -/
import Derived.Test.YtokaffjipngphaaGA
namespace Go.OAI
open Go.Proofs
set_option linter.unusedVariables false
noncomputable section


/-- impl.power -/
def EL54 : Nat → Option Callee := env0
theorem vL54 : EnvOk Try.prog EL54 := EnvOk.nil
def simpl_power_l0 : LS := ⟨[(0, .one (.dat (.int .i64))), (1, .one (.dat (.int .i64))), (5, .one (.dat (.int .i64)))], [], []⟩
def simpl_power_l0x0 : LS := ⟨[(5, .one (.dat (.int .i64)))], [], []⟩
def ximpl_power_l0 : List (XS (Int)) := [⟨.exit 0, ⟨[5], [], [], []⟩, simpl_power_l0x0, Int, fun i y => ((y, ()), ())⟩]
def impl_power_l0K {R : Type} (a0 : Int) (rc : Int → Int → Option R) (fin : Int → Option R) (a1 : Int) (a2 : Int) : Option R :=
  cond (decide (a1 > 0))
  (rc (IntKind.i64.wrap (a1 - 1)) (IntKind.i64.wrap (a2 * a0)))
  (fin a2)
def impl_power_l0F (a0 : Int) (r : (Int × Int) → Option (Int)) (x : Int × Int) : Option (Int) := impl_power_l0K a0 (fun a1 a2 => r (a1, a2)) some x.1 x.2
theorem impl_power_l0c (a0 : Int) (x : Int × Int) : Ct fun r => impl_power_l0F a0 r x := by
  unfold impl_power_l0F impl_power_l0K
  repeat' (first | exact Ct.const | exact Ct.call | refine Ct.cond ?_ ?_ | refine Ct.bind ?_ fun _ => ?_ | refine Ct.sum (fun _ => ?_) fun _ => ?_)
def impl_power_l0 (a0 : Int) (a1 : Int) (a2 : Int) : Option (Int) := lim (impl_power_l0F a0) (a1, a2)
theorem impl_power_l0_eq (a0 : Int) (a1 : Int) (a2 : Int) : impl_power_l0 a0 a1 a2 = impl_power_l0K a0 (impl_power_l0 a0) some a1 a2 := lim_eq (impl_power_l0c a0) (a1, a2)
theorem impl_power_l0p {R : Type} (a0 : Int) {rc : Int → Int → Option (Int)} {rc' : Int → Int → Option R} {fin : Int → Option R} (hr : ∀ a1 a2, Par fin (rc a1 a2) (rc' a1 a2)) (a1 : Int) (a2 : Int) : Par fin (impl_power_l0K a0 rc some a1 a2) (impl_power_l0K a0 rc' fin a1 a2) := by
  unfold impl_power_l0K
  repeat' (first | exact .fin | exact .none | exact hr _ _ | refine .cond ?_ ?_ | refine .bind fun _ => ?_ | refine .sum (fun _ => ?_) fun _ => ?_)
def Limpl_power_l0 : Loop := mkL ⟨[0, 1, 5], [], [], []⟩ simpl_power_l0 ximpl_power_l0 (fun (x : (Int × Int × Int × Unit) × (Unit)) => x.1.1) fun (x : (Int × Int × Int × Unit) × (Unit)) => impl_power_l0 x.1.1 x.1.2.1 x.1.2.2.1
def impl_powerK {R : Type} (fin : Int → Option R) (x0 : Int) (x1 : Int) : Option R :=
  (impl_power_l0 x0 x1 1).bind fun y1 =>
  fin y1
def impl_power (x0 : Int) (x1 : Int) : Option (Int) := impl_powerK some x0 x1
theorem p54 {R : Type} (fin : Int → Option R) (x0 : Int) (x1 : Int) : Par fin (impl_powerK some x0 x1) (impl_powerK fin x0 x1) := by
  unfold impl_powerK
  repeat' (first | exact .fin | exact .none | refine .cond ?_ ?_ | refine .bind fun _ => ?_ | refine .sum (fun _ => ?_) fun _ => ?_)
def or54 : Ora := { lo := addL 2 (Limpl_power_l0) lo0, fin := [] }
theorem impl_power_l0e (a0 : Int) (k : Nat) (a1 : Int) (a2 : Int) : loopC Try.prog EL54 or54 ((loopsIn (codeOf Try.f54)).getD 0 .skip) (Limpl_power_l0).h (Limpl_power_l0).ho Try.f54.ntmps (k + 1) (simpl_power_l0.out ((a0, (a1, (a2, ()))), ())) =
    impl_power_l0K a0 (fun a1 a2 => loopC Try.prog EL54 or54 ((loopsIn (codeOf Try.f54)).getD 0 .skip) (Limpl_power_l0).h (Limpl_power_l0).ho Try.f54.ntmps k (simpl_power_l0.out ((a0, (a1, (a2, ()))), ()))) (fun y => some (XS.out ximpl_power_l0 a0 y)) a1 a2 := by kernel_rfl
theorem impl_power_l0o : LoopOk Try.prog EL54 or54 Try.f54.ntmps ((loopsIn (codeOf Try.f54)).getD 0 .skip) (Limpl_power_l0) :=
  loop_lim (hs := simpl_power_l0) (xs := ximpl_power_l0) (ι := fun (x : (Int × Int × Int × Unit) × (Unit)) => x.1.1) (φ := fun (x : (Int × Int × Int × Unit) × (Unit)) => (x.1.2.1, x.1.2.2.1)) (ψ := fun (i : Int) (v : Int × Int) => ((i, (v.1, (v.2, ()))), ())) (F := fun (i : Int) => impl_power_l0F i) (fun _ => rfl) fun i k hk v => Par.of_eq (impl_power_l0e i k v.1 v.2) (impl_power_l0p i (fun a1 a2 => hk (a1, a2)) v.1 v.2)
def c54 : Callee := mkC [.one (.ro (.int .i64)), .one (.ro (.int .i64))] 1 [.one (.ro (.int .i64))] fun x => impl_power x.1 x.2
theorem e54 (x : PK.dens [.one (.ro (.int .i64)), .one (.ro (.int .i64))]) : evalFn Try.prog EL54 or54 Try.f54 (PK.outs [.one (.ro (.int .i64)), .one (.ro (.int .i64))] x) =
    impl_powerK (fun y => some (tupOf ((PK.outs [.one (.ro (.int .i64))] y).take 1), (PK.outs [.one (.ro (.int .i64))] y).drop 1)) x.1 x.2 := by kernel_rfl
theorem o54 : LoOk Try.prog EL54 or54 Try.f54.ntmps (loopsIn (codeOf Try.f54)) :=
  LoOk.mk (m := 1) (by kernel_rfl) fun i hi => match i, hi with
    | 0, _ => ⟨Limpl_power_l0, by kernel_rfl, impl_power_l0o⟩
    | i + 1, hi => absurd hi (by omega)
theorem k54 : CalleeOk Try.prog 54 c54 := callee_mk Try.func54 (code := codeOf Try.f54) (by kernel_rfl) vL54 mixed o54 fun x y h => (e54 x).trans (p54 _ x.1 x.2 y h)

/-- impl.scaledFactor -/
def EL93 : Nat → Option Callee := addE 54 c54 env0
theorem vL93 : EnvOk Try.prog EL93 := EnvOk.nil.add Try.func54 rfl (by kernel_rfl) k54
def impl_scaledFactorK {R : Type} (fin : Int → Option R) (x0 : DJob) (x1 : Int) : Option R :=
  cond (decide (x1 < 0))
  (fin 0)
  ((impl_power x0.2.2.2.2.2.1 x1).bind fun y1 =>
    (impl_power x0.2.2.2.2.2.2.1 (IntKind.i64.wrap ((IntKind.i64.wrap (x0.2.2.2.2.1 - 1)) - x1))).bind fun y2 =>
    fin (IntKind.i64.wrap (y1 * y2)))
def impl_scaledFactor (x0 : DJob) (x1 : Int) : Option (Int) := impl_scaledFactorK some x0 x1
theorem p93 {R : Type} (fin : Int → Option R) (x0 : DJob) (x1 : Int) : Par fin (impl_scaledFactorK some x0 x1) (impl_scaledFactorK fin x0 x1) := by
  unfold impl_scaledFactorK
  repeat' (first | exact .fin | exact .none | refine .cond ?_ ?_ | refine .bind fun _ => ?_ | refine .sum (fun _ => ?_) fun _ => ?_)
def c93 : Callee := mkC [.agg [.ro TJob], .one (.ro (.int .i64))] 1 [.one (.ro (.int .i64))] fun x => impl_scaledFactor x.1 x.2
theorem e93 (x : PK.dens [.agg [.ro TJob], .one (.ro (.int .i64))]) : evalFn Try.prog EL93 or0 Try.f93 (PK.outs [.agg [.ro TJob], .one (.ro (.int .i64))] x) =
    impl_scaledFactorK (fun y => some (tupOf ((PK.outs [.one (.ro (.int .i64))] y).take 1), (PK.outs [.one (.ro (.int .i64))] y).drop 1)) x.1 x.2 := by kernel_rfl
theorem k93 : CalleeOk Try.prog 93 c93 := callee_mk Try.func93 (code := codeOf Try.f93) (by kernel_rfl) vL93 mixed (LoOk.nil (by kernel_rfl)) fun x y h => (e93 x).trans (p93 _ x.1 x.2 y h)

/-- impl.periodWorths -/
def EL105 : Nat → Option Callee := addE 93 c93 env0
theorem vL105 : EnvOk Try.prog EL105 := EnvOk.nil.add Try.func93 rfl (by kernel_rfl) k93
def simpl_periodWorths_l0 : LS := ⟨[(2, .one (.fix (.ptr 0 0))), (5, .one (.fix (.sref 1))), (12, .one (.dat (.slice (.int .i64)))), (13, .one (.dat (.int .i64))), (14, .one (.dat (.int .i64)))], [.box [.dat (.slice (.slice (.int .i64))), .dat (.slice (.int .i64)), .dat (.slice (.int .i64)), .dat (.int .i64), .dat (.int .i64), .dat (.int .i64), .dat (.int .i64), .dat (.int .i64)], .sl (.int .i64)], []⟩
def simpl_periodWorths_l0x0 : LS := ⟨[(5, .one (.fix (.sref 0)))], [.sl (.int .i64)], []⟩
def ximpl_periodWorths_l0 : List (XS ((List Int) × Int × (List (List Int)) × (List Int) × (List Int) × Int × Int × Int × Int × Int)) := [⟨.exit 0, ⟨[5], [.slot 5], [], []⟩, simpl_periodWorths_l0x0, List Int, fun i y => (((), ()), (y, ()))⟩]
def impl_periodWorths_l0K {R : Type} (a0 : List Int) (a1 : Int) (a3 : List (List Int)) (a4 : List Int) (a5 : List Int) (a6 : Int) (a7 : Int) (a8 : Int) (a9 : Int) (a10 : Int) (rc : Int → List Int → Option R) (fin : List Int → Option R) (a2 : Int) (a11 : List Int) : Option R :=
  cond (decide (a2 < a1))
  ((lat a0 a2).bind fun e1 =>
    cond (decide (e1 ≥ 0))
    (cond (decide ((0 : Int) ≤ e1) && decide (e1 < (a11.length : Int)))
      ((lat a5 a2).bind fun e2 =>
        (impl_scaledFactor (a3, (a4, (a5, ((a6, (a7, ())), (a8, (a9, (a10, ()))))))) e1).bind fun y3 =>
        (some (IntKind.i64.wrap ((a11.getD (0 + e1.toNat) 0) + (IntKind.i64.wrap (e2 * y3))))).bind fun v4 =>
        cond (decide ((0 : Int) ≤ e1) && decide (e1 < (a11.length : Int)))
        ((some (a11.set (0 + e1.toNat) v4)).bind fun v5 =>
          rc (IntKind.i64.wrap (a2 + 1)) v5)
        (none))
      (none))
    (rc (IntKind.i64.wrap (a2 + 1)) a11))
  (fin a11)
def impl_periodWorths_l0F (a0 : List Int) (a1 : Int) (a3 : List (List Int)) (a4 : List Int) (a5 : List Int) (a6 : Int) (a7 : Int) (a8 : Int) (a9 : Int) (a10 : Int) (r : (Int × (List Int)) → Option (List Int)) (x : Int × (List Int)) : Option (List Int) := impl_periodWorths_l0K a0 a1 a3 a4 a5 a6 a7 a8 a9 a10 (fun a2 a11 => r (a2, a11)) some x.1 x.2
theorem impl_periodWorths_l0c (a0 : List Int) (a1 : Int) (a3 : List (List Int)) (a4 : List Int) (a5 : List Int) (a6 : Int) (a7 : Int) (a8 : Int) (a9 : Int) (a10 : Int) (x : Int × (List Int)) : Ct fun r => impl_periodWorths_l0F a0 a1 a3 a4 a5 a6 a7 a8 a9 a10 r x := by
  unfold impl_periodWorths_l0F impl_periodWorths_l0K
  repeat' (first | exact Ct.const | exact Ct.call | refine Ct.cond ?_ ?_ | refine Ct.bind ?_ fun _ => ?_ | refine Ct.sum (fun _ => ?_) fun _ => ?_)
def impl_periodWorths_l0 (a0 : List Int) (a1 : Int) (a3 : List (List Int)) (a4 : List Int) (a5 : List Int) (a6 : Int) (a7 : Int) (a8 : Int) (a9 : Int) (a10 : Int) (a2 : Int) (a11 : List Int) : Option (List Int) := lim (impl_periodWorths_l0F a0 a1 a3 a4 a5 a6 a7 a8 a9 a10) (a2, a11)
theorem impl_periodWorths_l0_eq (a0 : List Int) (a1 : Int) (a3 : List (List Int)) (a4 : List Int) (a5 : List Int) (a6 : Int) (a7 : Int) (a8 : Int) (a9 : Int) (a10 : Int) (a2 : Int) (a11 : List Int) : impl_periodWorths_l0 a0 a1 a3 a4 a5 a6 a7 a8 a9 a10 a2 a11 = impl_periodWorths_l0K a0 a1 a3 a4 a5 a6 a7 a8 a9 a10 (impl_periodWorths_l0 a0 a1 a3 a4 a5 a6 a7 a8 a9 a10) some a2 a11 := lim_eq (impl_periodWorths_l0c a0 a1 a3 a4 a5 a6 a7 a8 a9 a10) (a2, a11)
theorem impl_periodWorths_l0p {R : Type} (a0 : List Int) (a1 : Int) (a3 : List (List Int)) (a4 : List Int) (a5 : List Int) (a6 : Int) (a7 : Int) (a8 : Int) (a9 : Int) (a10 : Int) {rc : Int → List Int → Option (List Int)} {rc' : Int → List Int → Option R} {fin : List Int → Option R} (hr : ∀ a2 a11, Par fin (rc a2 a11) (rc' a2 a11)) (a2 : Int) (a11 : List Int) : Par fin (impl_periodWorths_l0K a0 a1 a3 a4 a5 a6 a7 a8 a9 a10 rc some a2 a11) (impl_periodWorths_l0K a0 a1 a3 a4 a5 a6 a7 a8 a9 a10 rc' fin a2 a11) := by
  unfold impl_periodWorths_l0K
  repeat' (first | exact .fin | exact .none | exact hr _ _ | refine .cond ?_ ?_ | refine .bind fun _ => ?_ | refine .sum (fun _ => ?_) fun _ => ?_)
def Limpl_periodWorths_l0 : Loop := mkL ⟨[2, 5, 12, 13, 14], [.slot 2, .slot 5], [], []⟩ simpl_periodWorths_l0 ximpl_periodWorths_l0 (fun (x : (Unit × Unit × (List Int) × Int × Int × Unit) × (((List (List Int)) × (List Int) × (List Int) × Int × Int × Int × Int × Int × Unit) × (List Int) × Unit)) => (x.1.2.2.1, (x.1.2.2.2.1, (x.2.1.1, (x.2.1.2.1, (x.2.1.2.2.1, (x.2.1.2.2.2.1, (x.2.1.2.2.2.2.1, (x.2.1.2.2.2.2.2.1, (x.2.1.2.2.2.2.2.2.1, x.2.1.2.2.2.2.2.2.2.1)))))))))) fun (x : (Unit × Unit × (List Int) × Int × Int × Unit) × (((List (List Int)) × (List Int) × (List Int) × Int × Int × Int × Int × Int × Unit) × (List Int) × Unit)) => impl_periodWorths_l0 x.1.2.2.1 x.1.2.2.2.1 x.2.1.1 x.2.1.2.1 x.2.1.2.2.1 x.2.1.2.2.2.1 x.2.1.2.2.2.2.1 x.2.1.2.2.2.2.2.1 x.2.1.2.2.2.2.2.2.1 x.2.1.2.2.2.2.2.2.2.1 x.1.2.2.2.2.1 x.2.2.1
def impl_periodWorthsK {R : Type} (fin : List Int → Option R) (x0 : DJob) (x1 : DPlan) : Option R :=
  cond (decide ((0 : Int) ≤ x0.2.2.2.2.1) && (decide (x0.2.2.2.2.1 ≤ x0.2.2.2.2.1) && decide (x0.2.2.2.2.1 ≤ 1099511627776)))
  ((some ((List.replicate x0.2.2.2.2.1.toNat 0 : List Int))).bind fun v1 =>
    (impl_periodWorths_l0 x1.2.1 (x1.2.1.length : Int) x0.1 x0.2.1 x0.2.2.1 x0.2.2.2.1.1 x0.2.2.2.1.2.1 x0.2.2.2.2.1 x0.2.2.2.2.2.1 x0.2.2.2.2.2.2.1 0 v1).bind fun y7 =>
    fin y7)
  (none)
def impl_periodWorths (x0 : DJob) (x1 : DPlan) : Option (List Int) := impl_periodWorthsK some x0 x1
theorem p105 {R : Type} (fin : List Int → Option R) (x0 : DJob) (x1 : DPlan) : Par fin (impl_periodWorthsK some x0 x1) (impl_periodWorthsK fin x0 x1) := by
  unfold impl_periodWorthsK
  repeat' (first | exact .fin | exact .none | refine .cond ?_ ?_ | refine .bind fun _ => ?_ | refine .sum (fun _ => ?_) fun _ => ?_)
def or105 : Ora := { lo := addL 3 (Limpl_periodWorths_l0) lo0, fin := [] }
theorem impl_periodWorths_l0e (a0 : List Int) (a1 : Int) (a3 : List (List Int)) (a4 : List Int) (a5 : List Int) (a6 : Int) (a7 : Int) (a8 : Int) (a9 : Int) (a10 : Int) (k : Nat) (a2 : Int) (a11 : List Int) : loopC Try.prog EL105 or105 ((loopsIn (codeOf Try.f105)).getD 0 .skip) (Limpl_periodWorths_l0).h (Limpl_periodWorths_l0).ho Try.f105.ntmps (k + 1) (simpl_periodWorths_l0.out (((), ((), (a0, (a1, (a2, ()))))), ((a3, (a4, (a5, (a6, (a7, (a8, (a9, (a10, ())))))))), (a11, ())))) =
    impl_periodWorths_l0K a0 a1 a3 a4 a5 a6 a7 a8 a9 a10 (fun a2 a11 => loopC Try.prog EL105 or105 ((loopsIn (codeOf Try.f105)).getD 0 .skip) (Limpl_periodWorths_l0).h (Limpl_periodWorths_l0).ho Try.f105.ntmps k (simpl_periodWorths_l0.out (((), ((), (a0, (a1, (a2, ()))))), ((a3, (a4, (a5, (a6, (a7, (a8, (a9, (a10, ())))))))), (a11, ()))))) (fun y => some (XS.out ximpl_periodWorths_l0 (a0, (a1, (a3, (a4, (a5, (a6, (a7, (a8, (a9, a10))))))))) y)) a2 a11 := by kernel_rfl
theorem impl_periodWorths_l0o : LoopOk Try.prog EL105 or105 Try.f105.ntmps ((loopsIn (codeOf Try.f105)).getD 0 .skip) (Limpl_periodWorths_l0) :=
  loop_lim (hs := simpl_periodWorths_l0) (xs := ximpl_periodWorths_l0) (ι := fun (x : (Unit × Unit × (List Int) × Int × Int × Unit) × (((List (List Int)) × (List Int) × (List Int) × Int × Int × Int × Int × Int × Unit) × (List Int) × Unit)) => (x.1.2.2.1, (x.1.2.2.2.1, (x.2.1.1, (x.2.1.2.1, (x.2.1.2.2.1, (x.2.1.2.2.2.1, (x.2.1.2.2.2.2.1, (x.2.1.2.2.2.2.2.1, (x.2.1.2.2.2.2.2.2.1, x.2.1.2.2.2.2.2.2.2.1)))))))))) (φ := fun (x : (Unit × Unit × (List Int) × Int × Int × Unit) × (((List (List Int)) × (List Int) × (List Int) × Int × Int × Int × Int × Int × Unit) × (List Int) × Unit)) => (x.1.2.2.2.2.1, x.2.2.1)) (ψ := fun (i : (List Int) × Int × (List (List Int)) × (List Int) × (List Int) × Int × Int × Int × Int × Int) (v : Int × (List Int)) => (((), ((), (i.1, (i.2.1, (v.1, ()))))), ((i.2.2.1, (i.2.2.2.1, (i.2.2.2.2.1, (i.2.2.2.2.2.1, (i.2.2.2.2.2.2.1, (i.2.2.2.2.2.2.2.1, (i.2.2.2.2.2.2.2.2.1, (i.2.2.2.2.2.2.2.2.2, ())))))))), (v.2, ())))) (F := fun (i : (List Int) × Int × (List (List Int)) × (List Int) × (List Int) × Int × Int × Int × Int × Int) => impl_periodWorths_l0F i.1 i.2.1 i.2.2.1 i.2.2.2.1 i.2.2.2.2.1 i.2.2.2.2.2.1 i.2.2.2.2.2.2.1 i.2.2.2.2.2.2.2.1 i.2.2.2.2.2.2.2.2.1 i.2.2.2.2.2.2.2.2.2) (fun _ => rfl) fun i k hk v => Par.of_eq (impl_periodWorths_l0e i.1 i.2.1 i.2.2.1 i.2.2.2.1 i.2.2.2.2.1 i.2.2.2.2.2.1 i.2.2.2.2.2.2.1 i.2.2.2.2.2.2.2.1 i.2.2.2.2.2.2.2.2.1 i.2.2.2.2.2.2.2.2.2 k v.1 v.2) (impl_periodWorths_l0p i.1 i.2.1 i.2.2.1 i.2.2.2.1 i.2.2.2.2.1 i.2.2.2.2.2.1 i.2.2.2.2.2.2.1 i.2.2.2.2.2.2.2.1 i.2.2.2.2.2.2.2.2.1 i.2.2.2.2.2.2.2.2.2 (fun a2 a11 => hk (a2, a11)) v.1 v.2)
def c105 : Callee := mkC [.agg [.ro TJob], .agg [.ro TPlan]] 1 [.one (.sl (.int .i64))] fun x => impl_periodWorths x.1 x.2
theorem e105 (x : PK.dens [.agg [.ro TJob], .agg [.ro TPlan]]) : evalFn Try.prog EL105 or105 Try.f105 (PK.outs [.agg [.ro TJob], .agg [.ro TPlan]] x) =
    impl_periodWorthsK (fun y => some (tupOf ((PK.outs [.one (.sl (.int .i64))] y).take 1), (PK.outs [.one (.sl (.int .i64))] y).drop 1)) x.1 x.2 := by kernel_rfl
theorem o105 : LoOk Try.prog EL105 or105 Try.f105.ntmps (loopsIn (codeOf Try.f105)) :=
  LoOk.mk (m := 1) (by kernel_rfl) fun i hi => match i, hi with
    | 0, _ => ⟨Limpl_periodWorths_l0, by kernel_rfl, impl_periodWorths_l0o⟩
    | i + 1, hi => absurd hi (by omega)
theorem k105 : CalleeOk Try.prog 105 c105 := callee_mk Try.func105 (code := codeOf Try.f105) (by kernel_rfl) vL105 mixed o105 fun x y h => (e105 x).trans (p105 _ x.1 x.2 y h)

/-- impl.scaledWorth -/
def EL73 : Nat → Option Callee := addE 105 c105 env0
theorem vL73 : EnvOk Try.prog EL73 := EnvOk.nil.add Try.func105 rfl (by kernel_rfl) k105
def simpl_scaledWorth_l0 : LS := ⟨[(5, .one (.dat (.int .i64))), (10, .one (.fix (.sref 0))), (11, .one (.dat (.int .i64))), (12, .one (.dat (.int .i64)))], [.sl (.int .i64)], []⟩
def simpl_scaledWorth_l0x0 : LS := ⟨[(5, .one (.dat (.int .i64)))], [], []⟩
def ximpl_scaledWorth_l0 : List (XS (Int × (List Int))) := [⟨.exit 0, ⟨[5], [], [], []⟩, simpl_scaledWorth_l0x0, Int, fun i y => ((y, ()), ())⟩]
def impl_scaledWorth_l0K {R : Type} (a1 : Int) (a3 : List Int) (rc : Int → Int → Option R) (fin : Int → Option R) (a0 : Int) (a2 : Int) : Option R :=
  cond (decide (a2 < a1))
  (cond (decide ((0 : Int) ≤ a2) && decide (a2 < (a3.length : Int)))
    (rc (IntKind.i64.wrap (a0 + (a3.getD (0 + a2.toNat) 0))) (IntKind.i64.wrap (a2 + 1)))
    (none))
  (fin a0)
def impl_scaledWorth_l0F (a1 : Int) (a3 : List Int) (r : (Int × Int) → Option (Int)) (x : Int × Int) : Option (Int) := impl_scaledWorth_l0K a1 a3 (fun a0 a2 => r (a0, a2)) some x.1 x.2
theorem impl_scaledWorth_l0c (a1 : Int) (a3 : List Int) (x : Int × Int) : Ct fun r => impl_scaledWorth_l0F a1 a3 r x := by
  unfold impl_scaledWorth_l0F impl_scaledWorth_l0K
  repeat' (first | exact Ct.const | exact Ct.call | refine Ct.cond ?_ ?_ | refine Ct.bind ?_ fun _ => ?_ | refine Ct.sum (fun _ => ?_) fun _ => ?_)
def impl_scaledWorth_l0 (a1 : Int) (a3 : List Int) (a0 : Int) (a2 : Int) : Option (Int) := lim (impl_scaledWorth_l0F a1 a3) (a0, a2)
theorem impl_scaledWorth_l0_eq (a1 : Int) (a3 : List Int) (a0 : Int) (a2 : Int) : impl_scaledWorth_l0 a1 a3 a0 a2 = impl_scaledWorth_l0K a1 a3 (impl_scaledWorth_l0 a1 a3) some a0 a2 := lim_eq (impl_scaledWorth_l0c a1 a3) (a0, a2)
theorem impl_scaledWorth_l0p {R : Type} (a1 : Int) (a3 : List Int) {rc : Int → Int → Option (Int)} {rc' : Int → Int → Option R} {fin : Int → Option R} (hr : ∀ a0 a2, Par fin (rc a0 a2) (rc' a0 a2)) (a0 : Int) (a2 : Int) : Par fin (impl_scaledWorth_l0K a1 a3 rc some a0 a2) (impl_scaledWorth_l0K a1 a3 rc' fin a0 a2) := by
  unfold impl_scaledWorth_l0K
  repeat' (first | exact .fin | exact .none | exact hr _ _ | refine .cond ?_ ?_ | refine .bind fun _ => ?_ | refine .sum (fun _ => ?_) fun _ => ?_)
def Limpl_scaledWorth_l0 : Loop := mkL ⟨[5, 10, 11, 12], [.slot 10], [], []⟩ simpl_scaledWorth_l0 ximpl_scaledWorth_l0 (fun (x : (Int × Unit × Int × Int × Unit) × ((List Int) × Unit)) => (x.1.2.2.1, x.2.1)) fun (x : (Int × Unit × Int × Int × Unit) × ((List Int) × Unit)) => impl_scaledWorth_l0 x.1.2.2.1 x.2.1 x.1.1 x.1.2.2.2.1
def impl_scaledWorthK {R : Type} (fin : Int → Option R) (x0 : DJob) (x1 : DPlan) : Option R :=
  (impl_periodWorths x0 x1).bind fun y1 =>
  (impl_scaledWorth_l0 (y1.length : Int) y1 0 0).bind fun y2 =>
  fin y2
def impl_scaledWorth (x0 : DJob) (x1 : DPlan) : Option (Int) := impl_scaledWorthK some x0 x1
theorem p73 {R : Type} (fin : Int → Option R) (x0 : DJob) (x1 : DPlan) : Par fin (impl_scaledWorthK some x0 x1) (impl_scaledWorthK fin x0 x1) := by
  unfold impl_scaledWorthK
  repeat' (first | exact .fin | exact .none | refine .cond ?_ ?_ | refine .bind fun _ => ?_ | refine .sum (fun _ => ?_) fun _ => ?_)
def or73 : Ora := { lo := addL 3 (Limpl_scaledWorth_l0) lo0, fin := [] }
theorem impl_scaledWorth_l0e (a1 : Int) (a3 : List Int) (k : Nat) (a0 : Int) (a2 : Int) : loopC Try.prog EL73 or73 ((loopsIn (codeOf Try.f73)).getD 0 .skip) (Limpl_scaledWorth_l0).h (Limpl_scaledWorth_l0).ho Try.f73.ntmps (k + 1) (simpl_scaledWorth_l0.out ((a0, ((), (a1, (a2, ())))), (a3, ()))) =
    impl_scaledWorth_l0K a1 a3 (fun a0 a2 => loopC Try.prog EL73 or73 ((loopsIn (codeOf Try.f73)).getD 0 .skip) (Limpl_scaledWorth_l0).h (Limpl_scaledWorth_l0).ho Try.f73.ntmps k (simpl_scaledWorth_l0.out ((a0, ((), (a1, (a2, ())))), (a3, ())))) (fun y => some (XS.out ximpl_scaledWorth_l0 (a1, a3) y)) a0 a2 := by kernel_rfl
theorem impl_scaledWorth_l0o : LoopOk Try.prog EL73 or73 Try.f73.ntmps ((loopsIn (codeOf Try.f73)).getD 0 .skip) (Limpl_scaledWorth_l0) :=
  loop_lim (hs := simpl_scaledWorth_l0) (xs := ximpl_scaledWorth_l0) (ι := fun (x : (Int × Unit × Int × Int × Unit) × ((List Int) × Unit)) => (x.1.2.2.1, x.2.1)) (φ := fun (x : (Int × Unit × Int × Int × Unit) × ((List Int) × Unit)) => (x.1.1, x.1.2.2.2.1)) (ψ := fun (i : Int × (List Int)) (v : Int × Int) => ((v.1, ((), (i.1, (v.2, ())))), (i.2, ()))) (F := fun (i : Int × (List Int)) => impl_scaledWorth_l0F i.1 i.2) (fun _ => rfl) fun i k hk v => Par.of_eq (impl_scaledWorth_l0e i.1 i.2 k v.1 v.2) (impl_scaledWorth_l0p i.1 i.2 (fun a0 a2 => hk (a0, a2)) v.1 v.2)
def c73 : Callee := mkC [.agg [.ro TJob], .agg [.ro TPlan]] 1 [.one (.ro (.int .i64))] fun x => impl_scaledWorth x.1 x.2
theorem e73 (x : PK.dens [.agg [.ro TJob], .agg [.ro TPlan]]) : evalFn Try.prog EL73 or73 Try.f73 (PK.outs [.agg [.ro TJob], .agg [.ro TPlan]] x) =
    impl_scaledWorthK (fun y => some (tupOf ((PK.outs [.one (.ro (.int .i64))] y).take 1), (PK.outs [.one (.ro (.int .i64))] y).drop 1)) x.1 x.2 := by kernel_rfl
theorem o73 : LoOk Try.prog EL73 or73 Try.f73.ntmps (loopsIn (codeOf Try.f73)) :=
  LoOk.mk (m := 1) (by kernel_rfl) fun i hi => match i, hi with
    | 0, _ => ⟨Limpl_scaledWorth_l0, by kernel_rfl, impl_scaledWorth_l0o⟩
    | i + 1, hi => absurd hi (by omega)
theorem k73 : CalleeOk Try.prog 73 c73 := callee_mk Try.func73 (code := codeOf Try.f73) (by kernel_rfl) vL73 mixed o73 fun x y h => (e73 x).trans (p73 _ x.1 x.2 y h)

/-- spec.srPower -/
def EL86 : Nat → Option Callee := env0
theorem vL86 : EnvOk Try.prog EL86 := EnvOk.nil
def sspec_srPower_l0 : LS := ⟨[(0, .one (.dat (.int .i64))), (1, .one (.dat (.int .i64))), (5, .one (.dat (.int .i64)))], [], []⟩
def sspec_srPower_l0x0 : LS := ⟨[(5, .one (.dat (.int .i64)))], [], []⟩
def xspec_srPower_l0 : List (XS (Int)) := [⟨.exit 0, ⟨[5], [], [], []⟩, sspec_srPower_l0x0, Int, fun i y => ((y, ()), ())⟩]
def spec_srPower_l0K {R : Type} (a0 : Int) (rc : Int → Int → Option R) (fin : Int → Option R) (a1 : Int) (a2 : Int) : Option R :=
  cond (decide (a1 > 0))
  (rc (IntKind.i64.wrap (a1 - 1)) (IntKind.i64.wrap (a2 * a0)))
  (fin a2)
def spec_srPower_l0F (a0 : Int) (r : (Int × Int) → Option (Int)) (x : Int × Int) : Option (Int) := spec_srPower_l0K a0 (fun a1 a2 => r (a1, a2)) some x.1 x.2
theorem spec_srPower_l0c (a0 : Int) (x : Int × Int) : Ct fun r => spec_srPower_l0F a0 r x := by
  unfold spec_srPower_l0F spec_srPower_l0K
  repeat' (first | exact Ct.const | exact Ct.call | refine Ct.cond ?_ ?_ | refine Ct.bind ?_ fun _ => ?_ | refine Ct.sum (fun _ => ?_) fun _ => ?_)
def spec_srPower_l0 (a0 : Int) (a1 : Int) (a2 : Int) : Option (Int) := lim (spec_srPower_l0F a0) (a1, a2)
theorem spec_srPower_l0_eq (a0 : Int) (a1 : Int) (a2 : Int) : spec_srPower_l0 a0 a1 a2 = spec_srPower_l0K a0 (spec_srPower_l0 a0) some a1 a2 := lim_eq (spec_srPower_l0c a0) (a1, a2)
theorem spec_srPower_l0p {R : Type} (a0 : Int) {rc : Int → Int → Option (Int)} {rc' : Int → Int → Option R} {fin : Int → Option R} (hr : ∀ a1 a2, Par fin (rc a1 a2) (rc' a1 a2)) (a1 : Int) (a2 : Int) : Par fin (spec_srPower_l0K a0 rc some a1 a2) (spec_srPower_l0K a0 rc' fin a1 a2) := by
  unfold spec_srPower_l0K
  repeat' (first | exact .fin | exact .none | exact hr _ _ | refine .cond ?_ ?_ | refine .bind fun _ => ?_ | refine .sum (fun _ => ?_) fun _ => ?_)
def Lspec_srPower_l0 : Loop := mkL ⟨[0, 1, 5], [], [], []⟩ sspec_srPower_l0 xspec_srPower_l0 (fun (x : (Int × Int × Int × Unit) × (Unit)) => x.1.1) fun (x : (Int × Int × Int × Unit) × (Unit)) => spec_srPower_l0 x.1.1 x.1.2.1 x.1.2.2.1
def spec_srPowerK {R : Type} (fin : Int → Option R) (x0 : Int) (x1 : Int) : Option R :=
  (spec_srPower_l0 x0 x1 1).bind fun y1 =>
  fin y1
def spec_srPower (x0 : Int) (x1 : Int) : Option (Int) := spec_srPowerK some x0 x1
theorem p86 {R : Type} (fin : Int → Option R) (x0 : Int) (x1 : Int) : Par fin (spec_srPowerK some x0 x1) (spec_srPowerK fin x0 x1) := by
  unfold spec_srPowerK
  repeat' (first | exact .fin | exact .none | refine .cond ?_ ?_ | refine .bind fun _ => ?_ | refine .sum (fun _ => ?_) fun _ => ?_)
def or86 : Ora := { lo := addL 2 (Lspec_srPower_l0) lo0, fin := [] }
theorem spec_srPower_l0e (a0 : Int) (k : Nat) (a1 : Int) (a2 : Int) : loopC Try.prog EL86 or86 ((loopsIn (codeOf Try.f86)).getD 0 .skip) (Lspec_srPower_l0).h (Lspec_srPower_l0).ho Try.f86.ntmps (k + 1) (sspec_srPower_l0.out ((a0, (a1, (a2, ()))), ())) =
    spec_srPower_l0K a0 (fun a1 a2 => loopC Try.prog EL86 or86 ((loopsIn (codeOf Try.f86)).getD 0 .skip) (Lspec_srPower_l0).h (Lspec_srPower_l0).ho Try.f86.ntmps k (sspec_srPower_l0.out ((a0, (a1, (a2, ()))), ()))) (fun y => some (XS.out xspec_srPower_l0 a0 y)) a1 a2 := by kernel_rfl
theorem spec_srPower_l0o : LoopOk Try.prog EL86 or86 Try.f86.ntmps ((loopsIn (codeOf Try.f86)).getD 0 .skip) (Lspec_srPower_l0) :=
  loop_lim (hs := sspec_srPower_l0) (xs := xspec_srPower_l0) (ι := fun (x : (Int × Int × Int × Unit) × (Unit)) => x.1.1) (φ := fun (x : (Int × Int × Int × Unit) × (Unit)) => (x.1.2.1, x.1.2.2.1)) (ψ := fun (i : Int) (v : Int × Int) => ((i, (v.1, (v.2, ()))), ())) (F := fun (i : Int) => spec_srPower_l0F i) (fun _ => rfl) fun i k hk v => Par.of_eq (spec_srPower_l0e i k v.1 v.2) (spec_srPower_l0p i (fun a1 a2 => hk (a1, a2)) v.1 v.2)
def c86 : Callee := mkC [.one (.ro (.int .i64)), .one (.ro (.int .i64))] 1 [.one (.ro (.int .i64))] fun x => spec_srPower x.1 x.2
theorem e86 (x : PK.dens [.one (.ro (.int .i64)), .one (.ro (.int .i64))]) : evalFn Try.prog EL86 or86 Try.f86 (PK.outs [.one (.ro (.int .i64)), .one (.ro (.int .i64))] x) =
    spec_srPowerK (fun y => some (tupOf ((PK.outs [.one (.ro (.int .i64))] y).take 1), (PK.outs [.one (.ro (.int .i64))] y).drop 1)) x.1 x.2 := by kernel_rfl
theorem o86 : LoOk Try.prog EL86 or86 Try.f86.ntmps (loopsIn (codeOf Try.f86)) :=
  LoOk.mk (m := 1) (by kernel_rfl) fun i hi => match i, hi with
    | 0, _ => ⟨Lspec_srPower_l0, by kernel_rfl, spec_srPower_l0o⟩
    | i + 1, hi => absurd hi (by omega)
theorem k86 : CalleeOk Try.prog 86 c86 := callee_mk Try.func86 (code := codeOf Try.f86) (by kernel_rfl) vL86 mixed o86 fun x y h => (e86 x).trans (p86 _ x.1 x.2 y h)

/-- spec.srFactor -/
def EL103 : Nat → Option Callee := addE 86 c86 env0
theorem vL103 : EnvOk Try.prog EL103 := EnvOk.nil.add Try.func86 rfl (by kernel_rfl) k86
def spec_srFactorK {R : Type} (fin : Int → Option R) (x0 : DJob) (x1 : Int) : Option R :=
  (spec_srPower x0.2.2.2.2.2.1 x1).bind fun y1 =>
  (spec_srPower x0.2.2.2.2.2.2.1 (IntKind.i64.wrap ((IntKind.i64.wrap (x0.2.2.2.2.1 - 1)) - x1))).bind fun y2 =>
  fin (IntKind.i64.wrap (y1 * y2))
def spec_srFactor (x0 : DJob) (x1 : Int) : Option (Int) := spec_srFactorK some x0 x1
theorem p103 {R : Type} (fin : Int → Option R) (x0 : DJob) (x1 : Int) : Par fin (spec_srFactorK some x0 x1) (spec_srFactorK fin x0 x1) := by
  unfold spec_srFactorK
  repeat' (first | exact .fin | exact .none | refine .cond ?_ ?_ | refine .bind fun _ => ?_ | refine .sum (fun _ => ?_) fun _ => ?_)
def c103 : Callee := mkC [.agg [.ro TJob], .one (.ro (.int .i64))] 1 [.one (.ro (.int .i64))] fun x => spec_srFactor x.1 x.2
theorem e103 (x : PK.dens [.agg [.ro TJob], .one (.ro (.int .i64))]) : evalFn Try.prog EL103 or0 Try.f103 (PK.outs [.agg [.ro TJob], .one (.ro (.int .i64))] x) =
    spec_srFactorK (fun y => some (tupOf ((PK.outs [.one (.ro (.int .i64))] y).take 1), (PK.outs [.one (.ro (.int .i64))] y).drop 1)) x.1 x.2 := by kernel_rfl
theorem k103 : CalleeOk Try.prog 103 c103 := callee_mk Try.func103 (code := codeOf Try.f103) (by kernel_rfl) vL103 mixed (LoOk.nil (by kernel_rfl)) fun x y h => (e103 x).trans (p103 _ x.1 x.2 y h)

/-- spec.srWorth -/
def EL70 : Nat → Option Callee := addE 103 c103 env0
theorem vL70 : EnvOk Try.prog EL70 := EnvOk.nil.add Try.func103 rfl (by kernel_rfl) k103
def sspec_srWorth_l0 : LS := ⟨[(2, .one (.fix (.ptr 0 0))), (5, .one (.dat (.int .i64))), (8, .one (.dat (.slice (.int .i64)))), (9, .one (.dat (.int .i64))), (10, .one (.dat (.int .i64)))], [.box [.dat (.slice (.slice (.int .i64))), .dat (.slice (.int .i64)), .dat (.slice (.int .i64)), .dat (.int .i64), .dat (.int .i64), .dat (.int .i64), .dat (.int .i64), .dat (.int .i64)]], []⟩
def sspec_srWorth_l0x0 : LS := ⟨[(5, .one (.dat (.int .i64)))], [], []⟩
def xspec_srWorth_l0 : List (XS ((List Int) × Int × (List (List Int)) × (List Int) × (List Int) × Int × Int × Int × Int × Int)) := [⟨.exit 0, ⟨[5], [], [], []⟩, sspec_srWorth_l0x0, Int, fun i y => ((y, ()), ())⟩]
def spec_srWorth_l0K {R : Type} (a1 : List Int) (a2 : Int) (a4 : List (List Int)) (a5 : List Int) (a6 : List Int) (a7 : Int) (a8 : Int) (a9 : Int) (a10 : Int) (a11 : Int) (rc : Int → Int → Option R) (fin : Int → Option R) (a0 : Int) (a3 : Int) : Option R :=
  cond (decide (a3 < a2))
  ((lat a1 a3).bind fun e1 =>
    cond (decide (e1 ≥ 0))
    ((lat a6 a3).bind fun e2 =>
      (spec_srFactor (a4, (a5, (a6, ((a7, (a8, ())), (a9, (a10, (a11, ()))))))) e1).bind fun y3 =>
      rc (IntKind.i64.wrap (a0 + (IntKind.i64.wrap (e2 * y3)))) (IntKind.i64.wrap (a3 + 1)))
    (rc a0 (IntKind.i64.wrap (a3 + 1))))
  (fin a0)
def spec_srWorth_l0F (a1 : List Int) (a2 : Int) (a4 : List (List Int)) (a5 : List Int) (a6 : List Int) (a7 : Int) (a8 : Int) (a9 : Int) (a10 : Int) (a11 : Int) (r : (Int × Int) → Option (Int)) (x : Int × Int) : Option (Int) := spec_srWorth_l0K a1 a2 a4 a5 a6 a7 a8 a9 a10 a11 (fun a0 a3 => r (a0, a3)) some x.1 x.2
theorem spec_srWorth_l0c (a1 : List Int) (a2 : Int) (a4 : List (List Int)) (a5 : List Int) (a6 : List Int) (a7 : Int) (a8 : Int) (a9 : Int) (a10 : Int) (a11 : Int) (x : Int × Int) : Ct fun r => spec_srWorth_l0F a1 a2 a4 a5 a6 a7 a8 a9 a10 a11 r x := by
  unfold spec_srWorth_l0F spec_srWorth_l0K
  repeat' (first | exact Ct.const | exact Ct.call | refine Ct.cond ?_ ?_ | refine Ct.bind ?_ fun _ => ?_ | refine Ct.sum (fun _ => ?_) fun _ => ?_)
def spec_srWorth_l0 (a1 : List Int) (a2 : Int) (a4 : List (List Int)) (a5 : List Int) (a6 : List Int) (a7 : Int) (a8 : Int) (a9 : Int) (a10 : Int) (a11 : Int) (a0 : Int) (a3 : Int) : Option (Int) := lim (spec_srWorth_l0F a1 a2 a4 a5 a6 a7 a8 a9 a10 a11) (a0, a3)
theorem spec_srWorth_l0_eq (a1 : List Int) (a2 : Int) (a4 : List (List Int)) (a5 : List Int) (a6 : List Int) (a7 : Int) (a8 : Int) (a9 : Int) (a10 : Int) (a11 : Int) (a0 : Int) (a3 : Int) : spec_srWorth_l0 a1 a2 a4 a5 a6 a7 a8 a9 a10 a11 a0 a3 = spec_srWorth_l0K a1 a2 a4 a5 a6 a7 a8 a9 a10 a11 (spec_srWorth_l0 a1 a2 a4 a5 a6 a7 a8 a9 a10 a11) some a0 a3 := lim_eq (spec_srWorth_l0c a1 a2 a4 a5 a6 a7 a8 a9 a10 a11) (a0, a3)
theorem spec_srWorth_l0p {R : Type} (a1 : List Int) (a2 : Int) (a4 : List (List Int)) (a5 : List Int) (a6 : List Int) (a7 : Int) (a8 : Int) (a9 : Int) (a10 : Int) (a11 : Int) {rc : Int → Int → Option (Int)} {rc' : Int → Int → Option R} {fin : Int → Option R} (hr : ∀ a0 a3, Par fin (rc a0 a3) (rc' a0 a3)) (a0 : Int) (a3 : Int) : Par fin (spec_srWorth_l0K a1 a2 a4 a5 a6 a7 a8 a9 a10 a11 rc some a0 a3) (spec_srWorth_l0K a1 a2 a4 a5 a6 a7 a8 a9 a10 a11 rc' fin a0 a3) := by
  unfold spec_srWorth_l0K
  repeat' (first | exact .fin | exact .none | exact hr _ _ | refine .cond ?_ ?_ | refine .bind fun _ => ?_ | refine .sum (fun _ => ?_) fun _ => ?_)
def Lspec_srWorth_l0 : Loop := mkL ⟨[2, 5, 8, 9, 10], [.slot 2], [], []⟩ sspec_srWorth_l0 xspec_srWorth_l0 (fun (x : (Unit × Int × (List Int) × Int × Int × Unit) × (((List (List Int)) × (List Int) × (List Int) × Int × Int × Int × Int × Int × Unit) × Unit)) => (x.1.2.2.1, (x.1.2.2.2.1, (x.2.1.1, (x.2.1.2.1, (x.2.1.2.2.1, (x.2.1.2.2.2.1, (x.2.1.2.2.2.2.1, (x.2.1.2.2.2.2.2.1, (x.2.1.2.2.2.2.2.2.1, x.2.1.2.2.2.2.2.2.2.1)))))))))) fun (x : (Unit × Int × (List Int) × Int × Int × Unit) × (((List (List Int)) × (List Int) × (List Int) × Int × Int × Int × Int × Int × Unit) × Unit)) => spec_srWorth_l0 x.1.2.2.1 x.1.2.2.2.1 x.2.1.1 x.2.1.2.1 x.2.1.2.2.1 x.2.1.2.2.2.1 x.2.1.2.2.2.2.1 x.2.1.2.2.2.2.2.1 x.2.1.2.2.2.2.2.2.1 x.2.1.2.2.2.2.2.2.2.1 x.1.2.1 x.1.2.2.2.2.1
def spec_srWorthK {R : Type} (fin : Int → Option R) (x0 : DJob) (x1 : List Int) : Option R :=
  (spec_srWorth_l0 x1 (x1.length : Int) x0.1 x0.2.1 x0.2.2.1 x0.2.2.2.1.1 x0.2.2.2.1.2.1 x0.2.2.2.2.1 x0.2.2.2.2.2.1 x0.2.2.2.2.2.2.1 0 0).bind fun y4 =>
  fin y4
def spec_srWorth (x0 : DJob) (x1 : List Int) : Option (Int) := spec_srWorthK some x0 x1
theorem p70 {R : Type} (fin : Int → Option R) (x0 : DJob) (x1 : List Int) : Par fin (spec_srWorthK some x0 x1) (spec_srWorthK fin x0 x1) := by
  unfold spec_srWorthK
  repeat' (first | exact .fin | exact .none | refine .cond ?_ ?_ | refine .bind fun _ => ?_ | refine .sum (fun _ => ?_) fun _ => ?_)
def or70 : Ora := { lo := addL 3 (Lspec_srWorth_l0) lo0, fin := [] }
theorem spec_srWorth_l0e (a1 : List Int) (a2 : Int) (a4 : List (List Int)) (a5 : List Int) (a6 : List Int) (a7 : Int) (a8 : Int) (a9 : Int) (a10 : Int) (a11 : Int) (k : Nat) (a0 : Int) (a3 : Int) : loopC Try.prog EL70 or70 ((loopsIn (codeOf Try.f70)).getD 0 .skip) (Lspec_srWorth_l0).h (Lspec_srWorth_l0).ho Try.f70.ntmps (k + 1) (sspec_srWorth_l0.out (((), (a0, (a1, (a2, (a3, ()))))), ((a4, (a5, (a6, (a7, (a8, (a9, (a10, (a11, ())))))))), ()))) =
    spec_srWorth_l0K a1 a2 a4 a5 a6 a7 a8 a9 a10 a11 (fun a0 a3 => loopC Try.prog EL70 or70 ((loopsIn (codeOf Try.f70)).getD 0 .skip) (Lspec_srWorth_l0).h (Lspec_srWorth_l0).ho Try.f70.ntmps k (sspec_srWorth_l0.out (((), (a0, (a1, (a2, (a3, ()))))), ((a4, (a5, (a6, (a7, (a8, (a9, (a10, (a11, ())))))))), ())))) (fun y => some (XS.out xspec_srWorth_l0 (a1, (a2, (a4, (a5, (a6, (a7, (a8, (a9, (a10, a11))))))))) y)) a0 a3 := by kernel_rfl
theorem spec_srWorth_l0o : LoopOk Try.prog EL70 or70 Try.f70.ntmps ((loopsIn (codeOf Try.f70)).getD 0 .skip) (Lspec_srWorth_l0) :=
  loop_lim (hs := sspec_srWorth_l0) (xs := xspec_srWorth_l0) (ι := fun (x : (Unit × Int × (List Int) × Int × Int × Unit) × (((List (List Int)) × (List Int) × (List Int) × Int × Int × Int × Int × Int × Unit) × Unit)) => (x.1.2.2.1, (x.1.2.2.2.1, (x.2.1.1, (x.2.1.2.1, (x.2.1.2.2.1, (x.2.1.2.2.2.1, (x.2.1.2.2.2.2.1, (x.2.1.2.2.2.2.2.1, (x.2.1.2.2.2.2.2.2.1, x.2.1.2.2.2.2.2.2.2.1)))))))))) (φ := fun (x : (Unit × Int × (List Int) × Int × Int × Unit) × (((List (List Int)) × (List Int) × (List Int) × Int × Int × Int × Int × Int × Unit) × Unit)) => (x.1.2.1, x.1.2.2.2.2.1)) (ψ := fun (i : (List Int) × Int × (List (List Int)) × (List Int) × (List Int) × Int × Int × Int × Int × Int) (v : Int × Int) => (((), (v.1, (i.1, (i.2.1, (v.2, ()))))), ((i.2.2.1, (i.2.2.2.1, (i.2.2.2.2.1, (i.2.2.2.2.2.1, (i.2.2.2.2.2.2.1, (i.2.2.2.2.2.2.2.1, (i.2.2.2.2.2.2.2.2.1, (i.2.2.2.2.2.2.2.2.2, ())))))))), ()))) (F := fun (i : (List Int) × Int × (List (List Int)) × (List Int) × (List Int) × Int × Int × Int × Int × Int) => spec_srWorth_l0F i.1 i.2.1 i.2.2.1 i.2.2.2.1 i.2.2.2.2.1 i.2.2.2.2.2.1 i.2.2.2.2.2.2.1 i.2.2.2.2.2.2.2.1 i.2.2.2.2.2.2.2.2.1 i.2.2.2.2.2.2.2.2.2) (fun _ => rfl) fun i k hk v => Par.of_eq (spec_srWorth_l0e i.1 i.2.1 i.2.2.1 i.2.2.2.1 i.2.2.2.2.1 i.2.2.2.2.2.1 i.2.2.2.2.2.2.1 i.2.2.2.2.2.2.2.1 i.2.2.2.2.2.2.2.2.1 i.2.2.2.2.2.2.2.2.2 k v.1 v.2) (spec_srWorth_l0p i.1 i.2.1 i.2.2.1 i.2.2.2.1 i.2.2.2.2.1 i.2.2.2.2.2.1 i.2.2.2.2.2.2.1 i.2.2.2.2.2.2.2.1 i.2.2.2.2.2.2.2.2.1 i.2.2.2.2.2.2.2.2.2 (fun a0 a3 => hk (a0, a3)) v.1 v.2)
def c70 : Callee := mkC [.agg [.ro TJob], .one (.ro (.slice (.int .i64)))] 1 [.one (.ro (.int .i64))] fun x => spec_srWorth x.1 x.2
theorem e70 (x : PK.dens [.agg [.ro TJob], .one (.ro (.slice (.int .i64)))]) : evalFn Try.prog EL70 or70 Try.f70 (PK.outs [.agg [.ro TJob], .one (.ro (.slice (.int .i64)))] x) =
    spec_srWorthK (fun y => some (tupOf ((PK.outs [.one (.ro (.int .i64))] y).take 1), (PK.outs [.one (.ro (.int .i64))] y).drop 1)) x.1 x.2 := by kernel_rfl
theorem o70 : LoOk Try.prog EL70 or70 Try.f70.ntmps (loopsIn (codeOf Try.f70)) :=
  LoOk.mk (m := 1) (by kernel_rfl) fun i hi => match i, hi with
    | 0, _ => ⟨Lspec_srWorth_l0, by kernel_rfl, spec_srWorth_l0o⟩
    | i + 1, hi => absurd hi (by omega)
theorem k70 : CalleeOk Try.prog 70 c70 := callee_mk Try.func70 (code := codeOf Try.f70) (by kernel_rfl) vL70 mixed o70 fun x y h => (e70 x).trans (p70 _ x.1 x.2 y h)
end
end Go.OAI
