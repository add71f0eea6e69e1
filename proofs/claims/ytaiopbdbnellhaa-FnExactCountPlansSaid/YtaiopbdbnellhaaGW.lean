/- Contracts: GW. -/
import Derived.Test.YtaiopbdbnellhaaGA
namespace Go.OAI
open Go.Proofs
set_option linter.unusedVariables false
noncomputable section


/-- impl.power -/
def EL84 : Nat → Option Callee := env0
theorem vL84 : EnvOk Try.prog EL84 := EnvOk.nil
def simpl_power_l0 : LS := ⟨[(0, .one (.dat (.int .i64))), (1, .one (.dat (.int .i64))), (5, .one (.dat (.int .i64)))], [], []⟩
def simpl_power_l0x0 : LS := ⟨[(5, .one (.dat (.int .i64)))], [], []⟩
def ximpl_power_l0 : List (XS (Int)) := [⟨.exit 0, ⟨[5], [], [], []⟩, simpl_power_l0x0, Int, fun i y => ((y, ()), ())⟩]
def impl_power_l0K {R : Type} (a0 : Int) (rc : Int → Int → Option R) (fin : Int → Option R) (a1 : Int) (a2 : Int) : Option R :=
  cond (decide (a1 > 0))
  (rc (IntKind.i64.wrap (a1 - 1)) (IntKind.i64.wrap (a2 * a0)))
  (fin a2)
def impl_power_l0F (a0 : Int) (r : (Int × Int) → Option (Int)) (x : Int × Int) : Option (Int) := impl_power_l0K a0 (fun a1 a2 => r (a1, a2)) some x.1 x.2
theorem impl_power_l0c (a0 : Int) (x : Int × Int) : Ct fun r => impl_power_l0F a0 r x := by
  unfold impl_power_l0F impl_power_l0K
  repeat' (first | exact Ct.const | exact Ct.call | refine Ct.cond ?_ ?_ | refine Ct.bind ?_ fun _ => ?_ | refine Ct.sum (fun _ => ?_) fun _ => ?_)
def impl_power_l0 (a0 : Int) (a1 : Int) (a2 : Int) : Option (Int) := lim (impl_power_l0F a0) (a1, a2)
theorem impl_power_l0_eq (a0 : Int) (a1 : Int) (a2 : Int) : impl_power_l0 a0 a1 a2 = impl_power_l0K a0 (impl_power_l0 a0) some a1 a2 := lim_eq (impl_power_l0c a0) (a1, a2)
theorem impl_power_l0p {R : Type} (a0 : Int) {rc : Int → Int → Option (Int)} {rc' : Int → Int → Option R} {fin : Int → Option R} (hr : ∀ a1 a2, Par fin (rc a1 a2) (rc' a1 a2)) (a1 : Int) (a2 : Int) : Par fin (impl_power_l0K a0 rc some a1 a2) (impl_power_l0K a0 rc' fin a1 a2) := by
  unfold impl_power_l0K
  repeat' (first | exact .fin | exact .none | exact hr _ _ | refine .cond ?_ ?_ | refine .bind fun _ => ?_ | refine .sum (fun _ => ?_) fun _ => ?_)
def Limpl_power_l0 : Loop := mkL ⟨[0, 1, 5], [], [], []⟩ simpl_power_l0 ximpl_power_l0 (fun (x : (Int × Int × Int × Unit) × (Unit)) => x.1.1) fun (x : (Int × Int × Int × Unit) × (Unit)) => impl_power_l0 x.1.1 x.1.2.1 x.1.2.2.1
def impl_powerK {R : Type} (fin : Int → Option R) (x0 : Int) (x1 : Int) : Option R :=
  (impl_power_l0 x0 x1 1).bind fun y1 =>
  fin y1
def impl_power (x0 : Int) (x1 : Int) : Option (Int) := impl_powerK some x0 x1
theorem p84 {R : Type} (fin : Int → Option R) (x0 : Int) (x1 : Int) : Par fin (impl_powerK some x0 x1) (impl_powerK fin x0 x1) := by
  unfold impl_powerK
  repeat' (first | exact .fin | exact .none | refine .cond ?_ ?_ | refine .bind fun _ => ?_ | refine .sum (fun _ => ?_) fun _ => ?_)
def or84 : Ora := { lo := addL 2 (Limpl_power_l0) lo0, fin := [] }
theorem impl_power_l0e (a0 : Int) (k : Nat) (a1 : Int) (a2 : Int) : loopC Try.prog EL84 or84 ((loopsIn (codeOf Try.f84)).getD 0 .skip) (Limpl_power_l0).h (Limpl_power_l0).ho Try.f84.ntmps (k + 1) (simpl_power_l0.out ((a0, (a1, (a2, ()))), ())) =
    impl_power_l0K a0 (fun a1 a2 => loopC Try.prog EL84 or84 ((loopsIn (codeOf Try.f84)).getD 0 .skip) (Limpl_power_l0).h (Limpl_power_l0).ho Try.f84.ntmps k (simpl_power_l0.out ((a0, (a1, (a2, ()))), ()))) (fun y => some (XS.out ximpl_power_l0 a0 y)) a1 a2 := by kernel_rfl
theorem impl_power_l0o : LoopOk Try.prog EL84 or84 Try.f84.ntmps ((loopsIn (codeOf Try.f84)).getD 0 .skip) (Limpl_power_l0) :=
  loop_lim (hs := simpl_power_l0) (xs := ximpl_power_l0) (ι := fun (x : (Int × Int × Int × Unit) × (Unit)) => x.1.1) (φ := fun (x : (Int × Int × Int × Unit) × (Unit)) => (x.1.2.1, x.1.2.2.1)) (ψ := fun (i : Int) (v : Int × Int) => ((i, (v.1, (v.2, ()))), ())) (F := fun (i : Int) => impl_power_l0F i) (fun _ => rfl) fun i k hk v => Par.of_eq (impl_power_l0e i k v.1 v.2) (impl_power_l0p i (fun a1 a2 => hk (a1, a2)) v.1 v.2)
def c84 : Callee := mkC [.one (.ro (.int .i64)), .one (.ro (.int .i64))] 1 [.one (.ro (.int .i64))] fun x => impl_power x.1 x.2
theorem e84 (x : PK.dens [.one (.ro (.int .i64)), .one (.ro (.int .i64))]) : evalFn Try.prog EL84 or84 Try.f84 (PK.outs [.one (.ro (.int .i64)), .one (.ro (.int .i64))] x) =
    impl_powerK (fun y => some (tupOf ((PK.outs [.one (.ro (.int .i64))] y).take 1), (PK.outs [.one (.ro (.int .i64))] y).drop 1)) x.1 x.2 := by kernel_rfl
theorem o84 : LoOk Try.prog EL84 or84 Try.f84.ntmps (loopsIn (codeOf Try.f84)) :=
  LoOk.mk (m := 1) (by kernel_rfl) fun i hi => match i, hi with
    | 0, _ => ⟨Limpl_power_l0, by kernel_rfl, impl_power_l0o⟩
    | i + 1, hi => absurd hi (by omega)
theorem k84 : CalleeOk Try.prog 84 c84 := callee_mk Try.func84 (code := codeOf Try.f84) (by kernel_rfl) vL84 mixed o84 fun x y h => (e84 x).trans (p84 _ x.1 x.2 y h)

/-- impl.scaledFactor -/
def EL92 : Nat → Option Callee := addE 84 c84 env0
theorem vL92 : EnvOk Try.prog EL92 := EnvOk.nil.add Try.func84 rfl (by kernel_rfl) k84
def impl_scaledFactorK {R : Type} (fin : Int → Option R) (x0 : DJob) (x1 : Int) : Option R :=
  cond (decide (x1 < 0))
  (fin 0)
  ((impl_power x0.2.2.2.2.2.1 x1).bind fun y1 =>
    (impl_power x0.2.2.2.2.2.2.1 (IntKind.i64.wrap ((IntKind.i64.wrap (x0.2.2.2.2.1 - 1)) - x1))).bind fun y2 =>
    fin (IntKind.i64.wrap (y1 * y2)))
def impl_scaledFactor (x0 : DJob) (x1 : Int) : Option (Int) := impl_scaledFactorK some x0 x1
theorem p92 {R : Type} (fin : Int → Option R) (x0 : DJob) (x1 : Int) : Par fin (impl_scaledFactorK some x0 x1) (impl_scaledFactorK fin x0 x1) := by
  unfold impl_scaledFactorK
  repeat' (first | exact .fin | exact .none | refine .cond ?_ ?_ | refine .bind fun _ => ?_ | refine .sum (fun _ => ?_) fun _ => ?_)
def c92 : Callee := mkC [.agg [.ro TJob], .one (.ro (.int .i64))] 1 [.one (.ro (.int .i64))] fun x => impl_scaledFactor x.1 x.2
theorem e92 (x : PK.dens [.agg [.ro TJob], .one (.ro (.int .i64))]) : evalFn Try.prog EL92 or0 Try.f92 (PK.outs [.agg [.ro TJob], .one (.ro (.int .i64))] x) =
    impl_scaledFactorK (fun y => some (tupOf ((PK.outs [.one (.ro (.int .i64))] y).take 1), (PK.outs [.one (.ro (.int .i64))] y).drop 1)) x.1 x.2 := by kernel_rfl
theorem k92 : CalleeOk Try.prog 92 c92 := callee_mk Try.func92 (code := codeOf Try.f92) (by kernel_rfl) vL92 mixed (LoOk.nil (by kernel_rfl)) fun x y h => (e92 x).trans (p92 _ x.1 x.2 y h)

/-- impl.periodWorths -/
def EL86 : Nat → Option Callee := addE 92 c92 env0
theorem vL86 : EnvOk Try.prog EL86 := EnvOk.nil.add Try.func92 rfl (by kernel_rfl) k92
def simpl_periodWorths_l0 : LS := ⟨[(2, .one (.fix (.ptr 0 0))), (5, .one (.fix (.sref 1))), (12, .one (.dat (.slice (.int .i64)))), (13, .one (.dat (.int .i64))), (14, .one (.dat (.int .i64)))], [.box [.dat (.slice (.slice (.int .i64))), .dat (.slice (.int .i64)), .dat (.slice (.int .i64)), .dat (.int .i64), .dat (.int .i64), .dat (.int .i64), .dat (.int .i64), .dat (.int .i64)], .sl (.int .i64)], []⟩
def simpl_periodWorths_l0x0 : LS := ⟨[(5, .one (.fix (.sref 0)))], [.sl (.int .i64)], []⟩
def ximpl_periodWorths_l0 : List (XS ((List Int) × Int × (List (List Int)) × (List Int) × (List Int) × Int × Int × Int × Int × Int)) := [⟨.exit 0, ⟨[5], [.slot 5], [], []⟩, simpl_periodWorths_l0x0, List Int, fun i y => (((), ()), (y, ()))⟩]
def impl_periodWorths_l0K {R : Type} (a0 : List Int) (a1 : Int) (a3 : List (List Int)) (a4 : List Int) (a5 : List Int) (a6 : Int) (a7 : Int) (a8 : Int) (a9 : Int) (a10 : Int) (rc : Int → List Int → Option R) (fin : List Int → Option R) (a2 : Int) (a11 : List Int) : Option R :=
  cond (decide (a2 < a1))
  ((lat a0 a2).bind fun e1 =>
    cond (decide (e1 ≥ 0))
    (cond (decide ((0 : Int) ≤ e1) && decide (e1 < (a11.length : Int)))
      ((lat a5 a2).bind fun e2 =>
        (impl_scaledFactor (a3, (a4, (a5, ((a6, (a7, ())), (a8, (a9, (a10, ()))))))) e1).bind fun y3 =>
        (some (IntKind.i64.wrap ((a11.getD (0 + e1.toNat) 0) + (IntKind.i64.wrap (e2 * y3))))).bind fun v4 =>
        cond (decide ((0 : Int) ≤ e1) && decide (e1 < (a11.length : Int)))
        ((some (a11.set (0 + e1.toNat) v4)).bind fun v5 =>
          rc (IntKind.i64.wrap (a2 + 1)) v5)
        (none))
      (none))
    (rc (IntKind.i64.wrap (a2 + 1)) a11))
  (fin a11)
def impl_periodWorths_l0F (a0 : List Int) (a1 : Int) (a3 : List (List Int)) (a4 : List Int) (a5 : List Int) (a6 : Int) (a7 : Int) (a8 : Int) (a9 : Int) (a10 : Int) (r : (Int × (List Int)) → Option (List Int)) (x : Int × (List Int)) : Option (List Int) := impl_periodWorths_l0K a0 a1 a3 a4 a5 a6 a7 a8 a9 a10 (fun a2 a11 => r (a2, a11)) some x.1 x.2
theorem impl_periodWorths_l0c (a0 : List Int) (a1 : Int) (a3 : List (List Int)) (a4 : List Int) (a5 : List Int) (a6 : Int) (a7 : Int) (a8 : Int) (a9 : Int) (a10 : Int) (x : Int × (List Int)) : Ct fun r => impl_periodWorths_l0F a0 a1 a3 a4 a5 a6 a7 a8 a9 a10 r x := by
  unfold impl_periodWorths_l0F impl_periodWorths_l0K
  repeat' (first | exact Ct.const | exact Ct.call | refine Ct.cond ?_ ?_ | refine Ct.bind ?_ fun _ => ?_ | refine Ct.sum (fun _ => ?_) fun _ => ?_)
def impl_periodWorths_l0 (a0 : List Int) (a1 : Int) (a3 : List (List Int)) (a4 : List Int) (a5 : List Int) (a6 : Int) (a7 : Int) (a8 : Int) (a9 : Int) (a10 : Int) (a2 : Int) (a11 : List Int) : Option (List Int) := lim (impl_periodWorths_l0F a0 a1 a3 a4 a5 a6 a7 a8 a9 a10) (a2, a11)
theorem impl_periodWorths_l0_eq (a0 : List Int) (a1 : Int) (a3 : List (List Int)) (a4 : List Int) (a5 : List Int) (a6 : Int) (a7 : Int) (a8 : Int) (a9 : Int) (a10 : Int) (a2 : Int) (a11 : List Int) : impl_periodWorths_l0 a0 a1 a3 a4 a5 a6 a7 a8 a9 a10 a2 a11 = impl_periodWorths_l0K a0 a1 a3 a4 a5 a6 a7 a8 a9 a10 (impl_periodWorths_l0 a0 a1 a3 a4 a5 a6 a7 a8 a9 a10) some a2 a11 := lim_eq (impl_periodWorths_l0c a0 a1 a3 a4 a5 a6 a7 a8 a9 a10) (a2, a11)
theorem impl_periodWorths_l0p {R : Type} (a0 : List Int) (a1 : Int) (a3 : List (List Int)) (a4 : List Int) (a5 : List Int) (a6 : Int) (a7 : Int) (a8 : Int) (a9 : Int) (a10 : Int) {rc : Int → List Int → Option (List Int)} {rc' : Int → List Int → Option R} {fin : List Int → Option R} (hr : ∀ a2 a11, Par fin (rc a2 a11) (rc' a2 a11)) (a2 : Int) (a11 : List Int) : Par fin (impl_periodWorths_l0K a0 a1 a3 a4 a5 a6 a7 a8 a9 a10 rc some a2 a11) (impl_periodWorths_l0K a0 a1 a3 a4 a5 a6 a7 a8 a9 a10 rc' fin a2 a11) := by
  unfold impl_periodWorths_l0K
  repeat' (first | exact .fin | exact .none | exact hr _ _ | refine .cond ?_ ?_ | refine .bind fun _ => ?_ | refine .sum (fun _ => ?_) fun _ => ?_)
def Limpl_periodWorths_l0 : Loop := mkL ⟨[2, 5, 12, 13, 14], [.slot 2, .slot 5], [], []⟩ simpl_periodWorths_l0 ximpl_periodWorths_l0 (fun (x : (Unit × Unit × (List Int) × Int × Int × Unit) × (((List (List Int)) × (List Int) × (List Int) × Int × Int × Int × Int × Int × Unit) × (List Int) × Unit)) => (x.1.2.2.1, (x.1.2.2.2.1, (x.2.1.1, (x.2.1.2.1, (x.2.1.2.2.1, (x.2.1.2.2.2.1, (x.2.1.2.2.2.2.1, (x.2.1.2.2.2.2.2.1, (x.2.1.2.2.2.2.2.2.1, x.2.1.2.2.2.2.2.2.2.1)))))))))) fun (x : (Unit × Unit × (List Int) × Int × Int × Unit) × (((List (List Int)) × (List Int) × (List Int) × Int × Int × Int × Int × Int × Unit) × (List Int) × Unit)) => impl_periodWorths_l0 x.1.2.2.1 x.1.2.2.2.1 x.2.1.1 x.2.1.2.1 x.2.1.2.2.1 x.2.1.2.2.2.1 x.2.1.2.2.2.2.1 x.2.1.2.2.2.2.2.1 x.2.1.2.2.2.2.2.2.1 x.2.1.2.2.2.2.2.2.2.1 x.1.2.2.2.2.1 x.2.2.1
def impl_periodWorthsK {R : Type} (fin : List Int → Option R) (x0 : DJob) (x1 : DPlan) : Option R :=
  cond (decide ((0 : Int) ≤ x0.2.2.2.2.1) && (decide (x0.2.2.2.2.1 ≤ x0.2.2.2.2.1) && decide (x0.2.2.2.2.1 ≤ 1099511627776)))
  ((some ((List.replicate x0.2.2.2.2.1.toNat 0 : List Int))).bind fun v1 =>
    (impl_periodWorths_l0 x1.2.1 (x1.2.1.length : Int) x0.1 x0.2.1 x0.2.2.1 x0.2.2.2.1.1 x0.2.2.2.1.2.1 x0.2.2.2.2.1 x0.2.2.2.2.2.1 x0.2.2.2.2.2.2.1 0 v1).bind fun y7 =>
    fin y7)
  (none)
def impl_periodWorths (x0 : DJob) (x1 : DPlan) : Option (List Int) := impl_periodWorthsK some x0 x1
theorem p86 {R : Type} (fin : List Int → Option R) (x0 : DJob) (x1 : DPlan) : Par fin (impl_periodWorthsK some x0 x1) (impl_periodWorthsK fin x0 x1) := by
  unfold impl_periodWorthsK
  repeat' (first | exact .fin | exact .none | refine .cond ?_ ?_ | refine .bind fun _ => ?_ | refine .sum (fun _ => ?_) fun _ => ?_)
def or86 : Ora := { lo := addL 3 (Limpl_periodWorths_l0) lo0, fin := [] }
theorem impl_periodWorths_l0e (a0 : List Int) (a1 : Int) (a3 : List (List Int)) (a4 : List Int) (a5 : List Int) (a6 : Int) (a7 : Int) (a8 : Int) (a9 : Int) (a10 : Int) (k : Nat) (a2 : Int) (a11 : List Int) : loopC Try.prog EL86 or86 ((loopsIn (codeOf Try.f86)).getD 0 .skip) (Limpl_periodWorths_l0).h (Limpl_periodWorths_l0).ho Try.f86.ntmps (k + 1) (simpl_periodWorths_l0.out (((), ((), (a0, (a1, (a2, ()))))), ((a3, (a4, (a5, (a6, (a7, (a8, (a9, (a10, ())))))))), (a11, ())))) =
    impl_periodWorths_l0K a0 a1 a3 a4 a5 a6 a7 a8 a9 a10 (fun a2 a11 => loopC Try.prog EL86 or86 ((loopsIn (codeOf Try.f86)).getD 0 .skip) (Limpl_periodWorths_l0).h (Limpl_periodWorths_l0).ho Try.f86.ntmps k (simpl_periodWorths_l0.out (((), ((), (a0, (a1, (a2, ()))))), ((a3, (a4, (a5, (a6, (a7, (a8, (a9, (a10, ())))))))), (a11, ()))))) (fun y => some (XS.out ximpl_periodWorths_l0 (a0, (a1, (a3, (a4, (a5, (a6, (a7, (a8, (a9, a10))))))))) y)) a2 a11 := by kernel_rfl
theorem impl_periodWorths_l0o : LoopOk Try.prog EL86 or86 Try.f86.ntmps ((loopsIn (codeOf Try.f86)).getD 0 .skip) (Limpl_periodWorths_l0) :=
  loop_lim (hs := simpl_periodWorths_l0) (xs := ximpl_periodWorths_l0) (ι := fun (x : (Unit × Unit × (List Int) × Int × Int × Unit) × (((List (List Int)) × (List Int) × (List Int) × Int × Int × Int × Int × Int × Unit) × (List Int) × Unit)) => (x.1.2.2.1, (x.1.2.2.2.1, (x.2.1.1, (x.2.1.2.1, (x.2.1.2.2.1, (x.2.1.2.2.2.1, (x.2.1.2.2.2.2.1, (x.2.1.2.2.2.2.2.1, (x.2.1.2.2.2.2.2.2.1, x.2.1.2.2.2.2.2.2.2.1)))))))))) (φ := fun (x : (Unit × Unit × (List Int) × Int × Int × Unit) × (((List (List Int)) × (List Int) × (List Int) × Int × Int × Int × Int × Int × Unit) × (List Int) × Unit)) => (x.1.2.2.2.2.1, x.2.2.1)) (ψ := fun (i : (List Int) × Int × (List (List Int)) × (List Int) × (List Int) × Int × Int × Int × Int × Int) (v : Int × (List Int)) => (((), ((), (i.1, (i.2.1, (v.1, ()))))), ((i.2.2.1, (i.2.2.2.1, (i.2.2.2.2.1, (i.2.2.2.2.2.1, (i.2.2.2.2.2.2.1, (i.2.2.2.2.2.2.2.1, (i.2.2.2.2.2.2.2.2.1, (i.2.2.2.2.2.2.2.2.2, ())))))))), (v.2, ())))) (F := fun (i : (List Int) × Int × (List (List Int)) × (List Int) × (List Int) × Int × Int × Int × Int × Int) => impl_periodWorths_l0F i.1 i.2.1 i.2.2.1 i.2.2.2.1 i.2.2.2.2.1 i.2.2.2.2.2.1 i.2.2.2.2.2.2.1 i.2.2.2.2.2.2.2.1 i.2.2.2.2.2.2.2.2.1 i.2.2.2.2.2.2.2.2.2) (fun _ => rfl) fun i k hk v => Par.of_eq (impl_periodWorths_l0e i.1 i.2.1 i.2.2.1 i.2.2.2.1 i.2.2.2.2.1 i.2.2.2.2.2.1 i.2.2.2.2.2.2.1 i.2.2.2.2.2.2.2.1 i.2.2.2.2.2.2.2.2.1 i.2.2.2.2.2.2.2.2.2 k v.1 v.2) (impl_periodWorths_l0p i.1 i.2.1 i.2.2.1 i.2.2.2.1 i.2.2.2.2.1 i.2.2.2.2.2.1 i.2.2.2.2.2.2.1 i.2.2.2.2.2.2.2.1 i.2.2.2.2.2.2.2.2.1 i.2.2.2.2.2.2.2.2.2 (fun a2 a11 => hk (a2, a11)) v.1 v.2)
def c86 : Callee := mkC [.agg [.ro TJob], .agg [.ro TPlan]] 1 [.one (.sl (.int .i64))] fun x => impl_periodWorths x.1 x.2
theorem e86 (x : PK.dens [.agg [.ro TJob], .agg [.ro TPlan]]) : evalFn Try.prog EL86 or86 Try.f86 (PK.outs [.agg [.ro TJob], .agg [.ro TPlan]] x) =
    impl_periodWorthsK (fun y => some (tupOf ((PK.outs [.one (.sl (.int .i64))] y).take 1), (PK.outs [.one (.sl (.int .i64))] y).drop 1)) x.1 x.2 := by kernel_rfl
theorem o86 : LoOk Try.prog EL86 or86 Try.f86.ntmps (loopsIn (codeOf Try.f86)) :=
  LoOk.mk (m := 1) (by kernel_rfl) fun i hi => match i, hi with
    | 0, _ => ⟨Limpl_periodWorths_l0, by kernel_rfl, impl_periodWorths_l0o⟩
    | i + 1, hi => absurd hi (by omega)
theorem k86 : CalleeOk Try.prog 86 c86 := callee_mk Try.func86 (code := codeOf Try.f86) (by kernel_rfl) vL86 mixed o86 fun x y h => (e86 x).trans (p86 _ x.1 x.2 y h)

/-- impl.scaledWorth -/
def EL58 : Nat → Option Callee := addE 86 c86 env0
theorem vL58 : EnvOk Try.prog EL58 := EnvOk.nil.add Try.func86 rfl (by kernel_rfl) k86
def simpl_scaledWorth_l0 : LS := ⟨[(5, .one (.dat (.int .i64))), (10, .one (.fix (.sref 0))), (11, .one (.dat (.int .i64))), (12, .one (.dat (.int .i64)))], [.sl (.int .i64)], []⟩
def simpl_scaledWorth_l0x0 : LS := ⟨[(5, .one (.dat (.int .i64)))], [], []⟩
def ximpl_scaledWorth_l0 : List (XS (Int × (List Int))) := [⟨.exit 0, ⟨[5], [], [], []⟩, simpl_scaledWorth_l0x0, Int, fun i y => ((y, ()), ())⟩]
def impl_scaledWorth_l0K {R : Type} (a1 : Int) (a3 : List Int) (rc : Int → Int → Option R) (fin : Int → Option R) (a0 : Int) (a2 : Int) : Option R :=
  cond (decide (a2 < a1))
  (cond (decide ((0 : Int) ≤ a2) && decide (a2 < (a3.length : Int)))
    (rc (IntKind.i64.wrap (a0 + (a3.getD (0 + a2.toNat) 0))) (IntKind.i64.wrap (a2 + 1)))
    (none))
  (fin a0)
def impl_scaledWorth_l0F (a1 : Int) (a3 : List Int) (r : (Int × Int) → Option (Int)) (x : Int × Int) : Option (Int) := impl_scaledWorth_l0K a1 a3 (fun a0 a2 => r (a0, a2)) some x.1 x.2
theorem impl_scaledWorth_l0c (a1 : Int) (a3 : List Int) (x : Int × Int) : Ct fun r => impl_scaledWorth_l0F a1 a3 r x := by
  unfold impl_scaledWorth_l0F impl_scaledWorth_l0K
  repeat' (first | exact Ct.const | exact Ct.call | refine Ct.cond ?_ ?_ | refine Ct.bind ?_ fun _ => ?_ | refine Ct.sum (fun _ => ?_) fun _ => ?_)
def impl_scaledWorth_l0 (a1 : Int) (a3 : List Int) (a0 : Int) (a2 : Int) : Option (Int) := lim (impl_scaledWorth_l0F a1 a3) (a0, a2)
theorem impl_scaledWorth_l0_eq (a1 : Int) (a3 : List Int) (a0 : Int) (a2 : Int) : impl_scaledWorth_l0 a1 a3 a0 a2 = impl_scaledWorth_l0K a1 a3 (impl_scaledWorth_l0 a1 a3) some a0 a2 := lim_eq (impl_scaledWorth_l0c a1 a3) (a0, a2)
theorem impl_scaledWorth_l0p {R : Type} (a1 : Int) (a3 : List Int) {rc : Int → Int → Option (Int)} {rc' : Int → Int → Option R} {fin : Int → Option R} (hr : ∀ a0 a2, Par fin (rc a0 a2) (rc' a0 a2)) (a0 : Int) (a2 : Int) : Par fin (impl_scaledWorth_l0K a1 a3 rc some a0 a2) (impl_scaledWorth_l0K a1 a3 rc' fin a0 a2) := by
  unfold impl_scaledWorth_l0K
  repeat' (first | exact .fin | exact .none | exact hr _ _ | refine .cond ?_ ?_ | refine .bind fun _ => ?_ | refine .sum (fun _ => ?_) fun _ => ?_)
def Limpl_scaledWorth_l0 : Loop := mkL ⟨[5, 10, 11, 12], [.slot 10], [], []⟩ simpl_scaledWorth_l0 ximpl_scaledWorth_l0 (fun (x : (Int × Unit × Int × Int × Unit) × ((List Int) × Unit)) => (x.1.2.2.1, x.2.1)) fun (x : (Int × Unit × Int × Int × Unit) × ((List Int) × Unit)) => impl_scaledWorth_l0 x.1.2.2.1 x.2.1 x.1.1 x.1.2.2.2.1
def impl_scaledWorthK {R : Type} (fin : Int → Option R) (x0 : DJob) (x1 : DPlan) : Option R :=
  (impl_periodWorths x0 x1).bind fun y1 =>
  (impl_scaledWorth_l0 (y1.length : Int) y1 0 0).bind fun y2 =>
  fin y2
def impl_scaledWorth (x0 : DJob) (x1 : DPlan) : Option (Int) := impl_scaledWorthK some x0 x1
theorem p58 {R : Type} (fin : Int → Option R) (x0 : DJob) (x1 : DPlan) : Par fin (impl_scaledWorthK some x0 x1) (impl_scaledWorthK fin x0 x1) := by
  unfold impl_scaledWorthK
  repeat' (first | exact .fin | exact .none | refine .cond ?_ ?_ | refine .bind fun _ => ?_ | refine .sum (fun _ => ?_) fun _ => ?_)
def or58 : Ora := { lo := addL 3 (Limpl_scaledWorth_l0) lo0, fin := [] }
theorem impl_scaledWorth_l0e (a1 : Int) (a3 : List Int) (k : Nat) (a0 : Int) (a2 : Int) : loopC Try.prog EL58 or58 ((loopsIn (codeOf Try.f58)).getD 0 .skip) (Limpl_scaledWorth_l0).h (Limpl_scaledWorth_l0).ho Try.f58.ntmps (k + 1) (simpl_scaledWorth_l0.out ((a0, ((), (a1, (a2, ())))), (a3, ()))) =
    impl_scaledWorth_l0K a1 a3 (fun a0 a2 => loopC Try.prog EL58 or58 ((loopsIn (codeOf Try.f58)).getD 0 .skip) (Limpl_scaledWorth_l0).h (Limpl_scaledWorth_l0).ho Try.f58.ntmps k (simpl_scaledWorth_l0.out ((a0, ((), (a1, (a2, ())))), (a3, ())))) (fun y => some (XS.out ximpl_scaledWorth_l0 (a1, a3) y)) a0 a2 := by kernel_rfl
theorem impl_scaledWorth_l0o : LoopOk Try.prog EL58 or58 Try.f58.ntmps ((loopsIn (codeOf Try.f58)).getD 0 .skip) (Limpl_scaledWorth_l0) :=
  loop_lim (hs := simpl_scaledWorth_l0) (xs := ximpl_scaledWorth_l0) (ι := fun (x : (Int × Unit × Int × Int × Unit) × ((List Int) × Unit)) => (x.1.2.2.1, x.2.1)) (φ := fun (x : (Int × Unit × Int × Int × Unit) × ((List Int) × Unit)) => (x.1.1, x.1.2.2.2.1)) (ψ := fun (i : Int × (List Int)) (v : Int × Int) => ((v.1, ((), (i.1, (v.2, ())))), (i.2, ()))) (F := fun (i : Int × (List Int)) => impl_scaledWorth_l0F i.1 i.2) (fun _ => rfl) fun i k hk v => Par.of_eq (impl_scaledWorth_l0e i.1 i.2 k v.1 v.2) (impl_scaledWorth_l0p i.1 i.2 (fun a0 a2 => hk (a0, a2)) v.1 v.2)
def c58 : Callee := mkC [.agg [.ro TJob], .agg [.ro TPlan]] 1 [.one (.ro (.int .i64))] fun x => impl_scaledWorth x.1 x.2
theorem e58 (x : PK.dens [.agg [.ro TJob], .agg [.ro TPlan]]) : evalFn Try.prog EL58 or58 Try.f58 (PK.outs [.agg [.ro TJob], .agg [.ro TPlan]] x) =
    impl_scaledWorthK (fun y => some (tupOf ((PK.outs [.one (.ro (.int .i64))] y).take 1), (PK.outs [.one (.ro (.int .i64))] y).drop 1)) x.1 x.2 := by kernel_rfl
theorem o58 : LoOk Try.prog EL58 or58 Try.f58.ntmps (loopsIn (codeOf Try.f58)) :=
  LoOk.mk (m := 1) (by kernel_rfl) fun i hi => match i, hi with
    | 0, _ => ⟨Limpl_scaledWorth_l0, by kernel_rfl, impl_scaledWorth_l0o⟩
    | i + 1, hi => absurd hi (by omega)
theorem k58 : CalleeOk Try.prog 58 c58 := callee_mk Try.func58 (code := codeOf Try.f58) (by kernel_rfl) vL58 mixed o58 fun x y h => (e58 x).trans (p58 _ x.1 x.2 y h)

/-- spec.srPower -/
def EL82 : Nat → Option Callee := env0
theorem vL82 : EnvOk Try.prog EL82 := EnvOk.nil
def sspec_srPower_l0 : LS := ⟨[(0, .one (.dat (.int .i64))), (1, .one (.dat (.int .i64))), (5, .one (.dat (.int .i64)))], [], []⟩
def sspec_srPower_l0x0 : LS := ⟨[(5, .one (.dat (.int .i64)))], [], []⟩
def xspec_srPower_l0 : List (XS (Int)) := [⟨.exit 0, ⟨[5], [], [], []⟩, sspec_srPower_l0x0, Int, fun i y => ((y, ()), ())⟩]
def spec_srPower_l0K {R : Type} (a0 : Int) (rc : Int → Int → Option R) (fin : Int → Option R) (a1 : Int) (a2 : Int) : Option R :=
  cond (decide (a1 > 0))
  (rc (IntKind.i64.wrap (a1 - 1)) (IntKind.i64.wrap (a2 * a0)))
  (fin a2)
def spec_srPower_l0F (a0 : Int) (r : (Int × Int) → Option (Int)) (x : Int × Int) : Option (Int) := spec_srPower_l0K a0 (fun a1 a2 => r (a1, a2)) some x.1 x.2
theorem spec_srPower_l0c (a0 : Int) (x : Int × Int) : Ct fun r => spec_srPower_l0F a0 r x := by
  unfold spec_srPower_l0F spec_srPower_l0K
  repeat' (first | exact Ct.const | exact Ct.call | refine Ct.cond ?_ ?_ | refine Ct.bind ?_ fun _ => ?_ | refine Ct.sum (fun _ => ?_) fun _ => ?_)
def spec_srPower_l0 (a0 : Int) (a1 : Int) (a2 : Int) : Option (Int) := lim (spec_srPower_l0F a0) (a1, a2)
theorem spec_srPower_l0_eq (a0 : Int) (a1 : Int) (a2 : Int) : spec_srPower_l0 a0 a1 a2 = spec_srPower_l0K a0 (spec_srPower_l0 a0) some a1 a2 := lim_eq (spec_srPower_l0c a0) (a1, a2)
theorem spec_srPower_l0p {R : Type} (a0 : Int) {rc : Int → Int → Option (Int)} {rc' : Int → Int → Option R} {fin : Int → Option R} (hr : ∀ a1 a2, Par fin (rc a1 a2) (rc' a1 a2)) (a1 : Int) (a2 : Int) : Par fin (spec_srPower_l0K a0 rc some a1 a2) (spec_srPower_l0K a0 rc' fin a1 a2) := by
  unfold spec_srPower_l0K
  repeat' (first | exact .fin | exact .none | exact hr _ _ | refine .cond ?_ ?_ | refine .bind fun _ => ?_ | refine .sum (fun _ => ?_) fun _ => ?_)
def Lspec_srPower_l0 : Loop := mkL ⟨[0, 1, 5], [], [], []⟩ sspec_srPower_l0 xspec_srPower_l0 (fun (x : (Int × Int × Int × Unit) × (Unit)) => x.1.1) fun (x : (Int × Int × Int × Unit) × (Unit)) => spec_srPower_l0 x.1.1 x.1.2.1 x.1.2.2.1
def spec_srPowerK {R : Type} (fin : Int → Option R) (x0 : Int) (x1 : Int) : Option R :=
  (spec_srPower_l0 x0 x1 1).bind fun y1 =>
  fin y1
def spec_srPower (x0 : Int) (x1 : Int) : Option (Int) := spec_srPowerK some x0 x1
theorem p82 {R : Type} (fin : Int → Option R) (x0 : Int) (x1 : Int) : Par fin (spec_srPowerK some x0 x1) (spec_srPowerK fin x0 x1) := by
  unfold spec_srPowerK
  repeat' (first | exact .fin | exact .none | refine .cond ?_ ?_ | refine .bind fun _ => ?_ | refine .sum (fun _ => ?_) fun _ => ?_)
def or82 : Ora := { lo := addL 2 (Lspec_srPower_l0) lo0, fin := [] }
theorem spec_srPower_l0e (a0 : Int) (k : Nat) (a1 : Int) (a2 : Int) : loopC Try.prog EL82 or82 ((loopsIn (codeOf Try.f82)).getD 0 .skip) (Lspec_srPower_l0).h (Lspec_srPower_l0).ho Try.f82.ntmps (k + 1) (sspec_srPower_l0.out ((a0, (a1, (a2, ()))), ())) =
    spec_srPower_l0K a0 (fun a1 a2 => loopC Try.prog EL82 or82 ((loopsIn (codeOf Try.f82)).getD 0 .skip) (Lspec_srPower_l0).h (Lspec_srPower_l0).ho Try.f82.ntmps k (sspec_srPower_l0.out ((a0, (a1, (a2, ()))), ()))) (fun y => some (XS.out xspec_srPower_l0 a0 y)) a1 a2 := by kernel_rfl
theorem spec_srPower_l0o : LoopOk Try.prog EL82 or82 Try.f82.ntmps ((loopsIn (codeOf Try.f82)).getD 0 .skip) (Lspec_srPower_l0) :=
  loop_lim (hs := sspec_srPower_l0) (xs := xspec_srPower_l0) (ι := fun (x : (Int × Int × Int × Unit) × (Unit)) => x.1.1) (φ := fun (x : (Int × Int × Int × Unit) × (Unit)) => (x.1.2.1, x.1.2.2.1)) (ψ := fun (i : Int) (v : Int × Int) => ((i, (v.1, (v.2, ()))), ())) (F := fun (i : Int) => spec_srPower_l0F i) (fun _ => rfl) fun i k hk v => Par.of_eq (spec_srPower_l0e i k v.1 v.2) (spec_srPower_l0p i (fun a1 a2 => hk (a1, a2)) v.1 v.2)
def c82 : Callee := mkC [.one (.ro (.int .i64)), .one (.ro (.int .i64))] 1 [.one (.ro (.int .i64))] fun x => spec_srPower x.1 x.2
theorem e82 (x : PK.dens [.one (.ro (.int .i64)), .one (.ro (.int .i64))]) : evalFn Try.prog EL82 or82 Try.f82 (PK.outs [.one (.ro (.int .i64)), .one (.ro (.int .i64))] x) =
    spec_srPowerK (fun y => some (tupOf ((PK.outs [.one (.ro (.int .i64))] y).take 1), (PK.outs [.one (.ro (.int .i64))] y).drop 1)) x.1 x.2 := by kernel_rfl
theorem o82 : LoOk Try.prog EL82 or82 Try.f82.ntmps (loopsIn (codeOf Try.f82)) :=
  LoOk.mk (m := 1) (by kernel_rfl) fun i hi => match i, hi with
    | 0, _ => ⟨Lspec_srPower_l0, by kernel_rfl, spec_srPower_l0o⟩
    | i + 1, hi => absurd hi (by omega)
theorem k82 : CalleeOk Try.prog 82 c82 := callee_mk Try.func82 (code := codeOf Try.f82) (by kernel_rfl) vL82 mixed o82 fun x y h => (e82 x).trans (p82 _ x.1 x.2 y h)

/-- spec.srFactor -/
def EL85 : Nat → Option Callee := addE 82 c82 env0
theorem vL85 : EnvOk Try.prog EL85 := EnvOk.nil.add Try.func82 rfl (by kernel_rfl) k82
def spec_srFactorK {R : Type} (fin : Int → Option R) (x0 : DJob) (x1 : Int) : Option R :=
  (spec_srPower x0.2.2.2.2.2.1 x1).bind fun y1 =>
  (spec_srPower x0.2.2.2.2.2.2.1 (IntKind.i64.wrap ((IntKind.i64.wrap (x0.2.2.2.2.1 - 1)) - x1))).bind fun y2 =>
  fin (IntKind.i64.wrap (y1 * y2))
def spec_srFactor (x0 : DJob) (x1 : Int) : Option (Int) := spec_srFactorK some x0 x1
theorem p85 {R : Type} (fin : Int → Option R) (x0 : DJob) (x1 : Int) : Par fin (spec_srFactorK some x0 x1) (spec_srFactorK fin x0 x1) := by
  unfold spec_srFactorK
  repeat' (first | exact .fin | exact .none | refine .cond ?_ ?_ | refine .bind fun _ => ?_ | refine .sum (fun _ => ?_) fun _ => ?_)
def c85 : Callee := mkC [.agg [.ro TJob], .one (.ro (.int .i64))] 1 [.one (.ro (.int .i64))] fun x => spec_srFactor x.1 x.2
theorem e85 (x : PK.dens [.agg [.ro TJob], .one (.ro (.int .i64))]) : evalFn Try.prog EL85 or0 Try.f85 (PK.outs [.agg [.ro TJob], .one (.ro (.int .i64))] x) =
    spec_srFactorK (fun y => some (tupOf ((PK.outs [.one (.ro (.int .i64))] y).take 1), (PK.outs [.one (.ro (.int .i64))] y).drop 1)) x.1 x.2 := by kernel_rfl
theorem k85 : CalleeOk Try.prog 85 c85 := callee_mk Try.func85 (code := codeOf Try.f85) (by kernel_rfl) vL85 mixed (LoOk.nil (by kernel_rfl)) fun x y h => (e85 x).trans (p85 _ x.1 x.2 y h)

/-- spec.srWorth -/
def EL56 : Nat → Option Callee := addE 85 c85 env0
theorem vL56 : EnvOk Try.prog EL56 := EnvOk.nil.add Try.func85 rfl (by kernel_rfl) k85
def sspec_srWorth_l0 : LS := ⟨[(2, .one (.fix (.ptr 0 0))), (5, .one (.dat (.int .i64))), (8, .one (.dat (.slice (.int .i64)))), (9, .one (.dat (.int .i64))), (10, .one (.dat (.int .i64)))], [.box [.dat (.slice (.slice (.int .i64))), .dat (.slice (.int .i64)), .dat (.slice (.int .i64)), .dat (.int .i64), .dat (.int .i64), .dat (.int .i64), .dat (.int .i64), .dat (.int .i64)]], []⟩
def sspec_srWorth_l0x0 : LS := ⟨[(5, .one (.dat (.int .i64)))], [], []⟩
def xspec_srWorth_l0 : List (XS ((List Int) × Int × (List (List Int)) × (List Int) × (List Int) × Int × Int × Int × Int × Int)) := [⟨.exit 0, ⟨[5], [], [], []⟩, sspec_srWorth_l0x0, Int, fun i y => ((y, ()), ())⟩]
def spec_srWorth_l0K {R : Type} (a1 : List Int) (a2 : Int) (a4 : List (List Int)) (a5 : List Int) (a6 : List Int) (a7 : Int) (a8 : Int) (a9 : Int) (a10 : Int) (a11 : Int) (rc : Int → Int → Option R) (fin : Int → Option R) (a0 : Int) (a3 : Int) : Option R :=
  cond (decide (a3 < a2))
  ((lat a1 a3).bind fun e1 =>
    cond (decide (e1 ≥ 0))
    ((lat a6 a3).bind fun e2 =>
      (spec_srFactor (a4, (a5, (a6, ((a7, (a8, ())), (a9, (a10, (a11, ()))))))) e1).bind fun y3 =>
      rc (IntKind.i64.wrap (a0 + (IntKind.i64.wrap (e2 * y3)))) (IntKind.i64.wrap (a3 + 1)))
    (rc a0 (IntKind.i64.wrap (a3 + 1))))
  (fin a0)
def spec_srWorth_l0F (a1 : List Int) (a2 : Int) (a4 : List (List Int)) (a5 : List Int) (a6 : List Int) (a7 : Int) (a8 : Int) (a9 : Int) (a10 : Int) (a11 : Int) (r : (Int × Int) → Option (Int)) (x : Int × Int) : Option (Int) := spec_srWorth_l0K a1 a2 a4 a5 a6 a7 a8 a9 a10 a11 (fun a0 a3 => r (a0, a3)) some x.1 x.2
theorem spec_srWorth_l0c (a1 : List Int) (a2 : Int) (a4 : List (List Int)) (a5 : List Int) (a6 : List Int) (a7 : Int) (a8 : Int) (a9 : Int) (a10 : Int) (a11 : Int) (x : Int × Int) : Ct fun r => spec_srWorth_l0F a1 a2 a4 a5 a6 a7 a8 a9 a10 a11 r x := by
  unfold spec_srWorth_l0F spec_srWorth_l0K
  repeat' (first | exact Ct.const | exact Ct.call | refine Ct.cond ?_ ?_ | refine Ct.bind ?_ fun _ => ?_ | refine Ct.sum (fun _ => ?_) fun _ => ?_)
def spec_srWorth_l0 (a1 : List Int) (a2 : Int) (a4 : List (List Int)) (a5 : List Int) (a6 : List Int) (a7 : Int) (a8 : Int) (a9 : Int) (a10 : Int) (a11 : Int) (a0 : Int) (a3 : Int) : Option (Int) := lim (spec_srWorth_l0F a1 a2 a4 a5 a6 a7 a8 a9 a10 a11) (a0, a3)
theorem spec_srWorth_l0_eq (a1 : List Int) (a2 : Int) (a4 : List (List Int)) (a5 : List Int) (a6 : List Int) (a7 : Int) (a8 : Int) (a9 : Int) (a10 : Int) (a11 : Int) (a0 : Int) (a3 : Int) : spec_srWorth_l0 a1 a2 a4 a5 a6 a7 a8 a9 a10 a11 a0 a3 = spec_srWorth_l0K a1 a2 a4 a5 a6 a7 a8 a9 a10 a11 (spec_srWorth_l0 a1 a2 a4 a5 a6 a7 a8 a9 a10 a11) some a0 a3 := lim_eq (spec_srWorth_l0c a1 a2 a4 a5 a6 a7 a8 a9 a10 a11) (a0, a3)
theorem spec_srWorth_l0p {R : Type} (a1 : List Int) (a2 : Int) (a4 : List (List Int)) (a5 : List Int) (a6 : List Int) (a7 : Int) (a8 : Int) (a9 : Int) (a10 : Int) (a11 : Int) {rc : Int → Int → Option (Int)} {rc' : Int → Int → Option R} {fin : Int → Option R} (hr : ∀ a0 a3, Par fin (rc a0 a3) (rc' a0 a3)) (a0 : Int) (a3 : Int) : Par fin (spec_srWorth_l0K a1 a2 a4 a5 a6 a7 a8 a9 a10 a11 rc some a0 a3) (spec_srWorth_l0K a1 a2 a4 a5 a6 a7 a8 a9 a10 a11 rc' fin a0 a3) := by
  unfold spec_srWorth_l0K
  repeat' (first | exact .fin | exact .none | exact hr _ _ | refine .cond ?_ ?_ | refine .bind fun _ => ?_ | refine .sum (fun _ => ?_) fun _ => ?_)
def Lspec_srWorth_l0 : Loop := mkL ⟨[2, 5, 8, 9, 10], [.slot 2], [], []⟩ sspec_srWorth_l0 xspec_srWorth_l0 (fun (x : (Unit × Int × (List Int) × Int × Int × Unit) × (((List (List Int)) × (List Int) × (List Int) × Int × Int × Int × Int × Int × Unit) × Unit)) => (x.1.2.2.1, (x.1.2.2.2.1, (x.2.1.1, (x.2.1.2.1, (x.2.1.2.2.1, (x.2.1.2.2.2.1, (x.2.1.2.2.2.2.1, (x.2.1.2.2.2.2.2.1, (x.2.1.2.2.2.2.2.2.1, x.2.1.2.2.2.2.2.2.2.1)))))))))) fun (x : (Unit × Int × (List Int) × Int × Int × Unit) × (((List (List Int)) × (List Int) × (List Int) × Int × Int × Int × Int × Int × Unit) × Unit)) => spec_srWorth_l0 x.1.2.2.1 x.1.2.2.2.1 x.2.1.1 x.2.1.2.1 x.2.1.2.2.1 x.2.1.2.2.2.1 x.2.1.2.2.2.2.1 x.2.1.2.2.2.2.2.1 x.2.1.2.2.2.2.2.2.1 x.2.1.2.2.2.2.2.2.2.1 x.1.2.1 x.1.2.2.2.2.1
def spec_srWorthK {R : Type} (fin : Int → Option R) (x0 : DJob) (x1 : List Int) : Option R :=
  (spec_srWorth_l0 x1 (x1.length : Int) x0.1 x0.2.1 x0.2.2.1 x0.2.2.2.1.1 x0.2.2.2.1.2.1 x0.2.2.2.2.1 x0.2.2.2.2.2.1 x0.2.2.2.2.2.2.1 0 0).bind fun y4 =>
  fin y4
def spec_srWorth (x0 : DJob) (x1 : List Int) : Option (Int) := spec_srWorthK some x0 x1
theorem p56 {R : Type} (fin : Int → Option R) (x0 : DJob) (x1 : List Int) : Par fin (spec_srWorthK some x0 x1) (spec_srWorthK fin x0 x1) := by
  unfold spec_srWorthK
  repeat' (first | exact .fin | exact .none | refine .cond ?_ ?_ | refine .bind fun _ => ?_ | refine .sum (fun _ => ?_) fun _ => ?_)
def or56 : Ora := { lo := addL 3 (Lspec_srWorth_l0) lo0, fin := [] }
theorem spec_srWorth_l0e (a1 : List Int) (a2 : Int) (a4 : List (List Int)) (a5 : List Int) (a6 : List Int) (a7 : Int) (a8 : Int) (a9 : Int) (a10 : Int) (a11 : Int) (k : Nat) (a0 : Int) (a3 : Int) : loopC Try.prog EL56 or56 ((loopsIn (codeOf Try.f56)).getD 0 .skip) (Lspec_srWorth_l0).h (Lspec_srWorth_l0).ho Try.f56.ntmps (k + 1) (sspec_srWorth_l0.out (((), (a0, (a1, (a2, (a3, ()))))), ((a4, (a5, (a6, (a7, (a8, (a9, (a10, (a11, ())))))))), ()))) =
    spec_srWorth_l0K a1 a2 a4 a5 a6 a7 a8 a9 a10 a11 (fun a0 a3 => loopC Try.prog EL56 or56 ((loopsIn (codeOf Try.f56)).getD 0 .skip) (Lspec_srWorth_l0).h (Lspec_srWorth_l0).ho Try.f56.ntmps k (sspec_srWorth_l0.out (((), (a0, (a1, (a2, (a3, ()))))), ((a4, (a5, (a6, (a7, (a8, (a9, (a10, (a11, ())))))))), ())))) (fun y => some (XS.out xspec_srWorth_l0 (a1, (a2, (a4, (a5, (a6, (a7, (a8, (a9, (a10, a11))))))))) y)) a0 a3 := by kernel_rfl
theorem spec_srWorth_l0o : LoopOk Try.prog EL56 or56 Try.f56.ntmps ((loopsIn (codeOf Try.f56)).getD 0 .skip) (Lspec_srWorth_l0) :=
  loop_lim (hs := sspec_srWorth_l0) (xs := xspec_srWorth_l0) (ι := fun (x : (Unit × Int × (List Int) × Int × Int × Unit) × (((List (List Int)) × (List Int) × (List Int) × Int × Int × Int × Int × Int × Unit) × Unit)) => (x.1.2.2.1, (x.1.2.2.2.1, (x.2.1.1, (x.2.1.2.1, (x.2.1.2.2.1, (x.2.1.2.2.2.1, (x.2.1.2.2.2.2.1, (x.2.1.2.2.2.2.2.1, (x.2.1.2.2.2.2.2.2.1, x.2.1.2.2.2.2.2.2.2.1)))))))))) (φ := fun (x : (Unit × Int × (List Int) × Int × Int × Unit) × (((List (List Int)) × (List Int) × (List Int) × Int × Int × Int × Int × Int × Unit) × Unit)) => (x.1.2.1, x.1.2.2.2.2.1)) (ψ := fun (i : (List Int) × Int × (List (List Int)) × (List Int) × (List Int) × Int × Int × Int × Int × Int) (v : Int × Int) => (((), (v.1, (i.1, (i.2.1, (v.2, ()))))), ((i.2.2.1, (i.2.2.2.1, (i.2.2.2.2.1, (i.2.2.2.2.2.1, (i.2.2.2.2.2.2.1, (i.2.2.2.2.2.2.2.1, (i.2.2.2.2.2.2.2.2.1, (i.2.2.2.2.2.2.2.2.2, ())))))))), ()))) (F := fun (i : (List Int) × Int × (List (List Int)) × (List Int) × (List Int) × Int × Int × Int × Int × Int) => spec_srWorth_l0F i.1 i.2.1 i.2.2.1 i.2.2.2.1 i.2.2.2.2.1 i.2.2.2.2.2.1 i.2.2.2.2.2.2.1 i.2.2.2.2.2.2.2.1 i.2.2.2.2.2.2.2.2.1 i.2.2.2.2.2.2.2.2.2) (fun _ => rfl) fun i k hk v => Par.of_eq (spec_srWorth_l0e i.1 i.2.1 i.2.2.1 i.2.2.2.1 i.2.2.2.2.1 i.2.2.2.2.2.1 i.2.2.2.2.2.2.1 i.2.2.2.2.2.2.2.1 i.2.2.2.2.2.2.2.2.1 i.2.2.2.2.2.2.2.2.2 k v.1 v.2) (spec_srWorth_l0p i.1 i.2.1 i.2.2.1 i.2.2.2.1 i.2.2.2.2.1 i.2.2.2.2.2.1 i.2.2.2.2.2.2.1 i.2.2.2.2.2.2.2.1 i.2.2.2.2.2.2.2.2.1 i.2.2.2.2.2.2.2.2.2 (fun a0 a3 => hk (a0, a3)) v.1 v.2)
def c56 : Callee := mkC [.agg [.ro TJob], .one (.ro (.slice (.int .i64)))] 1 [.one (.ro (.int .i64))] fun x => spec_srWorth x.1 x.2
theorem e56 (x : PK.dens [.agg [.ro TJob], .one (.ro (.slice (.int .i64)))]) : evalFn Try.prog EL56 or56 Try.f56 (PK.outs [.agg [.ro TJob], .one (.ro (.slice (.int .i64)))] x) =
    spec_srWorthK (fun y => some (tupOf ((PK.outs [.one (.ro (.int .i64))] y).take 1), (PK.outs [.one (.ro (.int .i64))] y).drop 1)) x.1 x.2 := by kernel_rfl
theorem o56 : LoOk Try.prog EL56 or56 Try.f56.ntmps (loopsIn (codeOf Try.f56)) :=
  LoOk.mk (m := 1) (by kernel_rfl) fun i hi => match i, hi with
    | 0, _ => ⟨Lspec_srWorth_l0, by kernel_rfl, spec_srWorth_l0o⟩
    | i + 1, hi => absurd hi (by omega)
theorem k56 : CalleeOk Try.prog 56 c56 := callee_mk Try.func56 (code := codeOf Try.f56) (by kernel_rfl) vL56 mixed o56 fun x y h => (e56 x).trans (p56 _ x.1 x.2 y h)
end
end Go.OAI
