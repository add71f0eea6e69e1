/- Contracts: GW. -/
import Derived.Test.YtnmeejeedfeolaaGA
import Derived.Test.YtnmeejeedfeolaaGFr
namespace Go.OAI
open Go.Proofs
set_option linter.unusedVariables false
noncomputable section


/-- impl.power -/
def EL89 : Nat → Option Callee := env0
theorem vL89 : EnvOk Try.prog EL89 := EnvOk.nil
def simpl_power_l0 : LS := ⟨[(0, .one (.dat (.int .i64))), (1, .one (.dat (.int .i64))), (5, .one (.dat (.int .i64)))], [], []⟩
def simpl_power_l0x0 : LS := ⟨[(5, .one (.dat (.int .i64)))], [], []⟩
def ximpl_power_l0 : List (XS (Int)) := [⟨.exit 0, ⟨[5], [], [], []⟩, simpl_power_l0x0, Int, fun i y => ((y, ()), ())⟩]
def impl_power_l0K {R : Type} (a0 : Int) (rc : Int → Int → Option R) (fin : Int → Option R) (a1 : Int) (a2 : Int) : Option R :=
  cond (decide (a1 > 0))
  (rc (IntKind.i64.wrap (a1 - 1)) (IntKind.i64.wrap (a2 * a0)))
  (fin a2)
def impl_power_l0F (a0 : Int) (r : (Int × Int) → Option (Int)) (x : Int × Int) : Option (Int) := impl_power_l0K a0 (fun a1 a2 => r (a1, a2)) some x.1 x.2
theorem impl_power_l0c (a0 : Int) (x : Int × Int) : Ct fun r => impl_power_l0F a0 r x := by
  unfold impl_power_l0F impl_power_l0K
  repeat' (first | exact Ct.const | exact Ct.call | refine Ct.cond ?_ ?_ | refine Ct.bind ?_ fun _ => ?_ | refine Ct.sum (fun _ => ?_) fun _ => ?_)
def impl_power_l0 (a0 : Int) (a1 : Int) (a2 : Int) : Option (Int) := lim (impl_power_l0F a0) (a1, a2)
theorem impl_power_l0_eq (a0 : Int) (a1 : Int) (a2 : Int) : impl_power_l0 a0 a1 a2 = impl_power_l0K a0 (impl_power_l0 a0) some a1 a2 := lim_eq (impl_power_l0c a0) (a1, a2)
theorem impl_power_l0p {R : Type} (a0 : Int) {rc : Int → Int → Option (Int)} {rc' : Int → Int → Option R} {fin : Int → Option R} (hr : ∀ a1 a2, Par fin (rc a1 a2) (rc' a1 a2)) (a1 : Int) (a2 : Int) : Par fin (impl_power_l0K a0 rc some a1 a2) (impl_power_l0K a0 rc' fin a1 a2) := by
  unfold impl_power_l0K
  repeat' (first | exact .fin | exact .none | exact hr _ _ | refine .cond ?_ ?_ | refine .bind fun _ => ?_ | refine .sum (fun _ => ?_) fun _ => ?_)
def Limpl_power_l0 : Loop := mkL ⟨[0, 1, 5], [], [], []⟩ simpl_power_l0 ximpl_power_l0 (fun (x : (Int × Int × Int × Unit) × (Unit)) => x.1.1) fun (x : (Int × Int × Int × Unit) × (Unit)) => impl_power_l0 x.1.1 x.1.2.1 x.1.2.2.1
def impl_powerK {R : Type} (fin : Int → Option R) (x0 : Int) (x1 : Int) : Option R :=
  (impl_power_l0 x0 x1 1).bind fun y1 =>
  fin y1
def impl_power (x0 : Int) (x1 : Int) : Option (Int) := impl_powerK some x0 x1
theorem p89 {R : Type} (fin : Int → Option R) (x0 : Int) (x1 : Int) : Par fin (impl_powerK some x0 x1) (impl_powerK fin x0 x1) := by
  unfold impl_powerK
  repeat' (first | exact .fin | exact .none | refine .cond ?_ ?_ | refine .bind fun _ => ?_ | refine .sum (fun _ => ?_) fun _ => ?_)
def or89 : Ora := { lo := addL 2 (Limpl_power_l0) lo0, fin := [] }
theorem impl_power_l0e (a0 : Int) (k : Nat) (a1 : Int) (a2 : Int) : loopC Try.prog EL89 or89 ((loopsIn (codeOf Try.f89)).getD 0 .skip) (Limpl_power_l0).h (Limpl_power_l0).ho Try.f89.ntmps (k + 1) (simpl_power_l0.out ((a0, (a1, (a2, ()))), ())) =
    impl_power_l0K a0 (fun a1 a2 => loopC Try.prog EL89 or89 ((loopsIn (codeOf Try.f89)).getD 0 .skip) (Limpl_power_l0).h (Limpl_power_l0).ho Try.f89.ntmps k (simpl_power_l0.out ((a0, (a1, (a2, ()))), ()))) (fun y => some (XS.out ximpl_power_l0 a0 y)) a1 a2 := by kernel_rfl
theorem impl_power_l0o : LoopOk Try.prog EL89 or89 Try.f89.ntmps ((loopsIn (codeOf Try.f89)).getD 0 .skip) (Limpl_power_l0) :=
  loop_lim (hs := simpl_power_l0) (xs := ximpl_power_l0) (ι := fun (x : (Int × Int × Int × Unit) × (Unit)) => x.1.1) (φ := fun (x : (Int × Int × Int × Unit) × (Unit)) => (x.1.2.1, x.1.2.2.1)) (ψ := fun (i : Int) (v : Int × Int) => ((i, (v.1, (v.2, ()))), ())) (F := fun (i : Int) => impl_power_l0F i) (fun _ => rfl) fun i k hk v => Par.of_eq (impl_power_l0e i k v.1 v.2) (impl_power_l0p i (fun a1 a2 => hk (a1, a2)) v.1 v.2)
def c89 : Callee := mkC [.one (.ro (.int .i64)), .one (.ro (.int .i64))] 1 [.one (.ro (.int .i64))] fun x => impl_power x.1 x.2
theorem e89 (x : PK.dens [.one (.ro (.int .i64)), .one (.ro (.int .i64))]) : evalFn Try.prog EL89 or89 Try.f89 (PK.outs [.one (.ro (.int .i64)), .one (.ro (.int .i64))] x) =
    impl_powerK (fun y => some (tupOf ((PK.outs [.one (.ro (.int .i64))] y).take 1), (PK.outs [.one (.ro (.int .i64))] y).drop 1)) x.1 x.2 := by kernel_rfl
theorem o89 : LoOk Try.prog EL89 or89 Try.f89.ntmps (loopsIn (codeOf Try.f89)) :=
  LoOk.mk (m := 1) (by kernel_rfl) fun i hi => match i, hi with
    | 0, _ => ⟨Limpl_power_l0, by kernel_rfl, impl_power_l0o⟩
    | i + 1, hi => absurd hi (by omega)
theorem k89 : CalleeOk Try.prog 89 c89 := callee_mk Try.func89 (code := codeOf Try.f89) (by kernel_rfl) vL89 mixed o89 fun x y h => (e89 x).trans (p89 _ x.1 x.2 y h)

/-- impl.scaledFactor -/
def EL79 : Nat → Option Callee := addE 89 c89 env0
theorem vL79 : EnvOk Try.prog EL79 := EnvOk.nil.add Try.func89 rfl (by kernel_rfl) k89
def impl_scaledFactorK {R : Type} (fin : Int → Option R) (x0 : DJob) (x1 : Int) : Option R :=
  cond (decide (x1 < 0))
  (fin 0)
  ((impl_power x0.2.2.2.2.2.1 x1).bind fun y1 =>
    (impl_power x0.2.2.2.2.2.2.1 (IntKind.i64.wrap ((IntKind.i64.wrap (x0.2.2.2.2.1 - 1)) - x1))).bind fun y2 =>
    fin (IntKind.i64.wrap (y1 * y2)))
def impl_scaledFactor (x0 : DJob) (x1 : Int) : Option (Int) := impl_scaledFactorK some x0 x1
theorem p79 {R : Type} (fin : Int → Option R) (x0 : DJob) (x1 : Int) : Par fin (impl_scaledFactorK some x0 x1) (impl_scaledFactorK fin x0 x1) := by
  unfold impl_scaledFactorK
  repeat' (first | exact .fin | exact .none | refine .cond ?_ ?_ | refine .bind fun _ => ?_ | refine .sum (fun _ => ?_) fun _ => ?_)
def c79 : Callee := mkC [.agg [.ro TJob], .one (.ro (.int .i64))] 1 [.one (.ro (.int .i64))] fun x => impl_scaledFactor x.1 x.2
theorem e79 (x : PK.dens [.agg [.ro TJob], .one (.ro (.int .i64))]) : evalFn Try.prog EL79 or0 Try.f79 (PK.outs [.agg [.ro TJob], .one (.ro (.int .i64))] x) =
    impl_scaledFactorK (fun y => some (tupOf ((PK.outs [.one (.ro (.int .i64))] y).take 1), (PK.outs [.one (.ro (.int .i64))] y).drop 1)) x.1 x.2 := by kernel_rfl
theorem k79 : CalleeOk Try.prog 79 c79 := callee_mk Try.func79 (code := codeOf Try.f79) (by kernel_rfl) vL79 mixed (LoOk.nil (by kernel_rfl)) fun x y h => (e79 x).trans (p79 _ x.1 x.2 y h)

/-- impl.periodWorths -/
def EL83 : Nat → Option Callee := addE 79 c79 env0
theorem vL83 : EnvOk Try.prog EL83 := EnvOk.nil.add Try.func79 rfl (by kernel_rfl) k79
def simpl_periodWorths_l0 : LS := ⟨[(2, .one (.fix (.ptr 0 0))), (5, .one (.fix (.sref 1))), (12, .one (.dat (.slice (.int .i64)))), (13, .one (.dat (.int .i64))), (14, .one (.dat (.int .i64)))], [.box [.dat (.slice (.slice (.int .i64))), .dat (.slice (.int .i64)), .dat (.slice (.int .i64)), .dat (.int .i64), .dat (.int .i64), .dat (.int .i64), .dat (.int .i64), .dat (.int .i64)], .sl (.int .i64)], []⟩
def simpl_periodWorths_l0x0 : LS := ⟨[(5, .one (.fix (.sref 0)))], [.sl (.int .i64)], []⟩
def ximpl_periodWorths_l0 : List (XS ((List Int) × Int × (List (List Int)) × (List Int) × (List Int) × Int × Int × Int × Int × Int)) := [⟨.exit 0, ⟨[5], [.slot 5], [], []⟩, simpl_periodWorths_l0x0, List Int, fun i y => (((), ()), (y, ()))⟩]
def impl_periodWorths_l0K {R : Type} (a0 : List Int) (a1 : Int) (a3 : List (List Int)) (a4 : List Int) (a5 : List Int) (a6 : Int) (a7 : Int) (a8 : Int) (a9 : Int) (a10 : Int) (rc : Int → List Int → Option R) (fin : List Int → Option R) (a2 : Int) (a11 : List Int) : Option R :=
  cond (decide (a2 < a1))
  ((lat a0 a2).bind fun e1 =>
    cond (decide (e1 ≥ 0))
    (cond (decide ((0 : Int) ≤ e1) && decide (e1 < (a11.length : Int)))
      ((lat a5 a2).bind fun e2 =>
        (impl_scaledFactor (a3, (a4, (a5, ((a6, (a7, ())), (a8, (a9, (a10, ()))))))) e1).bind fun y3 =>
        (some (IntKind.i64.wrap ((a11.getD (0 + e1.toNat) 0) + (IntKind.i64.wrap (e2 * y3))))).bind fun v4 =>
        cond (decide ((0 : Int) ≤ e1) && decide (e1 < (a11.length : Int)))
        ((some (a11.set (0 + e1.toNat) v4)).bind fun v5 =>
          rc (IntKind.i64.wrap (a2 + 1)) v5)
        (none))
      (none))
    (rc (IntKind.i64.wrap (a2 + 1)) a11))
  (fin a11)
def impl_periodWorths_l0F (a0 : List Int) (a1 : Int) (a3 : List (List Int)) (a4 : List Int) (a5 : List Int) (a6 : Int) (a7 : Int) (a8 : Int) (a9 : Int) (a10 : Int) (r : (Int × (List Int)) → Option (List Int)) (x : Int × (List Int)) : Option (List Int) := impl_periodWorths_l0K a0 a1 a3 a4 a5 a6 a7 a8 a9 a10 (fun a2 a11 => r (a2, a11)) some x.1 x.2
theorem impl_periodWorths_l0c (a0 : List Int) (a1 : Int) (a3 : List (List Int)) (a4 : List Int) (a5 : List Int) (a6 : Int) (a7 : Int) (a8 : Int) (a9 : Int) (a10 : Int) (x : Int × (List Int)) : Ct fun r => impl_periodWorths_l0F a0 a1 a3 a4 a5 a6 a7 a8 a9 a10 r x := by
  unfold impl_periodWorths_l0F impl_periodWorths_l0K
  repeat' (first | exact Ct.const | exact Ct.call | refine Ct.cond ?_ ?_ | refine Ct.bind ?_ fun _ => ?_ | refine Ct.sum (fun _ => ?_) fun _ => ?_)
def impl_periodWorths_l0 (a0 : List Int) (a1 : Int) (a3 : List (List Int)) (a4 : List Int) (a5 : List Int) (a6 : Int) (a7 : Int) (a8 : Int) (a9 : Int) (a10 : Int) (a2 : Int) (a11 : List Int) : Option (List Int) := lim (impl_periodWorths_l0F a0 a1 a3 a4 a5 a6 a7 a8 a9 a10) (a2, a11)
theorem impl_periodWorths_l0_eq (a0 : List Int) (a1 : Int) (a3 : List (List Int)) (a4 : List Int) (a5 : List Int) (a6 : Int) (a7 : Int) (a8 : Int) (a9 : Int) (a10 : Int) (a2 : Int) (a11 : List Int) : impl_periodWorths_l0 a0 a1 a3 a4 a5 a6 a7 a8 a9 a10 a2 a11 = impl_periodWorths_l0K a0 a1 a3 a4 a5 a6 a7 a8 a9 a10 (impl_periodWorths_l0 a0 a1 a3 a4 a5 a6 a7 a8 a9 a10) some a2 a11 := lim_eq (impl_periodWorths_l0c a0 a1 a3 a4 a5 a6 a7 a8 a9 a10) (a2, a11)
theorem impl_periodWorths_l0p {R : Type} (a0 : List Int) (a1 : Int) (a3 : List (List Int)) (a4 : List Int) (a5 : List Int) (a6 : Int) (a7 : Int) (a8 : Int) (a9 : Int) (a10 : Int) {rc : Int → List Int → Option (List Int)} {rc' : Int → List Int → Option R} {fin : List Int → Option R} (hr : ∀ a2 a11, Par fin (rc a2 a11) (rc' a2 a11)) (a2 : Int) (a11 : List Int) : Par fin (impl_periodWorths_l0K a0 a1 a3 a4 a5 a6 a7 a8 a9 a10 rc some a2 a11) (impl_periodWorths_l0K a0 a1 a3 a4 a5 a6 a7 a8 a9 a10 rc' fin a2 a11) := by
  unfold impl_periodWorths_l0K
  repeat' (first | exact .fin | exact .none | exact hr _ _ | refine .cond ?_ ?_ | refine .bind fun _ => ?_ | refine .sum (fun _ => ?_) fun _ => ?_)
def Limpl_periodWorths_l0 : Loop := mkL ⟨[2, 5, 12, 13, 14], [.slot 2, .slot 5], [], []⟩ simpl_periodWorths_l0 ximpl_periodWorths_l0 (fun (x : (Unit × Unit × (List Int) × Int × Int × Unit) × (((List (List Int)) × (List Int) × (List Int) × Int × Int × Int × Int × Int × Unit) × (List Int) × Unit)) => (x.1.2.2.1, (x.1.2.2.2.1, (x.2.1.1, (x.2.1.2.1, (x.2.1.2.2.1, (x.2.1.2.2.2.1, (x.2.1.2.2.2.2.1, (x.2.1.2.2.2.2.2.1, (x.2.1.2.2.2.2.2.2.1, x.2.1.2.2.2.2.2.2.2.1)))))))))) fun (x : (Unit × Unit × (List Int) × Int × Int × Unit) × (((List (List Int)) × (List Int) × (List Int) × Int × Int × Int × Int × Int × Unit) × (List Int) × Unit)) => impl_periodWorths_l0 x.1.2.2.1 x.1.2.2.2.1 x.2.1.1 x.2.1.2.1 x.2.1.2.2.1 x.2.1.2.2.2.1 x.2.1.2.2.2.2.1 x.2.1.2.2.2.2.2.1 x.2.1.2.2.2.2.2.2.1 x.2.1.2.2.2.2.2.2.2.1 x.1.2.2.2.2.1 x.2.2.1
def impl_periodWorthsK {R : Type} (fin : List Int → Option R) (x0 : DJob) (x1 : DPlan) : Option R :=
  cond (decide ((0 : Int) ≤ x0.2.2.2.2.1) && (decide (x0.2.2.2.2.1 ≤ x0.2.2.2.2.1) && decide (x0.2.2.2.2.1 ≤ 1099511627776)))
  ((some ((List.replicate x0.2.2.2.2.1.toNat 0 : List Int))).bind fun v1 =>
    (impl_periodWorths_l0 x1.2.1 (x1.2.1.length : Int) x0.1 x0.2.1 x0.2.2.1 x0.2.2.2.1.1 x0.2.2.2.1.2.1 x0.2.2.2.2.1 x0.2.2.2.2.2.1 x0.2.2.2.2.2.2.1 0 v1).bind fun y7 =>
    fin y7)
  (none)
def impl_periodWorths (x0 : DJob) (x1 : DPlan) : Option (List Int) := impl_periodWorthsK some x0 x1
theorem p83 {R : Type} (fin : List Int → Option R) (x0 : DJob) (x1 : DPlan) : Par fin (impl_periodWorthsK some x0 x1) (impl_periodWorthsK fin x0 x1) := by
  unfold impl_periodWorthsK
  repeat' (first | exact .fin | exact .none | refine .cond ?_ ?_ | refine .bind fun _ => ?_ | refine .sum (fun _ => ?_) fun _ => ?_)
def or83 : Ora := { lo := addL 3 (Limpl_periodWorths_l0) lo0, fin := [] }
theorem impl_periodWorths_l0e (a0 : List Int) (a1 : Int) (a3 : List (List Int)) (a4 : List Int) (a5 : List Int) (a6 : Int) (a7 : Int) (a8 : Int) (a9 : Int) (a10 : Int) (k : Nat) (a2 : Int) (a11 : List Int) : loopC Try.prog EL83 or83 ((loopsIn (codeOf Try.f83)).getD 0 .skip) (Limpl_periodWorths_l0).h (Limpl_periodWorths_l0).ho Try.f83.ntmps (k + 1) (simpl_periodWorths_l0.out (((), ((), (a0, (a1, (a2, ()))))), ((a3, (a4, (a5, (a6, (a7, (a8, (a9, (a10, ())))))))), (a11, ())))) =
    impl_periodWorths_l0K a0 a1 a3 a4 a5 a6 a7 a8 a9 a10 (fun a2 a11 => loopC Try.prog EL83 or83 ((loopsIn (codeOf Try.f83)).getD 0 .skip) (Limpl_periodWorths_l0).h (Limpl_periodWorths_l0).ho Try.f83.ntmps k (simpl_periodWorths_l0.out (((), ((), (a0, (a1, (a2, ()))))), ((a3, (a4, (a5, (a6, (a7, (a8, (a9, (a10, ())))))))), (a11, ()))))) (fun y => some (XS.out ximpl_periodWorths_l0 (a0, (a1, (a3, (a4, (a5, (a6, (a7, (a8, (a9, a10))))))))) y)) a2 a11 := by kernel_rfl
theorem impl_periodWorths_l0o : LoopOk Try.prog EL83 or83 Try.f83.ntmps ((loopsIn (codeOf Try.f83)).getD 0 .skip) (Limpl_periodWorths_l0) :=
  loop_lim (hs := simpl_periodWorths_l0) (xs := ximpl_periodWorths_l0) (ι := fun (x : (Unit × Unit × (List Int) × Int × Int × Unit) × (((List (List Int)) × (List Int) × (List Int) × Int × Int × Int × Int × Int × Unit) × (List Int) × Unit)) => (x.1.2.2.1, (x.1.2.2.2.1, (x.2.1.1, (x.2.1.2.1, (x.2.1.2.2.1, (x.2.1.2.2.2.1, (x.2.1.2.2.2.2.1, (x.2.1.2.2.2.2.2.1, (x.2.1.2.2.2.2.2.2.1, x.2.1.2.2.2.2.2.2.2.1)))))))))) (φ := fun (x : (Unit × Unit × (List Int) × Int × Int × Unit) × (((List (List Int)) × (List Int) × (List Int) × Int × Int × Int × Int × Int × Unit) × (List Int) × Unit)) => (x.1.2.2.2.2.1, x.2.2.1)) (ψ := fun (i : (List Int) × Int × (List (List Int)) × (List Int) × (List Int) × Int × Int × Int × Int × Int) (v : Int × (List Int)) => (((), ((), (i.1, (i.2.1, (v.1, ()))))), ((i.2.2.1, (i.2.2.2.1, (i.2.2.2.2.1, (i.2.2.2.2.2.1, (i.2.2.2.2.2.2.1, (i.2.2.2.2.2.2.2.1, (i.2.2.2.2.2.2.2.2.1, (i.2.2.2.2.2.2.2.2.2, ())))))))), (v.2, ())))) (F := fun (i : (List Int) × Int × (List (List Int)) × (List Int) × (List Int) × Int × Int × Int × Int × Int) => impl_periodWorths_l0F i.1 i.2.1 i.2.2.1 i.2.2.2.1 i.2.2.2.2.1 i.2.2.2.2.2.1 i.2.2.2.2.2.2.1 i.2.2.2.2.2.2.2.1 i.2.2.2.2.2.2.2.2.1 i.2.2.2.2.2.2.2.2.2) (fun _ => rfl) fun i k hk v => Par.of_eq (impl_periodWorths_l0e i.1 i.2.1 i.2.2.1 i.2.2.2.1 i.2.2.2.2.1 i.2.2.2.2.2.1 i.2.2.2.2.2.2.1 i.2.2.2.2.2.2.2.1 i.2.2.2.2.2.2.2.2.1 i.2.2.2.2.2.2.2.2.2 k v.1 v.2) (impl_periodWorths_l0p i.1 i.2.1 i.2.2.1 i.2.2.2.1 i.2.2.2.2.1 i.2.2.2.2.2.1 i.2.2.2.2.2.2.1 i.2.2.2.2.2.2.2.1 i.2.2.2.2.2.2.2.2.1 i.2.2.2.2.2.2.2.2.2 (fun a2 a11 => hk (a2, a11)) v.1 v.2)
def c83 : Callee := mkC [.agg [.ro TJob], .agg [.ro TPlan]] 1 [.one (.sl (.int .i64))] fun x => impl_periodWorths x.1 x.2
theorem e83 (x : PK.dens [.agg [.ro TJob], .agg [.ro TPlan]]) : evalFn Try.prog EL83 or83 Try.f83 (PK.outs [.agg [.ro TJob], .agg [.ro TPlan]] x) =
    impl_periodWorthsK (fun y => some (tupOf ((PK.outs [.one (.sl (.int .i64))] y).take 1), (PK.outs [.one (.sl (.int .i64))] y).drop 1)) x.1 x.2 := by kernel_rfl
theorem o83 : LoOk Try.prog EL83 or83 Try.f83.ntmps (loopsIn (codeOf Try.f83)) :=
  LoOk.mk (m := 1) (by kernel_rfl) fun i hi => match i, hi with
    | 0, _ => ⟨Limpl_periodWorths_l0, by kernel_rfl, impl_periodWorths_l0o⟩
    | i + 1, hi => absurd hi (by omega)
theorem k83 : CalleeOk Try.prog 83 c83 := callee_mk Try.func83 (code := codeOf Try.f83) (by kernel_rfl) vL83 mixed o83 fun x y h => (e83 x).trans (p83 _ x.1 x.2 y h)

/-- impl.scaledWorth -/
def EL88 : Nat → Option Callee := addE 83 c83 env0
theorem vL88 : EnvOk Try.prog EL88 := EnvOk.nil.add Try.func83 rfl (by kernel_rfl) k83
def simpl_scaledWorth_l0 : LS := ⟨[(5, .one (.dat (.int .i64))), (10, .one (.fix (.sref 0))), (11, .one (.dat (.int .i64))), (12, .one (.dat (.int .i64)))], [.sl (.int .i64)], []⟩
def simpl_scaledWorth_l0x0 : LS := ⟨[(5, .one (.dat (.int .i64)))], [], []⟩
def ximpl_scaledWorth_l0 : List (XS (Int × (List Int))) := [⟨.exit 0, ⟨[5], [], [], []⟩, simpl_scaledWorth_l0x0, Int, fun i y => ((y, ()), ())⟩]
def impl_scaledWorth_l0K {R : Type} (a1 : Int) (a3 : List Int) (rc : Int → Int → Option R) (fin : Int → Option R) (a0 : Int) (a2 : Int) : Option R :=
  cond (decide (a2 < a1))
  (cond (decide ((0 : Int) ≤ a2) && decide (a2 < (a3.length : Int)))
    (rc (IntKind.i64.wrap (a0 + (a3.getD (0 + a2.toNat) 0))) (IntKind.i64.wrap (a2 + 1)))
    (none))
  (fin a0)
def impl_scaledWorth_l0F (a1 : Int) (a3 : List Int) (r : (Int × Int) → Option (Int)) (x : Int × Int) : Option (Int) := impl_scaledWorth_l0K a1 a3 (fun a0 a2 => r (a0, a2)) some x.1 x.2
theorem impl_scaledWorth_l0c (a1 : Int) (a3 : List Int) (x : Int × Int) : Ct fun r => impl_scaledWorth_l0F a1 a3 r x := by
  unfold impl_scaledWorth_l0F impl_scaledWorth_l0K
  repeat' (first | exact Ct.const | exact Ct.call | refine Ct.cond ?_ ?_ | refine Ct.bind ?_ fun _ => ?_ | refine Ct.sum (fun _ => ?_) fun _ => ?_)
def impl_scaledWorth_l0 (a1 : Int) (a3 : List Int) (a0 : Int) (a2 : Int) : Option (Int) := lim (impl_scaledWorth_l0F a1 a3) (a0, a2)
theorem impl_scaledWorth_l0_eq (a1 : Int) (a3 : List Int) (a0 : Int) (a2 : Int) : impl_scaledWorth_l0 a1 a3 a0 a2 = impl_scaledWorth_l0K a1 a3 (impl_scaledWorth_l0 a1 a3) some a0 a2 := lim_eq (impl_scaledWorth_l0c a1 a3) (a0, a2)
theorem impl_scaledWorth_l0p {R : Type} (a1 : Int) (a3 : List Int) {rc : Int → Int → Option (Int)} {rc' : Int → Int → Option R} {fin : Int → Option R} (hr : ∀ a0 a2, Par fin (rc a0 a2) (rc' a0 a2)) (a0 : Int) (a2 : Int) : Par fin (impl_scaledWorth_l0K a1 a3 rc some a0 a2) (impl_scaledWorth_l0K a1 a3 rc' fin a0 a2) := by
  unfold impl_scaledWorth_l0K
  repeat' (first | exact .fin | exact .none | exact hr _ _ | refine .cond ?_ ?_ | refine .bind fun _ => ?_ | refine .sum (fun _ => ?_) fun _ => ?_)
def Limpl_scaledWorth_l0 : Loop := mkL ⟨[5, 10, 11, 12], [.slot 10], [], []⟩ simpl_scaledWorth_l0 ximpl_scaledWorth_l0 (fun (x : (Int × Unit × Int × Int × Unit) × ((List Int) × Unit)) => (x.1.2.2.1, x.2.1)) fun (x : (Int × Unit × Int × Int × Unit) × ((List Int) × Unit)) => impl_scaledWorth_l0 x.1.2.2.1 x.2.1 x.1.1 x.1.2.2.2.1
def impl_scaledWorthK {R : Type} (fin : Int → Option R) (x0 : DJob) (x1 : DPlan) : Option R :=
  (impl_periodWorths x0 x1).bind fun y1 =>
  (impl_scaledWorth_l0 (y1.length : Int) y1 0 0).bind fun y2 =>
  fin y2
def impl_scaledWorth (x0 : DJob) (x1 : DPlan) : Option (Int) := impl_scaledWorthK some x0 x1
theorem p88 {R : Type} (fin : Int → Option R) (x0 : DJob) (x1 : DPlan) : Par fin (impl_scaledWorthK some x0 x1) (impl_scaledWorthK fin x0 x1) := by
  unfold impl_scaledWorthK
  repeat' (first | exact .fin | exact .none | refine .cond ?_ ?_ | refine .bind fun _ => ?_ | refine .sum (fun _ => ?_) fun _ => ?_)
def or88 : Ora := { lo := addL 3 (Limpl_scaledWorth_l0) lo0, fin := [] }
theorem impl_scaledWorth_l0e (a1 : Int) (a3 : List Int) (k : Nat) (a0 : Int) (a2 : Int) : loopC Try.prog EL88 or88 ((loopsIn (codeOf Try.f88)).getD 0 .skip) (Limpl_scaledWorth_l0).h (Limpl_scaledWorth_l0).ho Try.f88.ntmps (k + 1) (simpl_scaledWorth_l0.out ((a0, ((), (a1, (a2, ())))), (a3, ()))) =
    impl_scaledWorth_l0K a1 a3 (fun a0 a2 => loopC Try.prog EL88 or88 ((loopsIn (codeOf Try.f88)).getD 0 .skip) (Limpl_scaledWorth_l0).h (Limpl_scaledWorth_l0).ho Try.f88.ntmps k (simpl_scaledWorth_l0.out ((a0, ((), (a1, (a2, ())))), (a3, ())))) (fun y => some (XS.out ximpl_scaledWorth_l0 (a1, a3) y)) a0 a2 := by kernel_rfl
theorem impl_scaledWorth_l0o : LoopOk Try.prog EL88 or88 Try.f88.ntmps ((loopsIn (codeOf Try.f88)).getD 0 .skip) (Limpl_scaledWorth_l0) :=
  loop_lim (hs := simpl_scaledWorth_l0) (xs := ximpl_scaledWorth_l0) (ι := fun (x : (Int × Unit × Int × Int × Unit) × ((List Int) × Unit)) => (x.1.2.2.1, x.2.1)) (φ := fun (x : (Int × Unit × Int × Int × Unit) × ((List Int) × Unit)) => (x.1.1, x.1.2.2.2.1)) (ψ := fun (i : Int × (List Int)) (v : Int × Int) => ((v.1, ((), (i.1, (v.2, ())))), (i.2, ()))) (F := fun (i : Int × (List Int)) => impl_scaledWorth_l0F i.1 i.2) (fun _ => rfl) fun i k hk v => Par.of_eq (impl_scaledWorth_l0e i.1 i.2 k v.1 v.2) (impl_scaledWorth_l0p i.1 i.2 (fun a0 a2 => hk (a0, a2)) v.1 v.2)
def c88 : Callee := mkC [.agg [.ro TJob], .agg [.ro TPlan]] 1 [.one (.ro (.int .i64))] fun x => impl_scaledWorth x.1 x.2
theorem e88 (x : PK.dens [.agg [.ro TJob], .agg [.ro TPlan]]) : evalFn Try.prog EL88 or88 Try.f88 (PK.outs [.agg [.ro TJob], .agg [.ro TPlan]] x) =
    impl_scaledWorthK (fun y => some (tupOf ((PK.outs [.one (.ro (.int .i64))] y).take 1), (PK.outs [.one (.ro (.int .i64))] y).drop 1)) x.1 x.2 := by kernel_rfl
theorem o88 : LoOk Try.prog EL88 or88 Try.f88.ntmps (loopsIn (codeOf Try.f88)) :=
  LoOk.mk (m := 1) (by kernel_rfl) fun i hi => match i, hi with
    | 0, _ => ⟨Limpl_scaledWorth_l0, by kernel_rfl, impl_scaledWorth_l0o⟩
    | i + 1, hi => absurd hi (by omega)
theorem k88 : CalleeOk Try.prog 88 c88 := callee_mk Try.func88 (code := codeOf Try.f88) (by kernel_rfl) vL88 mixed o88 fun x y h => (e88 x).trans (p88 _ x.1 x.2 y h)

/-- spec.srPower -/
def EL119 : Nat → Option Callee := env0
theorem vL119 : EnvOk Try.prog EL119 := EnvOk.nil
def sspec_srPower_l0 : LS := ⟨[(0, .one (.dat (.int .i64))), (1, .one (.dat (.int .i64))), (5, .one (.dat (.int .i64)))], [], []⟩
def sspec_srPower_l0x0 : LS := ⟨[(5, .one (.dat (.int .i64)))], [], []⟩
def xspec_srPower_l0 : List (XS (Int)) := [⟨.exit 0, ⟨[5], [], [], []⟩, sspec_srPower_l0x0, Int, fun i y => ((y, ()), ())⟩]
def spec_srPower_l0K {R : Type} (a0 : Int) (rc : Int → Int → Option R) (fin : Int → Option R) (a1 : Int) (a2 : Int) : Option R :=
  cond (decide (a1 > 0))
  (rc (IntKind.i64.wrap (a1 - 1)) (IntKind.i64.wrap (a2 * a0)))
  (fin a2)
def spec_srPower_l0F (a0 : Int) (r : (Int × Int) → Option (Int)) (x : Int × Int) : Option (Int) := spec_srPower_l0K a0 (fun a1 a2 => r (a1, a2)) some x.1 x.2
theorem spec_srPower_l0c (a0 : Int) (x : Int × Int) : Ct fun r => spec_srPower_l0F a0 r x := by
  unfold spec_srPower_l0F spec_srPower_l0K
  repeat' (first | exact Ct.const | exact Ct.call | refine Ct.cond ?_ ?_ | refine Ct.bind ?_ fun _ => ?_ | refine Ct.sum (fun _ => ?_) fun _ => ?_)
def spec_srPower_l0 (a0 : Int) (a1 : Int) (a2 : Int) : Option (Int) := lim (spec_srPower_l0F a0) (a1, a2)
theorem spec_srPower_l0_eq (a0 : Int) (a1 : Int) (a2 : Int) : spec_srPower_l0 a0 a1 a2 = spec_srPower_l0K a0 (spec_srPower_l0 a0) some a1 a2 := lim_eq (spec_srPower_l0c a0) (a1, a2)
theorem spec_srPower_l0p {R : Type} (a0 : Int) {rc : Int → Int → Option (Int)} {rc' : Int → Int → Option R} {fin : Int → Option R} (hr : ∀ a1 a2, Par fin (rc a1 a2) (rc' a1 a2)) (a1 : Int) (a2 : Int) : Par fin (spec_srPower_l0K a0 rc some a1 a2) (spec_srPower_l0K a0 rc' fin a1 a2) := by
  unfold spec_srPower_l0K
  repeat' (first | exact .fin | exact .none | exact hr _ _ | refine .cond ?_ ?_ | refine .bind fun _ => ?_ | refine .sum (fun _ => ?_) fun _ => ?_)
def Lspec_srPower_l0 : Loop := mkL ⟨[0, 1, 5], [], [], []⟩ sspec_srPower_l0 xspec_srPower_l0 (fun (x : (Int × Int × Int × Unit) × (Unit)) => x.1.1) fun (x : (Int × Int × Int × Unit) × (Unit)) => spec_srPower_l0 x.1.1 x.1.2.1 x.1.2.2.1
def spec_srPowerK {R : Type} (fin : Int → Option R) (x0 : Int) (x1 : Int) : Option R :=
  (spec_srPower_l0 x0 x1 1).bind fun y1 =>
  fin y1
def spec_srPower (x0 : Int) (x1 : Int) : Option (Int) := spec_srPowerK some x0 x1
theorem p119 {R : Type} (fin : Int → Option R) (x0 : Int) (x1 : Int) : Par fin (spec_srPowerK some x0 x1) (spec_srPowerK fin x0 x1) := by
  unfold spec_srPowerK
  repeat' (first | exact .fin | exact .none | refine .cond ?_ ?_ | refine .bind fun _ => ?_ | refine .sum (fun _ => ?_) fun _ => ?_)
def or119 : Ora := { lo := addL 2 (Lspec_srPower_l0) lo0, fin := [] }
theorem spec_srPower_l0e (a0 : Int) (k : Nat) (a1 : Int) (a2 : Int) : loopC Try.prog EL119 or119 ((loopsIn (codeOf Try.f119)).getD 0 .skip) (Lspec_srPower_l0).h (Lspec_srPower_l0).ho Try.f119.ntmps (k + 1) (sspec_srPower_l0.out ((a0, (a1, (a2, ()))), ())) =
    spec_srPower_l0K a0 (fun a1 a2 => loopC Try.prog EL119 or119 ((loopsIn (codeOf Try.f119)).getD 0 .skip) (Lspec_srPower_l0).h (Lspec_srPower_l0).ho Try.f119.ntmps k (sspec_srPower_l0.out ((a0, (a1, (a2, ()))), ()))) (fun y => some (XS.out xspec_srPower_l0 a0 y)) a1 a2 := by kernel_rfl
theorem spec_srPower_l0o : LoopOk Try.prog EL119 or119 Try.f119.ntmps ((loopsIn (codeOf Try.f119)).getD 0 .skip) (Lspec_srPower_l0) :=
  loop_lim (hs := sspec_srPower_l0) (xs := xspec_srPower_l0) (ι := fun (x : (Int × Int × Int × Unit) × (Unit)) => x.1.1) (φ := fun (x : (Int × Int × Int × Unit) × (Unit)) => (x.1.2.1, x.1.2.2.1)) (ψ := fun (i : Int) (v : Int × Int) => ((i, (v.1, (v.2, ()))), ())) (F := fun (i : Int) => spec_srPower_l0F i) (fun _ => rfl) fun i k hk v => Par.of_eq (spec_srPower_l0e i k v.1 v.2) (spec_srPower_l0p i (fun a1 a2 => hk (a1, a2)) v.1 v.2)
def c119 : Callee := mkC [.one (.ro (.int .i64)), .one (.ro (.int .i64))] 1 [.one (.ro (.int .i64))] fun x => spec_srPower x.1 x.2
theorem e119 (x : PK.dens [.one (.ro (.int .i64)), .one (.ro (.int .i64))]) : evalFn Try.prog EL119 or119 Try.f119 (PK.outs [.one (.ro (.int .i64)), .one (.ro (.int .i64))] x) =
    spec_srPowerK (fun y => some (tupOf ((PK.outs [.one (.ro (.int .i64))] y).take 1), (PK.outs [.one (.ro (.int .i64))] y).drop 1)) x.1 x.2 := by kernel_rfl
theorem o119 : LoOk Try.prog EL119 or119 Try.f119.ntmps (loopsIn (codeOf Try.f119)) :=
  LoOk.mk (m := 1) (by kernel_rfl) fun i hi => match i, hi with
    | 0, _ => ⟨Lspec_srPower_l0, by kernel_rfl, spec_srPower_l0o⟩
    | i + 1, hi => absurd hi (by omega)
theorem k119 : CalleeOk Try.prog 119 c119 := callee_mk Try.func119 (code := codeOf Try.f119) (by kernel_rfl) vL119 mixed o119 fun x y h => (e119 x).trans (p119 _ x.1 x.2 y h)

/-- spec.srFactor -/
def EL114 : Nat → Option Callee := addE 119 c119 env0
theorem vL114 : EnvOk Try.prog EL114 := EnvOk.nil.add Try.func119 rfl (by kernel_rfl) k119
def spec_srFactorK {R : Type} (fin : Int → Option R) (x0 : DJob) (x1 : Int) : Option R :=
  (spec_srPower x0.2.2.2.2.2.1 x1).bind fun y1 =>
  (spec_srPower x0.2.2.2.2.2.2.1 (IntKind.i64.wrap ((IntKind.i64.wrap (x0.2.2.2.2.1 - 1)) - x1))).bind fun y2 =>
  fin (IntKind.i64.wrap (y1 * y2))
def spec_srFactor (x0 : DJob) (x1 : Int) : Option (Int) := spec_srFactorK some x0 x1
theorem p114 {R : Type} (fin : Int → Option R) (x0 : DJob) (x1 : Int) : Par fin (spec_srFactorK some x0 x1) (spec_srFactorK fin x0 x1) := by
  unfold spec_srFactorK
  repeat' (first | exact .fin | exact .none | refine .cond ?_ ?_ | refine .bind fun _ => ?_ | refine .sum (fun _ => ?_) fun _ => ?_)
def c114 : Callee := mkC [.agg [.ro TJob], .one (.ro (.int .i64))] 1 [.one (.ro (.int .i64))] fun x => spec_srFactor x.1 x.2
theorem e114 (x : PK.dens [.agg [.ro TJob], .one (.ro (.int .i64))]) : evalFn Try.prog EL114 or0 Try.f114 (PK.outs [.agg [.ro TJob], .one (.ro (.int .i64))] x) =
    spec_srFactorK (fun y => some (tupOf ((PK.outs [.one (.ro (.int .i64))] y).take 1), (PK.outs [.one (.ro (.int .i64))] y).drop 1)) x.1 x.2 := by kernel_rfl
theorem k114 : CalleeOk Try.prog 114 c114 := callee_mk Try.func114 (code := codeOf Try.f114) (by kernel_rfl) vL114 mixed (LoOk.nil (by kernel_rfl)) fun x y h => (e114 x).trans (p114 _ x.1 x.2 y h)

/-- spec.srWorth -/
def EL76 : Nat → Option Callee := addE 114 c114 env0
theorem vL76 : EnvOk Try.prog EL76 := EnvOk.nil.add Try.func114 rfl (by kernel_rfl) k114
def sspec_srWorth_l0 : LS := ⟨[(2, .one (.fix (.ptr 0 0))), (5, .one (.dat (.int .i64))), (8, .one (.dat (.slice (.int .i64)))), (9, .one (.dat (.int .i64))), (10, .one (.dat (.int .i64)))], [.box [.dat (.slice (.slice (.int .i64))), .dat (.slice (.int .i64)), .dat (.slice (.int .i64)), .dat (.int .i64), .dat (.int .i64), .dat (.int .i64), .dat (.int .i64), .dat (.int .i64)]], []⟩
def sspec_srWorth_l0x0 : LS := ⟨[(5, .one (.dat (.int .i64)))], [], []⟩
def xspec_srWorth_l0 : List (XS ((List Int) × Int × (List (List Int)) × (List Int) × (List Int) × Int × Int × Int × Int × Int)) := [⟨.exit 0, ⟨[5], [], [], []⟩, sspec_srWorth_l0x0, Int, fun i y => ((y, ()), ())⟩]
def spec_srWorth_l0K {R : Type} (a1 : List Int) (a2 : Int) (a4 : List (List Int)) (a5 : List Int) (a6 : List Int) (a7 : Int) (a8 : Int) (a9 : Int) (a10 : Int) (a11 : Int) (rc : Int → Int → Option R) (fin : Int → Option R) (a0 : Int) (a3 : Int) : Option R :=
  cond (decide (a3 < a2))
  ((lat a1 a3).bind fun e1 =>
    cond (decide (e1 ≥ 0))
    ((lat a6 a3).bind fun e2 =>
      (spec_srFactor (a4, (a5, (a6, ((a7, (a8, ())), (a9, (a10, (a11, ()))))))) e1).bind fun y3 =>
      rc (IntKind.i64.wrap (a0 + (IntKind.i64.wrap (e2 * y3)))) (IntKind.i64.wrap (a3 + 1)))
    (rc a0 (IntKind.i64.wrap (a3 + 1))))
  (fin a0)
def spec_srWorth_l0F (a1 : List Int) (a2 : Int) (a4 : List (List Int)) (a5 : List Int) (a6 : List Int) (a7 : Int) (a8 : Int) (a9 : Int) (a10 : Int) (a11 : Int) (r : (Int × Int) → Option (Int)) (x : Int × Int) : Option (Int) := spec_srWorth_l0K a1 a2 a4 a5 a6 a7 a8 a9 a10 a11 (fun a0 a3 => r (a0, a3)) some x.1 x.2
theorem spec_srWorth_l0c (a1 : List Int) (a2 : Int) (a4 : List (List Int)) (a5 : List Int) (a6 : List Int) (a7 : Int) (a8 : Int) (a9 : Int) (a10 : Int) (a11 : Int) (x : Int × Int) : Ct fun r => spec_srWorth_l0F a1 a2 a4 a5 a6 a7 a8 a9 a10 a11 r x := by
  unfold spec_srWorth_l0F spec_srWorth_l0K
  repeat' (first | exact Ct.const | exact Ct.call | refine Ct.cond ?_ ?_ | refine Ct.bind ?_ fun _ => ?_ | refine Ct.sum (fun _ => ?_) fun _ => ?_)
def spec_srWorth_l0 (a1 : List Int) (a2 : Int) (a4 : List (List Int)) (a5 : List Int) (a6 : List Int) (a7 : Int) (a8 : Int) (a9 : Int) (a10 : Int) (a11 : Int) (a0 : Int) (a3 : Int) : Option (Int) := lim (spec_srWorth_l0F a1 a2 a4 a5 a6 a7 a8 a9 a10 a11) (a0, a3)
theorem spec_srWorth_l0_eq (a1 : List Int) (a2 : Int) (a4 : List (List Int)) (a5 : List Int) (a6 : List Int) (a7 : Int) (a8 : Int) (a9 : Int) (a10 : Int) (a11 : Int) (a0 : Int) (a3 : Int) : spec_srWorth_l0 a1 a2 a4 a5 a6 a7 a8 a9 a10 a11 a0 a3 = spec_srWorth_l0K a1 a2 a4 a5 a6 a7 a8 a9 a10 a11 (spec_srWorth_l0 a1 a2 a4 a5 a6 a7 a8 a9 a10 a11) some a0 a3 := lim_eq (spec_srWorth_l0c a1 a2 a4 a5 a6 a7 a8 a9 a10 a11) (a0, a3)
theorem spec_srWorth_l0p {R : Type} (a1 : List Int) (a2 : Int) (a4 : List (List Int)) (a5 : List Int) (a6 : List Int) (a7 : Int) (a8 : Int) (a9 : Int) (a10 : Int) (a11 : Int) {rc : Int → Int → Option (Int)} {rc' : Int → Int → Option R} {fin : Int → Option R} (hr : ∀ a0 a3, Par fin (rc a0 a3) (rc' a0 a3)) (a0 : Int) (a3 : Int) : Par fin (spec_srWorth_l0K a1 a2 a4 a5 a6 a7 a8 a9 a10 a11 rc some a0 a3) (spec_srWorth_l0K a1 a2 a4 a5 a6 a7 a8 a9 a10 a11 rc' fin a0 a3) := by
  unfold spec_srWorth_l0K
  repeat' (first | exact .fin | exact .none | exact hr _ _ | refine .cond ?_ ?_ | refine .bind fun _ => ?_ | refine .sum (fun _ => ?_) fun _ => ?_)
def Lspec_srWorth_l0 : Loop := mkL ⟨[2, 5, 8, 9, 10], [.slot 2], [], []⟩ sspec_srWorth_l0 xspec_srWorth_l0 (fun (x : (Unit × Int × (List Int) × Int × Int × Unit) × (((List (List Int)) × (List Int) × (List Int) × Int × Int × Int × Int × Int × Unit) × Unit)) => (x.1.2.2.1, (x.1.2.2.2.1, (x.2.1.1, (x.2.1.2.1, (x.2.1.2.2.1, (x.2.1.2.2.2.1, (x.2.1.2.2.2.2.1, (x.2.1.2.2.2.2.2.1, (x.2.1.2.2.2.2.2.2.1, x.2.1.2.2.2.2.2.2.2.1)))))))))) fun (x : (Unit × Int × (List Int) × Int × Int × Unit) × (((List (List Int)) × (List Int) × (List Int) × Int × Int × Int × Int × Int × Unit) × Unit)) => spec_srWorth_l0 x.1.2.2.1 x.1.2.2.2.1 x.2.1.1 x.2.1.2.1 x.2.1.2.2.1 x.2.1.2.2.2.1 x.2.1.2.2.2.2.1 x.2.1.2.2.2.2.2.1 x.2.1.2.2.2.2.2.2.1 x.2.1.2.2.2.2.2.2.2.1 x.1.2.1 x.1.2.2.2.2.1
def spec_srWorthK {R : Type} (fin : Int → Option R) (x0 : DJob) (x1 : List Int) : Option R :=
  (spec_srWorth_l0 x1 (x1.length : Int) x0.1 x0.2.1 x0.2.2.1 x0.2.2.2.1.1 x0.2.2.2.1.2.1 x0.2.2.2.2.1 x0.2.2.2.2.2.1 x0.2.2.2.2.2.2.1 0 0).bind fun y4 =>
  fin y4
def spec_srWorth (x0 : DJob) (x1 : List Int) : Option (Int) := spec_srWorthK some x0 x1
theorem p76 {R : Type} (fin : Int → Option R) (x0 : DJob) (x1 : List Int) : Par fin (spec_srWorthK some x0 x1) (spec_srWorthK fin x0 x1) := by
  unfold spec_srWorthK
  repeat' (first | exact .fin | exact .none | refine .cond ?_ ?_ | refine .bind fun _ => ?_ | refine .sum (fun _ => ?_) fun _ => ?_)
def or76 : Ora := { lo := addL 3 (Lspec_srWorth_l0) lo0, fin := [] }
theorem spec_srWorth_l0e (a1 : List Int) (a2 : Int) (a4 : List (List Int)) (a5 : List Int) (a6 : List Int) (a7 : Int) (a8 : Int) (a9 : Int) (a10 : Int) (a11 : Int) (k : Nat) (a0 : Int) (a3 : Int) : loopC Try.prog EL76 or76 ((loopsIn (codeOf Try.f76)).getD 0 .skip) (Lspec_srWorth_l0).h (Lspec_srWorth_l0).ho Try.f76.ntmps (k + 1) (sspec_srWorth_l0.out (((), (a0, (a1, (a2, (a3, ()))))), ((a4, (a5, (a6, (a7, (a8, (a9, (a10, (a11, ())))))))), ()))) =
    spec_srWorth_l0K a1 a2 a4 a5 a6 a7 a8 a9 a10 a11 (fun a0 a3 => loopC Try.prog EL76 or76 ((loopsIn (codeOf Try.f76)).getD 0 .skip) (Lspec_srWorth_l0).h (Lspec_srWorth_l0).ho Try.f76.ntmps k (sspec_srWorth_l0.out (((), (a0, (a1, (a2, (a3, ()))))), ((a4, (a5, (a6, (a7, (a8, (a9, (a10, (a11, ())))))))), ())))) (fun y => some (XS.out xspec_srWorth_l0 (a1, (a2, (a4, (a5, (a6, (a7, (a8, (a9, (a10, a11))))))))) y)) a0 a3 := by kernel_rfl
theorem spec_srWorth_l0o : LoopOk Try.prog EL76 or76 Try.f76.ntmps ((loopsIn (codeOf Try.f76)).getD 0 .skip) (Lspec_srWorth_l0) :=
  loop_lim (hs := sspec_srWorth_l0) (xs := xspec_srWorth_l0) (ι := fun (x : (Unit × Int × (List Int) × Int × Int × Unit) × (((List (List Int)) × (List Int) × (List Int) × Int × Int × Int × Int × Int × Unit) × Unit)) => (x.1.2.2.1, (x.1.2.2.2.1, (x.2.1.1, (x.2.1.2.1, (x.2.1.2.2.1, (x.2.1.2.2.2.1, (x.2.1.2.2.2.2.1, (x.2.1.2.2.2.2.2.1, (x.2.1.2.2.2.2.2.2.1, x.2.1.2.2.2.2.2.2.2.1)))))))))) (φ := fun (x : (Unit × Int × (List Int) × Int × Int × Unit) × (((List (List Int)) × (List Int) × (List Int) × Int × Int × Int × Int × Int × Unit) × Unit)) => (x.1.2.1, x.1.2.2.2.2.1)) (ψ := fun (i : (List Int) × Int × (List (List Int)) × (List Int) × (List Int) × Int × Int × Int × Int × Int) (v : Int × Int) => (((), (v.1, (i.1, (i.2.1, (v.2, ()))))), ((i.2.2.1, (i.2.2.2.1, (i.2.2.2.2.1, (i.2.2.2.2.2.1, (i.2.2.2.2.2.2.1, (i.2.2.2.2.2.2.2.1, (i.2.2.2.2.2.2.2.2.1, (i.2.2.2.2.2.2.2.2.2, ())))))))), ()))) (F := fun (i : (List Int) × Int × (List (List Int)) × (List Int) × (List Int) × Int × Int × Int × Int × Int) => spec_srWorth_l0F i.1 i.2.1 i.2.2.1 i.2.2.2.1 i.2.2.2.2.1 i.2.2.2.2.2.1 i.2.2.2.2.2.2.1 i.2.2.2.2.2.2.2.1 i.2.2.2.2.2.2.2.2.1 i.2.2.2.2.2.2.2.2.2) (fun _ => rfl) fun i k hk v => Par.of_eq (spec_srWorth_l0e i.1 i.2.1 i.2.2.1 i.2.2.2.1 i.2.2.2.2.1 i.2.2.2.2.2.1 i.2.2.2.2.2.2.1 i.2.2.2.2.2.2.2.1 i.2.2.2.2.2.2.2.2.1 i.2.2.2.2.2.2.2.2.2 k v.1 v.2) (spec_srWorth_l0p i.1 i.2.1 i.2.2.1 i.2.2.2.1 i.2.2.2.2.1 i.2.2.2.2.2.1 i.2.2.2.2.2.2.1 i.2.2.2.2.2.2.2.1 i.2.2.2.2.2.2.2.2.1 i.2.2.2.2.2.2.2.2.2 (fun a0 a3 => hk (a0, a3)) v.1 v.2)
def c76 : Callee := mkC [.agg [.ro TJob], .one (.ro (.slice (.int .i64)))] 1 [.one (.ro (.int .i64))] fun x => spec_srWorth x.1 x.2
theorem e76 (x : PK.dens [.agg [.ro TJob], .one (.ro (.slice (.int .i64)))]) : evalFn Try.prog EL76 or76 Try.f76 (PK.outs [.agg [.ro TJob], .one (.ro (.slice (.int .i64)))] x) =
    spec_srWorthK (fun y => some (tupOf ((PK.outs [.one (.ro (.int .i64))] y).take 1), (PK.outs [.one (.ro (.int .i64))] y).drop 1)) x.1 x.2 := by kernel_rfl
theorem o76 : LoOk Try.prog EL76 or76 Try.f76.ntmps (loopsIn (codeOf Try.f76)) :=
  LoOk.mk (m := 1) (by kernel_rfl) fun i hi => match i, hi with
    | 0, _ => ⟨Lspec_srWorth_l0, by kernel_rfl, spec_srWorth_l0o⟩
    | i + 1, hi => absurd hi (by omega)
theorem k76 : CalleeOk Try.prog 76 c76 := callee_mk Try.func76 (code := codeOf Try.f76) (by kernel_rfl) vL76 mixed o76 fun x y h => (e76 x).trans (p76 _ x.1 x.2 y h)

/-- spec.woPeriods -/
def EL82 : Nat → Option Callee := addE 114 c114 env0
theorem vL82 : EnvOk Try.prog EL82 := EnvOk.nil.add Try.func114 rfl (by kernel_rfl) k114
def sspec_woPeriods_l0 : LS := ⟨[(2, .one (.fix (.ptr 0 0))), (5, .one (.fix (.sref 1))), (12, .one (.dat (.slice (.int .i64)))), (13, .one (.dat (.int .i64))), (14, .one (.dat (.int .i64)))], [.box [.dat (.slice (.slice (.int .i64))), .dat (.slice (.int .i64)), .dat (.slice (.int .i64)), .dat (.int .i64), .dat (.int .i64), .dat (.int .i64), .dat (.int .i64), .dat (.int .i64)], .sl (.int .i64)], []⟩
def sspec_woPeriods_l0x0 : LS := ⟨[(5, .one (.fix (.sref 0)))], [.sl (.int .i64)], []⟩
def xspec_woPeriods_l0 : List (XS ((List Int) × Int × (List (List Int)) × (List Int) × (List Int) × Int × Int × Int × Int × Int)) := [⟨.exit 0, ⟨[5], [.slot 5], [], []⟩, sspec_woPeriods_l0x0, List Int, fun i y => (((), ()), (y, ()))⟩]
def spec_woPeriods_l0K {R : Type} (a0 : List Int) (a1 : Int) (a3 : List (List Int)) (a4 : List Int) (a5 : List Int) (a6 : Int) (a7 : Int) (a8 : Int) (a9 : Int) (a10 : Int) (rc : Int → List Int → Option R) (fin : List Int → Option R) (a2 : Int) (a11 : List Int) : Option R :=
  cond (decide (a2 < a1))
  ((lat a0 a2).bind fun e1 =>
    cond (decide (e1 ≥ 0))
    (cond (decide ((0 : Int) ≤ e1) && decide (e1 < (a11.length : Int)))
      ((lat a5 a2).bind fun e2 =>
        (spec_srFactor (a3, (a4, (a5, ((a6, (a7, ())), (a8, (a9, (a10, ()))))))) e1).bind fun y3 =>
        (some (IntKind.i64.wrap ((a11.getD (0 + e1.toNat) 0) + (IntKind.i64.wrap (e2 * y3))))).bind fun v4 =>
        cond (decide ((0 : Int) ≤ e1) && decide (e1 < (a11.length : Int)))
        ((some (a11.set (0 + e1.toNat) v4)).bind fun v5 =>
          rc (IntKind.i64.wrap (a2 + 1)) v5)
        (none))
      (none))
    (rc (IntKind.i64.wrap (a2 + 1)) a11))
  (fin a11)
def spec_woPeriods_l0F (a0 : List Int) (a1 : Int) (a3 : List (List Int)) (a4 : List Int) (a5 : List Int) (a6 : Int) (a7 : Int) (a8 : Int) (a9 : Int) (a10 : Int) (r : (Int × (List Int)) → Option (List Int)) (x : Int × (List Int)) : Option (List Int) := spec_woPeriods_l0K a0 a1 a3 a4 a5 a6 a7 a8 a9 a10 (fun a2 a11 => r (a2, a11)) some x.1 x.2
theorem spec_woPeriods_l0c (a0 : List Int) (a1 : Int) (a3 : List (List Int)) (a4 : List Int) (a5 : List Int) (a6 : Int) (a7 : Int) (a8 : Int) (a9 : Int) (a10 : Int) (x : Int × (List Int)) : Ct fun r => spec_woPeriods_l0F a0 a1 a3 a4 a5 a6 a7 a8 a9 a10 r x := by
  unfold spec_woPeriods_l0F spec_woPeriods_l0K
  repeat' (first | exact Ct.const | exact Ct.call | refine Ct.cond ?_ ?_ | refine Ct.bind ?_ fun _ => ?_ | refine Ct.sum (fun _ => ?_) fun _ => ?_)
def spec_woPeriods_l0 (a0 : List Int) (a1 : Int) (a3 : List (List Int)) (a4 : List Int) (a5 : List Int) (a6 : Int) (a7 : Int) (a8 : Int) (a9 : Int) (a10 : Int) (a2 : Int) (a11 : List Int) : Option (List Int) := lim (spec_woPeriods_l0F a0 a1 a3 a4 a5 a6 a7 a8 a9 a10) (a2, a11)
theorem spec_woPeriods_l0_eq (a0 : List Int) (a1 : Int) (a3 : List (List Int)) (a4 : List Int) (a5 : List Int) (a6 : Int) (a7 : Int) (a8 : Int) (a9 : Int) (a10 : Int) (a2 : Int) (a11 : List Int) : spec_woPeriods_l0 a0 a1 a3 a4 a5 a6 a7 a8 a9 a10 a2 a11 = spec_woPeriods_l0K a0 a1 a3 a4 a5 a6 a7 a8 a9 a10 (spec_woPeriods_l0 a0 a1 a3 a4 a5 a6 a7 a8 a9 a10) some a2 a11 := lim_eq (spec_woPeriods_l0c a0 a1 a3 a4 a5 a6 a7 a8 a9 a10) (a2, a11)
theorem spec_woPeriods_l0p {R : Type} (a0 : List Int) (a1 : Int) (a3 : List (List Int)) (a4 : List Int) (a5 : List Int) (a6 : Int) (a7 : Int) (a8 : Int) (a9 : Int) (a10 : Int) {rc : Int → List Int → Option (List Int)} {rc' : Int → List Int → Option R} {fin : List Int → Option R} (hr : ∀ a2 a11, Par fin (rc a2 a11) (rc' a2 a11)) (a2 : Int) (a11 : List Int) : Par fin (spec_woPeriods_l0K a0 a1 a3 a4 a5 a6 a7 a8 a9 a10 rc some a2 a11) (spec_woPeriods_l0K a0 a1 a3 a4 a5 a6 a7 a8 a9 a10 rc' fin a2 a11) := by
  unfold spec_woPeriods_l0K
  repeat' (first | exact .fin | exact .none | exact hr _ _ | refine .cond ?_ ?_ | refine .bind fun _ => ?_ | refine .sum (fun _ => ?_) fun _ => ?_)
def Lspec_woPeriods_l0 : Loop := mkL ⟨[2, 5, 12, 13, 14], [.slot 2, .slot 5], [], []⟩ sspec_woPeriods_l0 xspec_woPeriods_l0 (fun (x : (Unit × Unit × (List Int) × Int × Int × Unit) × (((List (List Int)) × (List Int) × (List Int) × Int × Int × Int × Int × Int × Unit) × (List Int) × Unit)) => (x.1.2.2.1, (x.1.2.2.2.1, (x.2.1.1, (x.2.1.2.1, (x.2.1.2.2.1, (x.2.1.2.2.2.1, (x.2.1.2.2.2.2.1, (x.2.1.2.2.2.2.2.1, (x.2.1.2.2.2.2.2.2.1, x.2.1.2.2.2.2.2.2.2.1)))))))))) fun (x : (Unit × Unit × (List Int) × Int × Int × Unit) × (((List (List Int)) × (List Int) × (List Int) × Int × Int × Int × Int × Int × Unit) × (List Int) × Unit)) => spec_woPeriods_l0 x.1.2.2.1 x.1.2.2.2.1 x.2.1.1 x.2.1.2.1 x.2.1.2.2.1 x.2.1.2.2.2.1 x.2.1.2.2.2.2.1 x.2.1.2.2.2.2.2.1 x.2.1.2.2.2.2.2.2.1 x.2.1.2.2.2.2.2.2.2.1 x.1.2.2.2.2.1 x.2.2.1
def spec_woPeriodsK {R : Type} (fin : List Int → Option R) (x0 : DJob) (x1 : DPlan) : Option R :=
  cond (decide ((0 : Int) ≤ x0.2.2.2.2.1) && (decide (x0.2.2.2.2.1 ≤ x0.2.2.2.2.1) && decide (x0.2.2.2.2.1 ≤ 1099511627776)))
  ((some ((List.replicate x0.2.2.2.2.1.toNat 0 : List Int))).bind fun v1 =>
    (spec_woPeriods_l0 x1.2.1 (x1.2.1.length : Int) x0.1 x0.2.1 x0.2.2.1 x0.2.2.2.1.1 x0.2.2.2.1.2.1 x0.2.2.2.2.1 x0.2.2.2.2.2.1 x0.2.2.2.2.2.2.1 0 v1).bind fun y7 =>
    fin y7)
  (none)
def spec_woPeriods (x0 : DJob) (x1 : DPlan) : Option (List Int) := spec_woPeriodsK some x0 x1
theorem p82 {R : Type} (fin : List Int → Option R) (x0 : DJob) (x1 : DPlan) : Par fin (spec_woPeriodsK some x0 x1) (spec_woPeriodsK fin x0 x1) := by
  unfold spec_woPeriodsK
  repeat' (first | exact .fin | exact .none | refine .cond ?_ ?_ | refine .bind fun _ => ?_ | refine .sum (fun _ => ?_) fun _ => ?_)
def or82 : Ora := { lo := addL 3 (Lspec_woPeriods_l0) lo0, fin := [] }
theorem spec_woPeriods_l0e (a0 : List Int) (a1 : Int) (a3 : List (List Int)) (a4 : List Int) (a5 : List Int) (a6 : Int) (a7 : Int) (a8 : Int) (a9 : Int) (a10 : Int) (k : Nat) (a2 : Int) (a11 : List Int) : loopC Try.prog EL82 or82 ((loopsIn (codeOf Try.f82)).getD 0 .skip) (Lspec_woPeriods_l0).h (Lspec_woPeriods_l0).ho Try.f82.ntmps (k + 1) (sspec_woPeriods_l0.out (((), ((), (a0, (a1, (a2, ()))))), ((a3, (a4, (a5, (a6, (a7, (a8, (a9, (a10, ())))))))), (a11, ())))) =
    spec_woPeriods_l0K a0 a1 a3 a4 a5 a6 a7 a8 a9 a10 (fun a2 a11 => loopC Try.prog EL82 or82 ((loopsIn (codeOf Try.f82)).getD 0 .skip) (Lspec_woPeriods_l0).h (Lspec_woPeriods_l0).ho Try.f82.ntmps k (sspec_woPeriods_l0.out (((), ((), (a0, (a1, (a2, ()))))), ((a3, (a4, (a5, (a6, (a7, (a8, (a9, (a10, ())))))))), (a11, ()))))) (fun y => some (XS.out xspec_woPeriods_l0 (a0, (a1, (a3, (a4, (a5, (a6, (a7, (a8, (a9, a10))))))))) y)) a2 a11 := by kernel_rfl
theorem spec_woPeriods_l0o : LoopOk Try.prog EL82 or82 Try.f82.ntmps ((loopsIn (codeOf Try.f82)).getD 0 .skip) (Lspec_woPeriods_l0) :=
  loop_lim (hs := sspec_woPeriods_l0) (xs := xspec_woPeriods_l0) (ι := fun (x : (Unit × Unit × (List Int) × Int × Int × Unit) × (((List (List Int)) × (List Int) × (List Int) × Int × Int × Int × Int × Int × Unit) × (List Int) × Unit)) => (x.1.2.2.1, (x.1.2.2.2.1, (x.2.1.1, (x.2.1.2.1, (x.2.1.2.2.1, (x.2.1.2.2.2.1, (x.2.1.2.2.2.2.1, (x.2.1.2.2.2.2.2.1, (x.2.1.2.2.2.2.2.2.1, x.2.1.2.2.2.2.2.2.2.1)))))))))) (φ := fun (x : (Unit × Unit × (List Int) × Int × Int × Unit) × (((List (List Int)) × (List Int) × (List Int) × Int × Int × Int × Int × Int × Unit) × (List Int) × Unit)) => (x.1.2.2.2.2.1, x.2.2.1)) (ψ := fun (i : (List Int) × Int × (List (List Int)) × (List Int) × (List Int) × Int × Int × Int × Int × Int) (v : Int × (List Int)) => (((), ((), (i.1, (i.2.1, (v.1, ()))))), ((i.2.2.1, (i.2.2.2.1, (i.2.2.2.2.1, (i.2.2.2.2.2.1, (i.2.2.2.2.2.2.1, (i.2.2.2.2.2.2.2.1, (i.2.2.2.2.2.2.2.2.1, (i.2.2.2.2.2.2.2.2.2, ())))))))), (v.2, ())))) (F := fun (i : (List Int) × Int × (List (List Int)) × (List Int) × (List Int) × Int × Int × Int × Int × Int) => spec_woPeriods_l0F i.1 i.2.1 i.2.2.1 i.2.2.2.1 i.2.2.2.2.1 i.2.2.2.2.2.1 i.2.2.2.2.2.2.1 i.2.2.2.2.2.2.2.1 i.2.2.2.2.2.2.2.2.1 i.2.2.2.2.2.2.2.2.2) (fun _ => rfl) fun i k hk v => Par.of_eq (spec_woPeriods_l0e i.1 i.2.1 i.2.2.1 i.2.2.2.1 i.2.2.2.2.1 i.2.2.2.2.2.1 i.2.2.2.2.2.2.1 i.2.2.2.2.2.2.2.1 i.2.2.2.2.2.2.2.2.1 i.2.2.2.2.2.2.2.2.2 k v.1 v.2) (spec_woPeriods_l0p i.1 i.2.1 i.2.2.1 i.2.2.2.1 i.2.2.2.2.1 i.2.2.2.2.2.1 i.2.2.2.2.2.2.1 i.2.2.2.2.2.2.2.1 i.2.2.2.2.2.2.2.2.1 i.2.2.2.2.2.2.2.2.2 (fun a2 a11 => hk (a2, a11)) v.1 v.2)
def c82 : Callee := mkC [.agg [.ro TJob], .agg [.ro TPlan]] 1 [.one (.sl (.int .i64))] fun x => spec_woPeriods x.1 x.2
theorem e82 (x : PK.dens [.agg [.ro TJob], .agg [.ro TPlan]]) : evalFn Try.prog EL82 or82 Try.f82 (PK.outs [.agg [.ro TJob], .agg [.ro TPlan]] x) =
    spec_woPeriodsK (fun y => some (tupOf ((PK.outs [.one (.sl (.int .i64))] y).take 1), (PK.outs [.one (.sl (.int .i64))] y).drop 1)) x.1 x.2 := by kernel_rfl
theorem o82 : LoOk Try.prog EL82 or82 Try.f82.ntmps (loopsIn (codeOf Try.f82)) :=
  LoOk.mk (m := 1) (by kernel_rfl) fun i hi => match i, hi with
    | 0, _ => ⟨Lspec_woPeriods_l0, by kernel_rfl, spec_woPeriods_l0o⟩
    | i + 1, hi => absurd hi (by omega)
theorem k82 : CalleeOk Try.prog 82 c82 := callee_mk Try.func82 (code := codeOf Try.f82) (by kernel_rfl) vL82 mixed o82 fun x y h => (e82 x).trans (p82 _ x.1 x.2 y h)

/-- spec.woSums -/
def EL80 : Nat → Option Callee := env0
theorem vL80 : EnvOk Try.prog EL80 := EnvOk.nil
def sspec_woSums_l0 : LS := ⟨[(3, .one (.fix (.sref 0))), (4, .one (.dat (.int .i64))), (7, .one (.dat (.slice (.int .i64)))), (8, .one (.dat (.int .i64))), (9, .one (.dat (.int .i64)))], [.sl (.int .i64)], []⟩
def sspec_woSums_l0x0 : LS := ⟨[(3, .one (.fix (.sref 0)))], [.sl (.int .i64)], []⟩
def xspec_woSums_l0 : List (XS ((List Int) × Int)) := [⟨.exit 0, ⟨[3], [.slot 3], [], []⟩, sspec_woSums_l0x0, List Int, fun i y => (((), ()), (y, ()))⟩]
def spec_woSums_l0K {R : Type} (a1 : List Int) (a2 : Int) (rc : Int → Int → List Int → Option R) (fin : List Int → Option R) (a0 : Int) (a3 : Int) (a4 : List Int) : Option R :=
  cond (decide (a3 < a2))
  ((lat a1 a3).bind fun e1 =>
    cond (decide (a4.length + [IntKind.i64.wrap (a0 + e1)].length ≤ 1099511627776))
    ((some (a4 ++ [IntKind.i64.wrap (a0 + e1)])).bind fun v2 =>
      rc (IntKind.i64.wrap (a0 + e1)) (IntKind.i64.wrap (a3 + 1)) v2)
    (none))
  (fin a4)
def spec_woSums_l0F (a1 : List Int) (a2 : Int) (r : (Int × Int × (List Int)) → Option (List Int)) (x : Int × Int × (List Int)) : Option (List Int) := spec_woSums_l0K a1 a2 (fun a0 a3 a4 => r (a0, (a3, a4))) some x.1 x.2.1 x.2.2
theorem spec_woSums_l0c (a1 : List Int) (a2 : Int) (x : Int × Int × (List Int)) : Ct fun r => spec_woSums_l0F a1 a2 r x := by
  unfold spec_woSums_l0F spec_woSums_l0K
  repeat' (first | exact Ct.const | exact Ct.call | refine Ct.cond ?_ ?_ | refine Ct.bind ?_ fun _ => ?_ | refine Ct.sum (fun _ => ?_) fun _ => ?_)
def spec_woSums_l0 (a1 : List Int) (a2 : Int) (a0 : Int) (a3 : Int) (a4 : List Int) : Option (List Int) := lim (spec_woSums_l0F a1 a2) (a0, (a3, a4))
theorem spec_woSums_l0_eq (a1 : List Int) (a2 : Int) (a0 : Int) (a3 : Int) (a4 : List Int) : spec_woSums_l0 a1 a2 a0 a3 a4 = spec_woSums_l0K a1 a2 (spec_woSums_l0 a1 a2) some a0 a3 a4 := lim_eq (spec_woSums_l0c a1 a2) (a0, (a3, a4))
theorem spec_woSums_l0p {R : Type} (a1 : List Int) (a2 : Int) {rc : Int → Int → List Int → Option (List Int)} {rc' : Int → Int → List Int → Option R} {fin : List Int → Option R} (hr : ∀ a0 a3 a4, Par fin (rc a0 a3 a4) (rc' a0 a3 a4)) (a0 : Int) (a3 : Int) (a4 : List Int) : Par fin (spec_woSums_l0K a1 a2 rc some a0 a3 a4) (spec_woSums_l0K a1 a2 rc' fin a0 a3 a4) := by
  unfold spec_woSums_l0K
  repeat' (first | exact .fin | exact .none | exact hr _ _ _ | refine .cond ?_ ?_ | refine .bind fun _ => ?_ | refine .sum (fun _ => ?_) fun _ => ?_)
def Lspec_woSums_l0 : Loop := mkL ⟨[3, 4, 7, 8, 9], [.slot 3], [], [.own (.slot 3) (.int .i64)]⟩ sspec_woSums_l0 xspec_woSums_l0 (fun (x : (Unit × Int × (List Int) × Int × Int × Unit) × ((List Int) × Unit)) => (x.1.2.2.1, x.1.2.2.2.1)) fun (x : (Unit × Int × (List Int) × Int × Int × Unit) × ((List Int) × Unit)) => spec_woSums_l0 x.1.2.2.1 x.1.2.2.2.1 x.1.2.1 x.1.2.2.2.2.1 x.2.1
def spec_woSumsK {R : Type} (fin : List Int → Option R) (x0 : List Int) : Option R :=
  (spec_woSums_l0 x0 (x0.length : Int) 0 0 []).bind fun y5 =>
  fin y5
def spec_woSums (x0 : List Int) : Option (List Int) := spec_woSumsK some x0
theorem p80 {R : Type} (fin : List Int → Option R) (x0 : List Int) : Par fin (spec_woSumsK some x0) (spec_woSumsK fin x0) := by
  unfold spec_woSumsK
  repeat' (first | exact .fin | exact .none | refine .cond ?_ ?_ | refine .bind fun _ => ?_ | refine .sum (fun _ => ?_) fun _ => ?_)
def or80 : Ora := { lo := addL 4 (Lspec_woSums_l0) lo0, fin := [] }
theorem spec_woSums_l0e (a1 : List Int) (a2 : Int) (k : Nat) (a0 : Int) (a3 : Int) (a4 : List Int) : loopC Try.prog EL80 or80 ((loopsIn (codeOf Try.f80)).getD 0 .skip) (Lspec_woSums_l0).h (Lspec_woSums_l0).ho Try.f80.ntmps (k + 1) (sspec_woSums_l0.out (((), (a0, (a1, (a2, (a3, ()))))), (a4, ()))) =
    spec_woSums_l0K a1 a2 (fun a0 a3 a4 => loopC Try.prog EL80 or80 ((loopsIn (codeOf Try.f80)).getD 0 .skip) (Lspec_woSums_l0).h (Lspec_woSums_l0).ho Try.f80.ntmps k (sspec_woSums_l0.out (((), (a0, (a1, (a2, (a3, ()))))), (a4, ())))) (fun y => some (XS.out xspec_woSums_l0 (a1, a2) y)) a0 a3 a4 := by kernel_rfl
theorem spec_woSums_l0o : LoopOk Try.prog EL80 or80 Try.f80.ntmps ((loopsIn (codeOf Try.f80)).getD 0 .skip) (Lspec_woSums_l0) :=
  loop_lim (hs := sspec_woSums_l0) (xs := xspec_woSums_l0) (ι := fun (x : (Unit × Int × (List Int) × Int × Int × Unit) × ((List Int) × Unit)) => (x.1.2.2.1, x.1.2.2.2.1)) (φ := fun (x : (Unit × Int × (List Int) × Int × Int × Unit) × ((List Int) × Unit)) => (x.1.2.1, (x.1.2.2.2.2.1, x.2.1))) (ψ := fun (i : (List Int) × Int) (v : Int × Int × (List Int)) => (((), (v.1, (i.1, (i.2, (v.2.1, ()))))), (v.2.2, ()))) (F := fun (i : (List Int) × Int) => spec_woSums_l0F i.1 i.2) (fun _ => rfl) fun i k hk v => Par.of_eq (spec_woSums_l0e i.1 i.2 k v.1 v.2.1 v.2.2) (spec_woSums_l0p i.1 i.2 (fun a0 a3 a4 => hk (a0, (a3, a4))) v.1 v.2.1 v.2.2)
def c80 : Callee := mkC [.one (.ro (.slice (.int .i64)))] 1 [.one (.sl (.int .i64))] fun x => spec_woSums x
theorem e80 (x : PK.dens [.one (.ro (.slice (.int .i64)))]) : evalFn Try.prog EL80 or80 Try.f80 (PK.outs [.one (.ro (.slice (.int .i64)))] x) =
    spec_woSumsK (fun y => some (tupOf ((PK.outs [.one (.sl (.int .i64))] y).take 1), (PK.outs [.one (.sl (.int .i64))] y).drop 1)) x := by kernel_rfl
theorem o80 : LoOk Try.prog EL80 or80 Try.f80.ntmps (loopsIn (codeOf Try.f80)) :=
  LoOk.mk (m := 1) (by kernel_rfl) fun i hi => match i, hi with
    | 0, _ => ⟨Lspec_woSums_l0, by kernel_rfl, spec_woSums_l0o⟩
    | i + 1, hi => absurd hi (by omega)
theorem k80 : CalleeOk Try.prog 80 c80 := callee_mk Try.func80 (code := codeOf Try.f80) (by kernel_rfl) vL80 mixed o80 fun x y h => (e80 x).trans (p80 _ x y h)

/-- spec.l1Most -/
def EL132 : Nat → Option Callee := env0
theorem vL132 : EnvOk Try.prog EL132 := EnvOk.nil
def spec_l1MostK {R : Type} (fin : Int → Option R) (x0 : Int) (x1 : Int) : Option R :=
  cond (decide (x0 > x1))
  (fin x0)
  (fin x1)
def spec_l1Most (x0 : Int) (x1 : Int) : Option (Int) := spec_l1MostK some x0 x1
theorem p132 {R : Type} (fin : Int → Option R) (x0 : Int) (x1 : Int) : Par fin (spec_l1MostK some x0 x1) (spec_l1MostK fin x0 x1) := by
  unfold spec_l1MostK
  repeat' (first | exact .fin | exact .none | refine .cond ?_ ?_ | refine .bind fun _ => ?_ | refine .sum (fun _ => ?_) fun _ => ?_)
def c132 : Callee := mkC [.one (.ro (.int .i64)), .one (.ro (.int .i64))] 1 [.one (.ro (.int .i64))] fun x => spec_l1Most x.1 x.2
theorem e132 (x : PK.dens [.one (.ro (.int .i64)), .one (.ro (.int .i64))]) : evalFn Try.prog EL132 or0 Try.f132 (PK.outs [.one (.ro (.int .i64)), .one (.ro (.int .i64))] x) =
    spec_l1MostK (fun y => some (tupOf ((PK.outs [.one (.ro (.int .i64))] y).take 1), (PK.outs [.one (.ro (.int .i64))] y).drop 1)) x.1 x.2 := by kernel_rfl
theorem k132 : CalleeOk Try.prog 132 c132 := callee_mk Try.func132 (code := codeOf Try.f132) (by kernel_rfl) vL132 mixed (LoOk.nil (by kernel_rfl)) fun x y h => (e132 x).trans (p132 _ x.1 x.2 y h)

/-- spec.l1Abs -/
def EL117 : Nat → Option Callee := addE 132 c132 env0
theorem vL117 : EnvOk Try.prog EL117 := EnvOk.nil.add Try.func132 rfl (by kernel_rfl) k132
def spec_l1AbsK {R : Type} (fin : Int → Option R) (x0 : Int) : Option R :=
  (spec_l1Most x0 (IntKind.i64.wrap (0 - x0))).bind fun y1 =>
  fin y1
def spec_l1Abs (x0 : Int) : Option (Int) := spec_l1AbsK some x0
theorem p117 {R : Type} (fin : Int → Option R) (x0 : Int) : Par fin (spec_l1AbsK some x0) (spec_l1AbsK fin x0) := by
  unfold spec_l1AbsK
  repeat' (first | exact .fin | exact .none | refine .cond ?_ ?_ | refine .bind fun _ => ?_ | refine .sum (fun _ => ?_) fun _ => ?_)
def c117 : Callee := mkC [.one (.ro (.int .i64))] 1 [.one (.ro (.int .i64))] fun x => spec_l1Abs x
theorem e117 (x : PK.dens [.one (.ro (.int .i64))]) : evalFn Try.prog EL117 or0 Try.f117 (PK.outs [.one (.ro (.int .i64))] x) =
    spec_l1AbsK (fun y => some (tupOf ((PK.outs [.one (.ro (.int .i64))] y).take 1), (PK.outs [.one (.ro (.int .i64))] y).drop 1)) x := by kernel_rfl
theorem k117 : CalleeOk Try.prog 117 c117 := callee_mk Try.func117 (code := codeOf Try.f117) (by kernel_rfl) vL117 mixed (LoOk.nil (by kernel_rfl)) fun x y h => (e117 x).trans (p117 _ x y h)

/-- spec.l1Sign -/
def EL118 : Nat → Option Callee := env0
theorem vL118 : EnvOk Try.prog EL118 := EnvOk.nil
def spec_l1SignK {R : Type} (fin : Int → Option R) (x0 : Int) : Option R :=
  cond (decide (x0 > 0))
  (fin 1)
  (cond (decide (x0 < 0))
    (fin (-1))
    (fin 0))
def spec_l1Sign (x0 : Int) : Option (Int) := spec_l1SignK some x0
theorem p118 {R : Type} (fin : Int → Option R) (x0 : Int) : Par fin (spec_l1SignK some x0) (spec_l1SignK fin x0) := by
  unfold spec_l1SignK
  repeat' (first | exact .fin | exact .none | refine .cond ?_ ?_ | refine .bind fun _ => ?_ | refine .sum (fun _ => ?_) fun _ => ?_)
def c118 : Callee := mkC [.one (.ro (.int .i64))] 1 [.one (.ro (.int .i64))] fun x => spec_l1Sign x
theorem e118 (x : PK.dens [.one (.ro (.int .i64))]) : evalFn Try.prog EL118 or0 Try.f118 (PK.outs [.one (.ro (.int .i64))] x) =
    spec_l1SignK (fun y => some (tupOf ((PK.outs [.one (.ro (.int .i64))] y).take 1), (PK.outs [.one (.ro (.int .i64))] y).drop 1)) x := by kernel_rfl
theorem k118 : CalleeOk Try.prog 118 c118 := callee_mk Try.func118 (code := codeOf Try.f118) (by kernel_rfl) vL118 mixed (LoOk.nil (by kernel_rfl)) fun x y h => (e118 x).trans (p118 _ x y h)

/-- spec.woPart -/
def EL85 : Nat → Option Callee := addE 118 c118 (addE 116 c116 (addE 117 c117 env0))
theorem vL85 : EnvOk Try.prog EL85 := ((EnvOk.nil.add Try.func117 rfl (by kernel_rfl) k117).add Try.func116 rfl (by kernel_rfl) k116).add Try.func118 rfl (by kernel_rfl) k118
def spec_woPartK {R : Type} (fin : Int × Int → Option R) (x0 : Int) (x1 : Int) : Option R :=
  (spec_l1Abs x0).bind fun y1 =>
  (spec_moPart y1 x1).bind fun y2 =>
  (spec_l1Sign x0).bind fun y3 =>
  fin (IntKind.i64.wrap (y3 * y2.1), y2.2)
def spec_woPart (x0 : Int) (x1 : Int) : Option (Int × Int) := spec_woPartK some x0 x1
theorem p85 {R : Type} (fin : Int × Int → Option R) (x0 : Int) (x1 : Int) : Par fin (spec_woPartK some x0 x1) (spec_woPartK fin x0 x1) := by
  unfold spec_woPartK
  repeat' (first | exact .fin | exact .none | refine .cond ?_ ?_ | refine .bind fun _ => ?_ | refine .sum (fun _ => ?_) fun _ => ?_)
def c85 : Callee := mkC [.one (.ro (.int .i64)), .one (.ro (.int .i64))] 2 [.one (.ro (.int .i64)), .one (.ro (.int .i64))] fun x => spec_woPart x.1 x.2
theorem e85 (x : PK.dens [.one (.ro (.int .i64)), .one (.ro (.int .i64))]) : evalFn Try.prog EL85 or0 Try.f85 (PK.outs [.one (.ro (.int .i64)), .one (.ro (.int .i64))] x) =
    spec_woPartK (fun y => some (tupOf ((PK.outs [.one (.ro (.int .i64)), .one (.ro (.int .i64))] y).take 2), (PK.outs [.one (.ro (.int .i64)), .one (.ro (.int .i64))] y).drop 2)) x.1 x.2 := by kernel_rfl
theorem k85 : CalleeOk Try.prog 85 c85 := callee_mk Try.func85 (code := codeOf Try.f85) (by kernel_rfl) vL85 mixed (LoOk.nil (by kernel_rfl)) fun x y h => (e85 x).trans (p85 _ x.1 x.2 y h)
end
end Go.OAI
