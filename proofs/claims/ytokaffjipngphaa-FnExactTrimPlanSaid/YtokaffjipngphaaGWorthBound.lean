/- Contracts: GWorthBound. -/
import Derived.Test.YtokaffjipngphaaGA
import Derived.Test.YtokaffjipngphaaGW
import Derived.Test.YtokaffjipngphaaGFl
import Derived.Test.YtokaffjipngphaaGPa
namespace Go.OAI
open Go.Proofs
set_option linter.unusedVariables false
noncomputable section


/-- spec.vaSum -/
def EL48 : Nat → Option Callee := env0
theorem vL48 : EnvOk Try.prog EL48 := EnvOk.nil
def sspec_vaSum_l0 : LS := ⟨[(0, .one (.dat (.slice (.int .i64)))), (5, .one (.dat (.int .i64))), (8, .one (.dat (.slice (.int .i64)))), (9, .one (.dat (.int .i64))), (10, .one (.dat (.int .i64)))], [], []⟩
def sspec_vaSum_l0x0 : LS := ⟨[(5, .one (.dat (.int .i64)))], [], []⟩
def xspec_vaSum_l0 : List (XS ((List Int) × (List Int) × Int)) := [⟨.exit 0, ⟨[5], [], [], []⟩, sspec_vaSum_l0x0, Int, fun i y => ((y, ()), ())⟩]
def spec_vaSum_l0K {R : Type} (a0 : List Int) (a2 : List Int) (a3 : Int) (rc : Int → Int → Option R) (fin : Int → Option R) (a1 : Int) (a4 : Int) : Option R :=
  cond (decide (a4 < a3))
  ((lat a2 a4).bind fun e1 =>
    (lat a0 e1).bind fun e2 =>
    rc (IntKind.i64.wrap (a1 + e2)) (IntKind.i64.wrap (a4 + 1)))
  (fin a1)
def spec_vaSum_l0F (a0 : List Int) (a2 : List Int) (a3 : Int) (r : (Int × Int) → Option (Int)) (x : Int × Int) : Option (Int) := spec_vaSum_l0K a0 a2 a3 (fun a1 a4 => r (a1, a4)) some x.1 x.2
theorem spec_vaSum_l0c (a0 : List Int) (a2 : List Int) (a3 : Int) (x : Int × Int) : Ct fun r => spec_vaSum_l0F a0 a2 a3 r x := by
  unfold spec_vaSum_l0F spec_vaSum_l0K
  repeat' (first | exact Ct.const | exact Ct.call | refine Ct.cond ?_ ?_ | refine Ct.bind ?_ fun _ => ?_ | refine Ct.sum (fun _ => ?_) fun _ => ?_)
def spec_vaSum_l0 (a0 : List Int) (a2 : List Int) (a3 : Int) (a1 : Int) (a4 : Int) : Option (Int) := lim (spec_vaSum_l0F a0 a2 a3) (a1, a4)
theorem spec_vaSum_l0_eq (a0 : List Int) (a2 : List Int) (a3 : Int) (a1 : Int) (a4 : Int) : spec_vaSum_l0 a0 a2 a3 a1 a4 = spec_vaSum_l0K a0 a2 a3 (spec_vaSum_l0 a0 a2 a3) some a1 a4 := lim_eq (spec_vaSum_l0c a0 a2 a3) (a1, a4)
theorem spec_vaSum_l0p {R : Type} (a0 : List Int) (a2 : List Int) (a3 : Int) {rc : Int → Int → Option (Int)} {rc' : Int → Int → Option R} {fin : Int → Option R} (hr : ∀ a1 a4, Par fin (rc a1 a4) (rc' a1 a4)) (a1 : Int) (a4 : Int) : Par fin (spec_vaSum_l0K a0 a2 a3 rc some a1 a4) (spec_vaSum_l0K a0 a2 a3 rc' fin a1 a4) := by
  unfold spec_vaSum_l0K
  repeat' (first | exact .fin | exact .none | exact hr _ _ | refine .cond ?_ ?_ | refine .bind fun _ => ?_ | refine .sum (fun _ => ?_) fun _ => ?_)
def Lspec_vaSum_l0 : Loop := mkL ⟨[0, 5, 8, 9, 10], [], [], []⟩ sspec_vaSum_l0 xspec_vaSum_l0 (fun (x : ((List Int) × Int × (List Int) × Int × Int × Unit) × (Unit)) => (x.1.1, (x.1.2.2.1, x.1.2.2.2.1))) fun (x : ((List Int) × Int × (List Int) × Int × Int × Unit) × (Unit)) => spec_vaSum_l0 x.1.1 x.1.2.2.1 x.1.2.2.2.1 x.1.2.1 x.1.2.2.2.2.1
def spec_vaSumK {R : Type} (fin : Int → Option R) (x0 : List Int) (x1 : List Int) : Option R :=
  (spec_vaSum_l0 x0 x1 (x1.length : Int) 0 0).bind fun y3 =>
  fin y3
def spec_vaSum (x0 : List Int) (x1 : List Int) : Option (Int) := spec_vaSumK some x0 x1
theorem p48 {R : Type} (fin : Int → Option R) (x0 : List Int) (x1 : List Int) : Par fin (spec_vaSumK some x0 x1) (spec_vaSumK fin x0 x1) := by
  unfold spec_vaSumK
  repeat' (first | exact .fin | exact .none | refine .cond ?_ ?_ | refine .bind fun _ => ?_ | refine .sum (fun _ => ?_) fun _ => ?_)
def or48 : Ora := { lo := addL 3 (Lspec_vaSum_l0) lo0, fin := [] }
theorem spec_vaSum_l0e (a0 : List Int) (a2 : List Int) (a3 : Int) (k : Nat) (a1 : Int) (a4 : Int) : loopC Try.prog EL48 or48 ((loopsIn (codeOf Try.f48)).getD 0 .skip) (Lspec_vaSum_l0).h (Lspec_vaSum_l0).ho Try.f48.ntmps (k + 1) (sspec_vaSum_l0.out ((a0, (a1, (a2, (a3, (a4, ()))))), ())) =
    spec_vaSum_l0K a0 a2 a3 (fun a1 a4 => loopC Try.prog EL48 or48 ((loopsIn (codeOf Try.f48)).getD 0 .skip) (Lspec_vaSum_l0).h (Lspec_vaSum_l0).ho Try.f48.ntmps k (sspec_vaSum_l0.out ((a0, (a1, (a2, (a3, (a4, ()))))), ()))) (fun y => some (XS.out xspec_vaSum_l0 (a0, (a2, a3)) y)) a1 a4 := by kernel_rfl
theorem spec_vaSum_l0o : LoopOk Try.prog EL48 or48 Try.f48.ntmps ((loopsIn (codeOf Try.f48)).getD 0 .skip) (Lspec_vaSum_l0) :=
  loop_lim (hs := sspec_vaSum_l0) (xs := xspec_vaSum_l0) (ι := fun (x : ((List Int) × Int × (List Int) × Int × Int × Unit) × (Unit)) => (x.1.1, (x.1.2.2.1, x.1.2.2.2.1))) (φ := fun (x : ((List Int) × Int × (List Int) × Int × Int × Unit) × (Unit)) => (x.1.2.1, x.1.2.2.2.2.1)) (ψ := fun (i : (List Int) × (List Int) × Int) (v : Int × Int) => ((i.1, (v.1, (i.2.1, (i.2.2, (v.2, ()))))), ())) (F := fun (i : (List Int) × (List Int) × Int) => spec_vaSum_l0F i.1 i.2.1 i.2.2) (fun _ => rfl) fun i k hk v => Par.of_eq (spec_vaSum_l0e i.1 i.2.1 i.2.2 k v.1 v.2) (spec_vaSum_l0p i.1 i.2.1 i.2.2 (fun a1 a4 => hk (a1, a4)) v.1 v.2)
def c48 : Callee := mkC [.one (.ro (.slice (.int .i64))), .one (.ro (.slice (.int .i64)))] 1 [.one (.ro (.int .i64))] fun x => spec_vaSum x.1 x.2
theorem e48 (x : PK.dens [.one (.ro (.slice (.int .i64))), .one (.ro (.slice (.int .i64)))]) : evalFn Try.prog EL48 or48 Try.f48 (PK.outs [.one (.ro (.slice (.int .i64))), .one (.ro (.slice (.int .i64)))] x) =
    spec_vaSumK (fun y => some (tupOf ((PK.outs [.one (.ro (.int .i64))] y).take 1), (PK.outs [.one (.ro (.int .i64))] y).drop 1)) x.1 x.2 := by kernel_rfl
theorem o48 : LoOk Try.prog EL48 or48 Try.f48.ntmps (loopsIn (codeOf Try.f48)) :=
  LoOk.mk (m := 1) (by kernel_rfl) fun i hi => match i, hi with
    | 0, _ => ⟨Lspec_vaSum_l0, by kernel_rfl, spec_vaSum_l0o⟩
    | i + 1, hi => absurd hi (by omega)
theorem k48 : CalleeOk Try.prog 48 c48 := callee_mk Try.func48 (code := codeOf Try.f48) (by kernel_rfl) vL48 mixed o48 fun x y h => (e48 x).trans (p48 _ x.1 x.2 y h)

/-- spec.woScale -/
def EL50 : Nat → Option Callee := addE 86 c86 env0
theorem vL50 : EnvOk Try.prog EL50 := EnvOk.nil.add Try.func86 rfl (by kernel_rfl) k86
def spec_woScaleK {R : Type} (fin : Int → Option R) (x0 : DJob) : Option R :=
  (spec_srPower x0.2.2.2.2.2.2.1 (IntKind.i64.wrap (x0.2.2.2.2.1 - 1))).bind fun y1 =>
  fin y1
def spec_woScale (x0 : DJob) : Option (Int) := spec_woScaleK some x0
theorem p50 {R : Type} (fin : Int → Option R) (x0 : DJob) : Par fin (spec_woScaleK some x0) (spec_woScaleK fin x0) := by
  unfold spec_woScaleK
  repeat' (first | exact .fin | exact .none | refine .cond ?_ ?_ | refine .bind fun _ => ?_ | refine .sum (fun _ => ?_) fun _ => ?_)
def c50 : Callee := mkC [.agg [.ro TJob]] 1 [.one (.ro (.int .i64))] fun x => spec_woScale x
theorem e50 (x : PK.dens [.agg [.ro TJob]]) : evalFn Try.prog EL50 or0 Try.f50 (PK.outs [.agg [.ro TJob]] x) =
    spec_woScaleK (fun y => some (tupOf ((PK.outs [.one (.ro (.int .i64))] y).take 1), (PK.outs [.one (.ro (.int .i64))] y).drop 1)) x := by kernel_rfl
theorem k50 : CalleeOk Try.prog 50 c50 := callee_mk Try.func50 (code := codeOf Try.f50) (by kernel_rfl) vL50 mixed (LoOk.nil (by kernel_rfl)) fun x y h => (e50 x).trans (p50 _ x y h)

/-- spec.WorthBound -/
def EL13 : Nat → Option Callee := addE 50 c50 (addE 48 c48 (addE 49 c49 (addE 47 c47 env0)))
theorem vL13 : EnvOk Try.prog EL13 := (((EnvOk.nil.add Try.func47 rfl (by kernel_rfl) k47).add Try.func49 rfl (by kernel_rfl) k49).add Try.func48 rfl (by kernel_rfl) k48).add Try.func50 rfl (by kernel_rfl) k50
def spec_WorthBoundK {R : Type} (fin : Int × Bool → Option R) (x0 : DJob) : Option R :=
  (spec_plJob x0).bind fun y1 =>
  cond (!y1)
  (fin (0, false))
  ((spec_paFind x0.1 x0.2.2.1).bind fun y2 =>
    (spec_vaSum x0.2.2.1 y2).bind fun y3 =>
    (spec_woScale x0).bind fun y4 =>
    fin (IntKind.i64.wrap (y3 * y4), true))
def spec_WorthBound (x0 : DJob) : Option (Int × Bool) := spec_WorthBoundK some x0
theorem p13 {R : Type} (fin : Int × Bool → Option R) (x0 : DJob) : Par fin (spec_WorthBoundK some x0) (spec_WorthBoundK fin x0) := by
  unfold spec_WorthBoundK
  repeat' (first | exact .fin | exact .none | refine .cond ?_ ?_ | refine .bind fun _ => ?_ | refine .sum (fun _ => ?_) fun _ => ?_)
def c13 : Callee := mkC [.agg [.ro TJob]] 2 [.one (.ro (.int .i64)), .one (.ro .bool)] fun x => spec_WorthBound x
theorem e13 (x : PK.dens [.agg [.ro TJob]]) : evalFn Try.prog EL13 or0 Try.f13 (PK.outs [.agg [.ro TJob]] x) =
    spec_WorthBoundK (fun y => some (tupOf ((PK.outs [.one (.ro (.int .i64)), .one (.ro .bool)] y).take 2), (PK.outs [.one (.ro (.int .i64)), .one (.ro .bool)] y).drop 2)) x := by kernel_rfl
theorem k13 : CalleeOk Try.prog 13 c13 := callee_mk Try.func13 (code := codeOf Try.f13) (by kernel_rfl) vL13 mixed (LoOk.nil (by kernel_rfl)) fun x y h => (e13 x).trans (p13 _ x y h)

/-- impl.outOf -/
def EL80 : Nat → Option Callee := env0
theorem vL80 : EnvOk Try.prog EL80 := EnvOk.nil
def simpl_outOf_l0 : LS := ⟨[(0, .one (.dat (.slice .bool))), (3, .one (.fix (.sref 0))), (9, .one (.dat (.int .i64))), (10, .one (.dat (.int .i64)))], [.sl .bool], []⟩
def simpl_outOf_l0x0 : LS := ⟨[(3, .one (.fix (.sref 0)))], [.sl .bool], []⟩
def ximpl_outOf_l0 : List (XS ((List Bool) × Int)) := [⟨.exit 0, ⟨[3], [.slot 3], [], []⟩, simpl_outOf_l0x0, List Bool, fun i y => (((), ()), (y, ()))⟩]
def impl_outOf_l0K {R : Type} (a0 : List Bool) (a1 : Int) (rc : Int → List Bool → Option R) (fin : List Bool → Option R) (a2 : Int) (a3 : List Bool) : Option R :=
  cond (decide (a2 < a1))
  ((lat a0 a2).bind fun e1 =>
    cond (decide ((0 : Int) ≤ a2) && decide (a2 < (a3.length : Int)))
    ((some (a3.set (0 + a2.toNat) (!e1))).bind fun v2 =>
      rc (IntKind.i64.wrap (a2 + 1)) v2)
    (none))
  (fin a3)
def impl_outOf_l0F (a0 : List Bool) (a1 : Int) (r : (Int × (List Bool)) → Option (List Bool)) (x : Int × (List Bool)) : Option (List Bool) := impl_outOf_l0K a0 a1 (fun a2 a3 => r (a2, a3)) some x.1 x.2
theorem impl_outOf_l0c (a0 : List Bool) (a1 : Int) (x : Int × (List Bool)) : Ct fun r => impl_outOf_l0F a0 a1 r x := by
  unfold impl_outOf_l0F impl_outOf_l0K
  repeat' (first | exact Ct.const | exact Ct.call | refine Ct.cond ?_ ?_ | refine Ct.bind ?_ fun _ => ?_ | refine Ct.sum (fun _ => ?_) fun _ => ?_)
def impl_outOf_l0 (a0 : List Bool) (a1 : Int) (a2 : Int) (a3 : List Bool) : Option (List Bool) := lim (impl_outOf_l0F a0 a1) (a2, a3)
theorem impl_outOf_l0_eq (a0 : List Bool) (a1 : Int) (a2 : Int) (a3 : List Bool) : impl_outOf_l0 a0 a1 a2 a3 = impl_outOf_l0K a0 a1 (impl_outOf_l0 a0 a1) some a2 a3 := lim_eq (impl_outOf_l0c a0 a1) (a2, a3)
theorem impl_outOf_l0p {R : Type} (a0 : List Bool) (a1 : Int) {rc : Int → List Bool → Option (List Bool)} {rc' : Int → List Bool → Option R} {fin : List Bool → Option R} (hr : ∀ a2 a3, Par fin (rc a2 a3) (rc' a2 a3)) (a2 : Int) (a3 : List Bool) : Par fin (impl_outOf_l0K a0 a1 rc some a2 a3) (impl_outOf_l0K a0 a1 rc' fin a2 a3) := by
  unfold impl_outOf_l0K
  repeat' (first | exact .fin | exact .none | exact hr _ _ | refine .cond ?_ ?_ | refine .bind fun _ => ?_ | refine .sum (fun _ => ?_) fun _ => ?_)
def Limpl_outOf_l0 : Loop := mkL ⟨[0, 3, 9, 10], [.slot 3], [], []⟩ simpl_outOf_l0 ximpl_outOf_l0 (fun (x : ((List Bool) × Unit × Int × Int × Unit) × ((List Bool) × Unit)) => (x.1.1, x.1.2.2.1)) fun (x : ((List Bool) × Unit × Int × Int × Unit) × ((List Bool) × Unit)) => impl_outOf_l0 x.1.1 x.1.2.2.1 x.1.2.2.2.1 x.2.1
def impl_outOfK {R : Type} (fin : List Bool → Option R) (x0 : List Bool) : Option R :=
  cond (decide ((0 : Int) ≤ (x0.length : Int)) && (decide ((x0.length : Int) ≤ (x0.length : Int)) && decide ((x0.length : Int) ≤ 1099511627776)))
  ((some ((List.replicate ((x0.length : Int).toNat) false : List Bool))).bind fun v1 =>
    (impl_outOf_l0 x0 (x0.length : Int) 0 v1).bind fun y4 =>
    fin y4)
  (none)
def impl_outOf (x0 : List Bool) : Option (List Bool) := impl_outOfK some x0
theorem p80 {R : Type} (fin : List Bool → Option R) (x0 : List Bool) : Par fin (impl_outOfK some x0) (impl_outOfK fin x0) := by
  unfold impl_outOfK
  repeat' (first | exact .fin | exact .none | refine .cond ?_ ?_ | refine .bind fun _ => ?_ | refine .sum (fun _ => ?_) fun _ => ?_)
def or80 : Ora := { lo := addL 3 (Limpl_outOf_l0) lo0, fin := [] }
theorem impl_outOf_l0e (a0 : List Bool) (a1 : Int) (k : Nat) (a2 : Int) (a3 : List Bool) : loopC Try.prog EL80 or80 ((loopsIn (codeOf Try.f80)).getD 0 .skip) (Limpl_outOf_l0).h (Limpl_outOf_l0).ho Try.f80.ntmps (k + 1) (simpl_outOf_l0.out ((a0, ((), (a1, (a2, ())))), (a3, ()))) =
    impl_outOf_l0K a0 a1 (fun a2 a3 => loopC Try.prog EL80 or80 ((loopsIn (codeOf Try.f80)).getD 0 .skip) (Limpl_outOf_l0).h (Limpl_outOf_l0).ho Try.f80.ntmps k (simpl_outOf_l0.out ((a0, ((), (a1, (a2, ())))), (a3, ())))) (fun y => some (XS.out ximpl_outOf_l0 (a0, a1) y)) a2 a3 := by kernel_rfl
theorem impl_outOf_l0o : LoopOk Try.prog EL80 or80 Try.f80.ntmps ((loopsIn (codeOf Try.f80)).getD 0 .skip) (Limpl_outOf_l0) :=
  loop_lim (hs := simpl_outOf_l0) (xs := ximpl_outOf_l0) (ι := fun (x : ((List Bool) × Unit × Int × Int × Unit) × ((List Bool) × Unit)) => (x.1.1, x.1.2.2.1)) (φ := fun (x : ((List Bool) × Unit × Int × Int × Unit) × ((List Bool) × Unit)) => (x.1.2.2.2.1, x.2.1)) (ψ := fun (i : (List Bool) × Int) (v : Int × (List Bool)) => ((i.1, ((), (i.2, (v.1, ())))), (v.2, ()))) (F := fun (i : (List Bool) × Int) => impl_outOf_l0F i.1 i.2) (fun _ => rfl) fun i k hk v => Par.of_eq (impl_outOf_l0e i.1 i.2 k v.1 v.2) (impl_outOf_l0p i.1 i.2 (fun a2 a3 => hk (a2, a3)) v.1 v.2)
def c80 : Callee := mkC [.one (.ro (.slice .bool))] 1 [.one (.sl .bool)] fun x => impl_outOf x
theorem e80 (x : PK.dens [.one (.ro (.slice .bool))]) : evalFn Try.prog EL80 or80 Try.f80 (PK.outs [.one (.ro (.slice .bool))] x) =
    impl_outOfK (fun y => some (tupOf ((PK.outs [.one (.sl .bool)] y).take 1), (PK.outs [.one (.sl .bool)] y).drop 1)) x := by kernel_rfl
theorem o80 : LoOk Try.prog EL80 or80 Try.f80.ntmps (loopsIn (codeOf Try.f80)) :=
  LoOk.mk (m := 1) (by kernel_rfl) fun i hi => match i, hi with
    | 0, _ => ⟨Limpl_outOf_l0, by kernel_rfl, impl_outOf_l0o⟩
    | i + 1, hi => absurd hi (by omega)
theorem k80 : CalleeOk Try.prog 80 c80 := callee_mk Try.func80 (code := codeOf Try.f80) (by kernel_rfl) vL80 mixed o80 fun x y h => (e80 x).trans (p80 _ x y h)

/-- impl.bestPit -/
def EL120079 : Nat → Option Callee := addE 80 c80 (addE 108 c108 (addE 96 c96 (addE 95 c95 (addE 94 c94 (addE 107 c107 env0)))))
theorem vL120079 : EnvOk Try.prog EL120079 := (((((EnvOk.nil.add Try.func107 rfl (by kernel_rfl) k107).add Try.func94 rfl (by kernel_rfl) k94).add Try.func95 rfl (by kernel_rfl) k95).add Try.func96 rfl (by kernel_rfl) k96).add Try.func108 rfl (by kernel_rfl) k108).add Try.func80 rfl (by kernel_rfl) k80
def simpl_bestPit_N12_l0 : LS := ⟨[(0, .one (.dat (.slice (.slice (.int .i64))))), (2, .one (.fix .nils)), (3, .one (.fix .nils)), (4, .one (.dat .bool)), (11, .one (.fix (.sref 0))), (23, .one (.dat (.int .i64))), (24, .one (.dat (.int .i64)))], [.sl (.int .i64)], []⟩
def simpl_bestPit_N12_l0x0 : LS := ⟨[(0, .one (.dat (.slice (.slice (.int .i64))))), (2, .one (.fix .nils)), (4, .one (.dat .bool)), (11, .one (.fix (.sref 0)))], [.sl (.int .i64)], []⟩
def ximpl_bestPit_N12_l0 : List (XS ((List (List Int)) × Bool × Int × (List Int))) := [⟨.exit 0, ⟨[0, 2, 4, 11], [.slot 11], [], []⟩, simpl_bestPit_N12_l0x0, Unit, fun i y => ((i.1, ((), (i.2.1, ((), ())))), (i.2.2.2, ()))⟩]
def impl_bestPit_N12_l0K {R : Type} (a2 : Int) (rc : Int → Option R) (fin : Unit → Option R) (a3 : Int) : Option R :=
  cond (decide (a3 < a2))
  (rc (IntKind.i64.wrap (a3 + 1)))
  (fin ())
def impl_bestPit_N12_l0F (a2 : Int) (r : Int → Option (Unit)) (x : Int) : Option (Unit) := impl_bestPit_N12_l0K a2 (fun a3 => r a3) some x
theorem impl_bestPit_N12_l0c (a2 : Int) (x : Int) : Ct fun r => impl_bestPit_N12_l0F a2 r x := by
  unfold impl_bestPit_N12_l0F impl_bestPit_N12_l0K
  repeat' (first | exact Ct.const | exact Ct.call | refine Ct.cond ?_ ?_ | refine Ct.bind ?_ fun _ => ?_ | refine Ct.sum (fun _ => ?_) fun _ => ?_)
def impl_bestPit_N12_l0 (a2 : Int) (a3 : Int) : Option (Unit) := lim (impl_bestPit_N12_l0F a2) a3
theorem impl_bestPit_N12_l0_eq (a2 : Int) (a3 : Int) : impl_bestPit_N12_l0 a2 a3 = impl_bestPit_N12_l0K a2 (impl_bestPit_N12_l0 a2) some a3 := lim_eq (impl_bestPit_N12_l0c a2) a3
theorem impl_bestPit_N12_l0p {R : Type} (a2 : Int) {rc : Int → Option (Unit)} {rc' : Int → Option R} {fin : Unit → Option R} (hr : ∀ a3, Par fin (rc a3) (rc' a3)) (a3 : Int) : Par fin (impl_bestPit_N12_l0K a2 rc some a3) (impl_bestPit_N12_l0K a2 rc' fin a3) := by
  unfold impl_bestPit_N12_l0K
  repeat' (first | exact .fin | exact .none | exact hr _ | refine .cond ?_ ?_ | refine .bind fun _ => ?_ | refine .sum (fun _ => ?_) fun _ => ?_)
def Limpl_bestPit_N12_l0 : Loop := mkL ⟨[0, 2, 3, 4, 11, 23, 24], [.slot 11], [], []⟩ simpl_bestPit_N12_l0 ximpl_bestPit_N12_l0 (fun (x : ((List (List Int)) × Unit × Unit × Bool × Unit × Int × Int × Unit) × ((List Int) × Unit)) => (x.1.1, (x.1.2.2.2.1, (x.1.2.2.2.2.2.1, x.2.1)))) fun (x : ((List (List Int)) × Unit × Unit × Bool × Unit × Int × Int × Unit) × ((List Int) × Unit)) => impl_bestPit_N12_l0 x.1.2.2.2.2.2.1 x.1.2.2.2.2.2.2.1
def simpl_bestPit_N12_l1 : LS := ⟨[(2, .one (.fix .nils)), (17, .one (.win 0)), (72, .one (.dat (.int .i64))), (73, .one (.dat (.int .i64)))], [.sl .bool], []⟩
def simpl_bestPit_N12_l1x0 : LS := ⟨[(17, .one (.win 0))], [.sl .bool], []⟩
def ximpl_bestPit_N12_l1 : List (XS (Nat × Nat × Int)) := [⟨.exit 2, ⟨[17], [.slot 17], [], []⟩, simpl_bestPit_N12_l1x0, List Bool, fun i y => (((i.1, i.2.1), ()), (y, ()))⟩]
def impl_bestPit_N12_l1K {R : Type} (a0 : Nat) (a1 : Nat) (a2 : Int) (rc : Int → List Bool → Option R) (fin : List Bool → Option R) (a3 : Int) (a4 : List Bool) : Option R :=
  cond (decide (a3 < a2))
  (cond (decide ((0 : Int) ≤ a3) && decide (a3 < (((a4.drop a0).take a1).length : Int)))
    (cond (a4.getD (a0 + a3.toNat) false)
      (cond (decide ((0 : Int) ≤ a3) && decide (a3 < (((a4.drop a0).take a1).length : Int)))
        ((some (a4.set (a0 + a3.toNat) true)).bind fun v1 =>
          rc (IntKind.i64.wrap (a3 + 1)) v1)
        (none))
      (cond (decide ((0 : Int) ≤ a3) && decide (a3 < (((a4.drop a0).take a1).length : Int)))
        ((some (a4.set (a0 + a3.toNat) false)).bind fun v2 =>
          rc (IntKind.i64.wrap (a3 + 1)) v2)
        (none)))
    (none))
  (fin a4)
def impl_bestPit_N12_l1F (a0 : Nat) (a1 : Nat) (a2 : Int) (r : (Int × (List Bool)) → Option (List Bool)) (x : Int × (List Bool)) : Option (List Bool) := impl_bestPit_N12_l1K a0 a1 a2 (fun a3 a4 => r (a3, a4)) some x.1 x.2
theorem impl_bestPit_N12_l1c (a0 : Nat) (a1 : Nat) (a2 : Int) (x : Int × (List Bool)) : Ct fun r => impl_bestPit_N12_l1F a0 a1 a2 r x := by
  unfold impl_bestPit_N12_l1F impl_bestPit_N12_l1K
  repeat' (first | exact Ct.const | exact Ct.call | refine Ct.cond ?_ ?_ | refine Ct.bind ?_ fun _ => ?_ | refine Ct.sum (fun _ => ?_) fun _ => ?_)
def impl_bestPit_N12_l1 (a0 : Nat) (a1 : Nat) (a2 : Int) (a3 : Int) (a4 : List Bool) : Option (List Bool) := lim (impl_bestPit_N12_l1F a0 a1 a2) (a3, a4)
theorem impl_bestPit_N12_l1_eq (a0 : Nat) (a1 : Nat) (a2 : Int) (a3 : Int) (a4 : List Bool) : impl_bestPit_N12_l1 a0 a1 a2 a3 a4 = impl_bestPit_N12_l1K a0 a1 a2 (impl_bestPit_N12_l1 a0 a1 a2) some a3 a4 := lim_eq (impl_bestPit_N12_l1c a0 a1 a2) (a3, a4)
theorem impl_bestPit_N12_l1p {R : Type} (a0 : Nat) (a1 : Nat) (a2 : Int) {rc : Int → List Bool → Option (List Bool)} {rc' : Int → List Bool → Option R} {fin : List Bool → Option R} (hr : ∀ a3 a4, Par fin (rc a3 a4) (rc' a3 a4)) (a3 : Int) (a4 : List Bool) : Par fin (impl_bestPit_N12_l1K a0 a1 a2 rc some a3 a4) (impl_bestPit_N12_l1K a0 a1 a2 rc' fin a3 a4) := by
  unfold impl_bestPit_N12_l1K
  repeat' (first | exact .fin | exact .none | exact hr _ _ | refine .cond ?_ ?_ | refine .bind fun _ => ?_ | refine .sum (fun _ => ?_) fun _ => ?_)
def Limpl_bestPit_N12_l1 : Loop := mkL ⟨[2, 17, 72, 73], [.slot 17], [], []⟩ simpl_bestPit_N12_l1 ximpl_bestPit_N12_l1 (fun (x : (Unit × (Nat × Nat) × Int × Int × Unit) × ((List Bool) × Unit)) => (x.1.2.1.1, (x.1.2.1.2, x.1.2.2.1))) fun (x : (Unit × (Nat × Nat) × Int × Int × Unit) × ((List Bool) × Unit)) => impl_bestPit_N12_l1 x.1.2.1.1 x.1.2.1.2 x.1.2.2.1 x.1.2.2.2.1 x.2.1
def impl_bestPit_N12K {R : Type} (fin : List Bool → Option R) (x0 : List (List Int)) (x1 : List Int) (x2 : Unit) (x3 : Unit) (x4 : Bool) : Option R :=
  cond (decide (([] : List Int).length + x1.length ≤ 1099511627776))
  ((impl_bestPit_N12_l0 ((([] : List Int) ++ x1).length : Int) 0).bind fun y1 =>
    (impl_pitNetwork x0 (([] : List Int) ++ x1)).bind fun y2 =>
    (impl_newResidual y2.1 y2.2).bind fun y3 =>
    (impl_residual_run y3).bind fun y4 =>
    (impl_residual_fromSource y4.2).bind fun y5 =>
    cond (x4)
    ((impl_residual_toSink y5.2).bind fun y6 =>
      (impl_outOf y6.1).bind fun y7 =>
      cond (decide ((1 : Int) ≤ IntKind.i64.wrap (y2.1 - 1)) && decide (IntKind.i64.wrap (y2.1 - 1) ≤ (y7.length : Int)))
      ((impl_bestPit_N12_l1 (0 + 1) ((IntKind.i64.wrap (y2.1 - 1)).toNat - 1) (((y7.drop (0 + 1)).take ((IntKind.i64.wrap (y2.1 - 1)).toNat - 1)).length : Int) 0 y7).bind fun y10 =>
        fin ((y10.drop (0 + 1)).take ((IntKind.i64.wrap (y2.1 - 1)).toNat - 1)))
      (none))
    (cond (decide ((1 : Int) ≤ IntKind.i64.wrap (y2.1 - 1)) && decide (IntKind.i64.wrap (y2.1 - 1) ≤ (y5.1.length : Int)))
      ((impl_bestPit_N12_l1 (0 + 1) ((IntKind.i64.wrap (y2.1 - 1)).toNat - 1) (((y5.1.drop (0 + 1)).take ((IntKind.i64.wrap (y2.1 - 1)).toNat - 1)).length : Int) 0 y5.1).bind fun y11 =>
        fin ((y11.drop (0 + 1)).take ((IntKind.i64.wrap (y2.1 - 1)).toNat - 1)))
      (none)))
  (none)
def impl_bestPit_N12 (x0 : List (List Int)) (x1 : List Int) (x2 : Unit) (x3 : Unit) (x4 : Bool) : Option (List Bool) := impl_bestPit_N12K some x0 x1 x2 x3 x4
theorem p120079 {R : Type} (fin : List Bool → Option R) (x0 : List (List Int)) (x1 : List Int) (x2 : Unit) (x3 : Unit) (x4 : Bool) : Par fin (impl_bestPit_N12K some x0 x1 x2 x3 x4) (impl_bestPit_N12K fin x0 x1 x2 x3 x4) := by
  unfold impl_bestPit_N12K
  repeat' (first | exact .fin | exact .none | refine .cond ?_ ?_ | refine .bind fun _ => ?_ | refine .sum (fun _ => ?_) fun _ => ?_)
def or120079 : Ora := { lo := addL 18 (Limpl_bestPit_N12_l1) (addL 3 (Limpl_bestPit_N12_l0) lo0), fin := [], fz := fun i => cond (decide (i = 12)) [.frz (.cell 15 0), .frz (.cell 15 1)] <| [] }
theorem impl_bestPit_N12_l0e (a0 : List (List Int)) (a1 : Bool) (a2 : Int) (a4 : List Int) (k : Nat) (a3 : Int) : loopC Try.prog EL120079 or120079 ((loopsIn (codeOf Try.f79)).getD 0 .skip) (Limpl_bestPit_N12_l0).h (Limpl_bestPit_N12_l0).ho Try.f79.ntmps (k + 1) (simpl_bestPit_N12_l0.out ((a0, ((), ((), (a1, ((), (a2, (a3, ()))))))), (a4, ()))) =
    impl_bestPit_N12_l0K a2 (fun a3 => loopC Try.prog EL120079 or120079 ((loopsIn (codeOf Try.f79)).getD 0 .skip) (Limpl_bestPit_N12_l0).h (Limpl_bestPit_N12_l0).ho Try.f79.ntmps k (simpl_bestPit_N12_l0.out ((a0, ((), ((), (a1, ((), (a2, (a3, ()))))))), (a4, ())))) (fun y => some (XS.out ximpl_bestPit_N12_l0 (a0, (a1, (a2, a4))) y)) a3 := by kernel_rfl
theorem impl_bestPit_N12_l0o : LoopOk Try.prog EL120079 or120079 Try.f79.ntmps ((loopsIn (codeOf Try.f79)).getD 0 .skip) (Limpl_bestPit_N12_l0) :=
  loop_lim (hs := simpl_bestPit_N12_l0) (xs := ximpl_bestPit_N12_l0) (ι := fun (x : ((List (List Int)) × Unit × Unit × Bool × Unit × Int × Int × Unit) × ((List Int) × Unit)) => (x.1.1, (x.1.2.2.2.1, (x.1.2.2.2.2.2.1, x.2.1)))) (φ := fun (x : ((List (List Int)) × Unit × Unit × Bool × Unit × Int × Int × Unit) × ((List Int) × Unit)) => x.1.2.2.2.2.2.2.1) (ψ := fun (i : (List (List Int)) × Bool × Int × (List Int)) (v : Int) => ((i.1, ((), ((), (i.2.1, ((), (i.2.2.1, (v, ()))))))), (i.2.2.2, ()))) (F := fun (i : (List (List Int)) × Bool × Int × (List Int)) => impl_bestPit_N12_l0F i.2.2.1) (fun _ => rfl) fun i k hk v => Par.of_eq (impl_bestPit_N12_l0e i.1 i.2.1 i.2.2.1 i.2.2.2 k v) (impl_bestPit_N12_l0p i.2.2.1 (fun a3 => hk a3) v)
theorem impl_bestPit_N12_l1e (a0 : Nat) (a1 : Nat) (a2 : Int) (k : Nat) (a3 : Int) (a4 : List Bool) : loopC Try.prog EL120079 or120079 ((loopsIn (codeOf Try.f79)).getD 1 .skip) (Limpl_bestPit_N12_l1).h (Limpl_bestPit_N12_l1).ho Try.f79.ntmps (k + 1) (simpl_bestPit_N12_l1.out (((), ((a0, a1), (a2, (a3, ())))), (a4, ()))) =
    impl_bestPit_N12_l1K a0 a1 a2 (fun a3 a4 => loopC Try.prog EL120079 or120079 ((loopsIn (codeOf Try.f79)).getD 1 .skip) (Limpl_bestPit_N12_l1).h (Limpl_bestPit_N12_l1).ho Try.f79.ntmps k (simpl_bestPit_N12_l1.out (((), ((a0, a1), (a2, (a3, ())))), (a4, ())))) (fun y => some (XS.out ximpl_bestPit_N12_l1 (a0, (a1, a2)) y)) a3 a4 := by kernel_rfl
theorem impl_bestPit_N12_l1o : LoopOk Try.prog EL120079 or120079 Try.f79.ntmps ((loopsIn (codeOf Try.f79)).getD 1 .skip) (Limpl_bestPit_N12_l1) :=
  loop_lim (hs := simpl_bestPit_N12_l1) (xs := ximpl_bestPit_N12_l1) (ι := fun (x : (Unit × (Nat × Nat) × Int × Int × Unit) × ((List Bool) × Unit)) => (x.1.2.1.1, (x.1.2.1.2, x.1.2.2.1))) (φ := fun (x : (Unit × (Nat × Nat) × Int × Int × Unit) × ((List Bool) × Unit)) => (x.1.2.2.2.1, x.2.1)) (ψ := fun (i : Nat × Nat × Int) (v : Int × (List Bool)) => (((), ((i.1, i.2.1), (i.2.2, (v.1, ())))), (v.2, ()))) (F := fun (i : Nat × Nat × Int) => impl_bestPit_N12_l1F i.1 i.2.1 i.2.2) (fun _ => rfl) fun i k hk v => Par.of_eq (impl_bestPit_N12_l1e i.1 i.2.1 i.2.2 k v.1 v.2) (impl_bestPit_N12_l1p i.1 i.2.1 i.2.2 (fun a3 a4 => hk (a3, a4)) v.1 v.2)
def c120079 : Callee := mkC [.one (.ro (.slice (.slice (.int .i64)))), .one (.ro (.slice (.int .i64))), .nil, .nil, .one (.ro .bool)] 1 [.one (.sl .bool)] fun x => impl_bestPit_N12 x.1 x.2.1 x.2.2.1 x.2.2.2.1 x.2.2.2.2
theorem e120079 (x : PK.dens [.one (.ro (.slice (.slice (.int .i64)))), .one (.ro (.slice (.int .i64))), .nil, .nil, .one (.ro .bool)]) : evalFn Try.prog EL120079 or120079 Try.f79 (PK.outs [.one (.ro (.slice (.slice (.int .i64)))), .one (.ro (.slice (.int .i64))), .nil, .nil, .one (.ro .bool)] x) =
    impl_bestPit_N12K (fun y => some (tupOf ((PK.outs [.one (.sl .bool)] y).take 1), (PK.outs [.one (.sl .bool)] y).drop 1)) x.1 x.2.1 x.2.2.1 x.2.2.2.1 x.2.2.2.2 := by kernel_rfl
theorem o120079 : LoOk Try.prog EL120079 or120079 Try.f79.ntmps (loopsIn (codeOf Try.f79)) :=
  LoOk.mk (m := 2) (by kernel_rfl) fun i hi => match i, hi with
    | 0, _ => ⟨Limpl_bestPit_N12_l0, by kernel_rfl, impl_bestPit_N12_l0o⟩
    | 1, _ => ⟨Limpl_bestPit_N12_l1, by kernel_rfl, impl_bestPit_N12_l1o⟩
    | i + 2, hi => absurd hi (by omega)
theorem k120079 : CalleeOk Try.prog 79 c120079 := callee_mk Try.func79 (code := codeOf Try.f79) (by kernel_rfl) vL120079 mixed o120079 fun x y h => (e120079 x).trans (p120079 _ x.1 x.2.1 x.2.2.1 x.2.2.2.1 x.2.2.2.2 y h)

/-- impl.listOf -/
def EL89 : Nat → Option Callee := env0
theorem vL89 : EnvOk Try.prog EL89 := EnvOk.nil
def simpl_listOf_l0 : LS := ⟨[(3, .one (.fix (.sref 0))), (7, .one (.dat (.slice .bool))), (8, .one (.dat (.int .i64))), (9, .one (.dat (.int .i64)))], [.sl (.int .i64)], []⟩
def simpl_listOf_l0x0 : LS := ⟨[(3, .one (.fix (.sref 0)))], [.sl (.int .i64)], []⟩
def ximpl_listOf_l0 : List (XS ((List Bool) × Int)) := [⟨.exit 0, ⟨[3], [.slot 3], [], []⟩, simpl_listOf_l0x0, List Int, fun i y => (((), ()), (y, ()))⟩]
def impl_listOf_l0K {R : Type} (a0 : List Bool) (a1 : Int) (rc : Int → List Int → Option R) (fin : List Int → Option R) (a2 : Int) (a3 : List Int) : Option R :=
  cond (decide (a2 < a1))
  ((lat a0 a2).bind fun e1 =>
    cond (e1)
    (cond (decide (a3.length + [a2].length ≤ 1099511627776))
      (rc (IntKind.i64.wrap (a2 + 1)) (a3 ++ [a2]))
      (none))
    (rc (IntKind.i64.wrap (a2 + 1)) a3))
  (fin a3)
def impl_listOf_l0F (a0 : List Bool) (a1 : Int) (r : (Int × (List Int)) → Option (List Int)) (x : Int × (List Int)) : Option (List Int) := impl_listOf_l0K a0 a1 (fun a2 a3 => r (a2, a3)) some x.1 x.2
theorem impl_listOf_l0c (a0 : List Bool) (a1 : Int) (x : Int × (List Int)) : Ct fun r => impl_listOf_l0F a0 a1 r x := by
  unfold impl_listOf_l0F impl_listOf_l0K
  repeat' (first | exact Ct.const | exact Ct.call | refine Ct.cond ?_ ?_ | refine Ct.bind ?_ fun _ => ?_ | refine Ct.sum (fun _ => ?_) fun _ => ?_)
def impl_listOf_l0 (a0 : List Bool) (a1 : Int) (a2 : Int) (a3 : List Int) : Option (List Int) := lim (impl_listOf_l0F a0 a1) (a2, a3)
theorem impl_listOf_l0_eq (a0 : List Bool) (a1 : Int) (a2 : Int) (a3 : List Int) : impl_listOf_l0 a0 a1 a2 a3 = impl_listOf_l0K a0 a1 (impl_listOf_l0 a0 a1) some a2 a3 := lim_eq (impl_listOf_l0c a0 a1) (a2, a3)
theorem impl_listOf_l0p {R : Type} (a0 : List Bool) (a1 : Int) {rc : Int → List Int → Option (List Int)} {rc' : Int → List Int → Option R} {fin : List Int → Option R} (hr : ∀ a2 a3, Par fin (rc a2 a3) (rc' a2 a3)) (a2 : Int) (a3 : List Int) : Par fin (impl_listOf_l0K a0 a1 rc some a2 a3) (impl_listOf_l0K a0 a1 rc' fin a2 a3) := by
  unfold impl_listOf_l0K
  repeat' (first | exact .fin | exact .none | exact hr _ _ | refine .cond ?_ ?_ | refine .bind fun _ => ?_ | refine .sum (fun _ => ?_) fun _ => ?_)
def Limpl_listOf_l0 : Loop := mkL ⟨[3, 7, 8, 9], [.slot 3], [], []⟩ simpl_listOf_l0 ximpl_listOf_l0 (fun (x : (Unit × (List Bool) × Int × Int × Unit) × ((List Int) × Unit)) => (x.1.2.1, x.1.2.2.1)) fun (x : (Unit × (List Bool) × Int × Int × Unit) × ((List Int) × Unit)) => impl_listOf_l0 x.1.2.1 x.1.2.2.1 x.1.2.2.2.1 x.2.1
def impl_listOfK {R : Type} (fin : List Int → Option R) (x0 : List Bool) : Option R :=
  (impl_listOf_l0 x0 (x0.length : Int) 0 []).bind fun y2 =>
  fin y2
def impl_listOf (x0 : List Bool) : Option (List Int) := impl_listOfK some x0
theorem p89 {R : Type} (fin : List Int → Option R) (x0 : List Bool) : Par fin (impl_listOfK some x0) (impl_listOfK fin x0) := by
  unfold impl_listOfK
  repeat' (first | exact .fin | exact .none | refine .cond ?_ ?_ | refine .bind fun _ => ?_ | refine .sum (fun _ => ?_) fun _ => ?_)
def or89 : Ora := { lo := addL 3 (Limpl_listOf_l0) lo0, fin := [] }
theorem impl_listOf_l0e (a0 : List Bool) (a1 : Int) (k : Nat) (a2 : Int) (a3 : List Int) : loopC Try.prog EL89 or89 ((loopsIn (codeOf Try.f89)).getD 0 .skip) (Limpl_listOf_l0).h (Limpl_listOf_l0).ho Try.f89.ntmps (k + 1) (simpl_listOf_l0.out (((), (a0, (a1, (a2, ())))), (a3, ()))) =
    impl_listOf_l0K a0 a1 (fun a2 a3 => loopC Try.prog EL89 or89 ((loopsIn (codeOf Try.f89)).getD 0 .skip) (Limpl_listOf_l0).h (Limpl_listOf_l0).ho Try.f89.ntmps k (simpl_listOf_l0.out (((), (a0, (a1, (a2, ())))), (a3, ())))) (fun y => some (XS.out ximpl_listOf_l0 (a0, a1) y)) a2 a3 := by kernel_rfl
theorem impl_listOf_l0o : LoopOk Try.prog EL89 or89 Try.f89.ntmps ((loopsIn (codeOf Try.f89)).getD 0 .skip) (Limpl_listOf_l0) :=
  loop_lim (hs := simpl_listOf_l0) (xs := ximpl_listOf_l0) (ι := fun (x : (Unit × (List Bool) × Int × Int × Unit) × ((List Int) × Unit)) => (x.1.2.1, x.1.2.2.1)) (φ := fun (x : (Unit × (List Bool) × Int × Int × Unit) × ((List Int) × Unit)) => (x.1.2.2.2.1, x.2.1)) (ψ := fun (i : (List Bool) × Int) (v : Int × (List Int)) => (((), (i.1, (i.2, (v.1, ())))), (v.2, ()))) (F := fun (i : (List Bool) × Int) => impl_listOf_l0F i.1 i.2) (fun _ => rfl) fun i k hk v => Par.of_eq (impl_listOf_l0e i.1 i.2 k v.1 v.2) (impl_listOf_l0p i.1 i.2 (fun a2 a3 => hk (a2, a3)) v.1 v.2)
def c89 : Callee := mkC [.one (.ro (.slice .bool))] 1 [.one (.sl (.int .i64))] fun x => impl_listOf x
theorem e89 (x : PK.dens [.one (.ro (.slice .bool))]) : evalFn Try.prog EL89 or89 Try.f89 (PK.outs [.one (.ro (.slice .bool))] x) =
    impl_listOfK (fun y => some (tupOf ((PK.outs [.one (.sl (.int .i64))] y).take 1), (PK.outs [.one (.sl (.int .i64))] y).drop 1)) x := by kernel_rfl
theorem o89 : LoOk Try.prog EL89 or89 Try.f89.ntmps (loopsIn (codeOf Try.f89)) :=
  LoOk.mk (m := 1) (by kernel_rfl) fun i hi => match i, hi with
    | 0, _ => ⟨Limpl_listOf_l0, by kernel_rfl, impl_listOf_l0o⟩
    | i + 1, hi => absurd hi (by omega)
theorem k89 : CalleeOk Try.prog 89 c89 := callee_mk Try.func89 (code := codeOf Try.f89) (by kernel_rfl) vL89 mixed o89 fun x y h => (e89 x).trans (p89 _ x y h)

/-- impl.valueSum -/
def EL88 : Nat → Option Callee := env0
theorem vL88 : EnvOk Try.prog EL88 := EnvOk.nil
def simpl_valueSum_l0 : LS := ⟨[(0, .one (.dat (.slice (.int .i64)))), (5, .one (.dat (.int .i64))), (8, .one (.dat (.slice (.int .i64)))), (9, .one (.dat (.int .i64))), (10, .one (.dat (.int .i64)))], [], []⟩
def simpl_valueSum_l0x0 : LS := ⟨[(5, .one (.dat (.int .i64)))], [], []⟩
def ximpl_valueSum_l0 : List (XS ((List Int) × (List Int) × Int)) := [⟨.exit 0, ⟨[5], [], [], []⟩, simpl_valueSum_l0x0, Int, fun i y => ((y, ()), ())⟩]
def impl_valueSum_l0K {R : Type} (a0 : List Int) (a2 : List Int) (a3 : Int) (rc : Int → Int → Option R) (fin : Int → Option R) (a1 : Int) (a4 : Int) : Option R :=
  cond (decide (a4 < a3))
  ((lat a2 a4).bind fun e1 =>
    (lat a0 e1).bind fun e2 =>
    rc (IntKind.i64.wrap (a1 + e2)) (IntKind.i64.wrap (a4 + 1)))
  (fin a1)
def impl_valueSum_l0F (a0 : List Int) (a2 : List Int) (a3 : Int) (r : (Int × Int) → Option (Int)) (x : Int × Int) : Option (Int) := impl_valueSum_l0K a0 a2 a3 (fun a1 a4 => r (a1, a4)) some x.1 x.2
theorem impl_valueSum_l0c (a0 : List Int) (a2 : List Int) (a3 : Int) (x : Int × Int) : Ct fun r => impl_valueSum_l0F a0 a2 a3 r x := by
  unfold impl_valueSum_l0F impl_valueSum_l0K
  repeat' (first | exact Ct.const | exact Ct.call | refine Ct.cond ?_ ?_ | refine Ct.bind ?_ fun _ => ?_ | refine Ct.sum (fun _ => ?_) fun _ => ?_)
def impl_valueSum_l0 (a0 : List Int) (a2 : List Int) (a3 : Int) (a1 : Int) (a4 : Int) : Option (Int) := lim (impl_valueSum_l0F a0 a2 a3) (a1, a4)
theorem impl_valueSum_l0_eq (a0 : List Int) (a2 : List Int) (a3 : Int) (a1 : Int) (a4 : Int) : impl_valueSum_l0 a0 a2 a3 a1 a4 = impl_valueSum_l0K a0 a2 a3 (impl_valueSum_l0 a0 a2 a3) some a1 a4 := lim_eq (impl_valueSum_l0c a0 a2 a3) (a1, a4)
theorem impl_valueSum_l0p {R : Type} (a0 : List Int) (a2 : List Int) (a3 : Int) {rc : Int → Int → Option (Int)} {rc' : Int → Int → Option R} {fin : Int → Option R} (hr : ∀ a1 a4, Par fin (rc a1 a4) (rc' a1 a4)) (a1 : Int) (a4 : Int) : Par fin (impl_valueSum_l0K a0 a2 a3 rc some a1 a4) (impl_valueSum_l0K a0 a2 a3 rc' fin a1 a4) := by
  unfold impl_valueSum_l0K
  repeat' (first | exact .fin | exact .none | exact hr _ _ | refine .cond ?_ ?_ | refine .bind fun _ => ?_ | refine .sum (fun _ => ?_) fun _ => ?_)
def Limpl_valueSum_l0 : Loop := mkL ⟨[0, 5, 8, 9, 10], [], [], []⟩ simpl_valueSum_l0 ximpl_valueSum_l0 (fun (x : ((List Int) × Int × (List Int) × Int × Int × Unit) × (Unit)) => (x.1.1, (x.1.2.2.1, x.1.2.2.2.1))) fun (x : ((List Int) × Int × (List Int) × Int × Int × Unit) × (Unit)) => impl_valueSum_l0 x.1.1 x.1.2.2.1 x.1.2.2.2.1 x.1.2.1 x.1.2.2.2.2.1
def impl_valueSumK {R : Type} (fin : Int → Option R) (x0 : List Int) (x1 : List Int) : Option R :=
  (impl_valueSum_l0 x0 x1 (x1.length : Int) 0 0).bind fun y3 =>
  fin y3
def impl_valueSum (x0 : List Int) (x1 : List Int) : Option (Int) := impl_valueSumK some x0 x1
theorem p88 {R : Type} (fin : Int → Option R) (x0 : List Int) (x1 : List Int) : Par fin (impl_valueSumK some x0 x1) (impl_valueSumK fin x0 x1) := by
  unfold impl_valueSumK
  repeat' (first | exact .fin | exact .none | refine .cond ?_ ?_ | refine .bind fun _ => ?_ | refine .sum (fun _ => ?_) fun _ => ?_)
def or88 : Ora := { lo := addL 3 (Limpl_valueSum_l0) lo0, fin := [] }
theorem impl_valueSum_l0e (a0 : List Int) (a2 : List Int) (a3 : Int) (k : Nat) (a1 : Int) (a4 : Int) : loopC Try.prog EL88 or88 ((loopsIn (codeOf Try.f88)).getD 0 .skip) (Limpl_valueSum_l0).h (Limpl_valueSum_l0).ho Try.f88.ntmps (k + 1) (simpl_valueSum_l0.out ((a0, (a1, (a2, (a3, (a4, ()))))), ())) =
    impl_valueSum_l0K a0 a2 a3 (fun a1 a4 => loopC Try.prog EL88 or88 ((loopsIn (codeOf Try.f88)).getD 0 .skip) (Limpl_valueSum_l0).h (Limpl_valueSum_l0).ho Try.f88.ntmps k (simpl_valueSum_l0.out ((a0, (a1, (a2, (a3, (a4, ()))))), ()))) (fun y => some (XS.out ximpl_valueSum_l0 (a0, (a2, a3)) y)) a1 a4 := by kernel_rfl
theorem impl_valueSum_l0o : LoopOk Try.prog EL88 or88 Try.f88.ntmps ((loopsIn (codeOf Try.f88)).getD 0 .skip) (Limpl_valueSum_l0) :=
  loop_lim (hs := simpl_valueSum_l0) (xs := ximpl_valueSum_l0) (ι := fun (x : ((List Int) × Int × (List Int) × Int × Int × Unit) × (Unit)) => (x.1.1, (x.1.2.2.1, x.1.2.2.2.1))) (φ := fun (x : ((List Int) × Int × (List Int) × Int × Int × Unit) × (Unit)) => (x.1.2.1, x.1.2.2.2.2.1)) (ψ := fun (i : (List Int) × (List Int) × Int) (v : Int × Int) => ((i.1, (v.1, (i.2.1, (i.2.2, (v.2, ()))))), ())) (F := fun (i : (List Int) × (List Int) × Int) => impl_valueSum_l0F i.1 i.2.1 i.2.2) (fun _ => rfl) fun i k hk v => Par.of_eq (impl_valueSum_l0e i.1 i.2.1 i.2.2 k v.1 v.2) (impl_valueSum_l0p i.1 i.2.1 i.2.2 (fun a1 a4 => hk (a1, a4)) v.1 v.2)
def c88 : Callee := mkC [.one (.ro (.slice (.int .i64))), .one (.ro (.slice (.int .i64)))] 1 [.one (.ro (.int .i64))] fun x => impl_valueSum x.1 x.2
theorem e88 (x : PK.dens [.one (.ro (.slice (.int .i64))), .one (.ro (.slice (.int .i64)))]) : evalFn Try.prog EL88 or88 Try.f88 (PK.outs [.one (.ro (.slice (.int .i64))), .one (.ro (.slice (.int .i64)))] x) =
    impl_valueSumK (fun y => some (tupOf ((PK.outs [.one (.ro (.int .i64))] y).take 1), (PK.outs [.one (.ro (.int .i64))] y).drop 1)) x.1 x.2 := by kernel_rfl
theorem o88 : LoOk Try.prog EL88 or88 Try.f88.ntmps (loopsIn (codeOf Try.f88)) :=
  LoOk.mk (m := 1) (by kernel_rfl) fun i hi => match i, hi with
    | 0, _ => ⟨Limpl_valueSum_l0, by kernel_rfl, impl_valueSum_l0o⟩
    | i + 1, hi => absurd hi (by omega)
theorem k88 : CalleeOk Try.prog 88 c88 := callee_mk Try.func88 (code := codeOf Try.f88) (by kernel_rfl) vL88 mixed o88 fun x y h => (e88 x).trans (p88 _ x.1 x.2 y h)

/-- impl.BestValue -/
def EL53 : Nat → Option Callee := addE 88 c88 (addE 89 c89 (addE 79 c120079 (addE 87 c87 env0)))
theorem vL53 : EnvOk Try.prog EL53 := (((EnvOk.nil.add Try.func87 rfl (by kernel_rfl) k87).add Try.func79 rfl (by kernel_rfl) k120079).add Try.func89 rfl (by kernel_rfl) k89).add Try.func88 rfl (by kernel_rfl) k88
def impl_BestValueK {R : Type} (fin : Int × Bool → Option R) (x0 : List (List Int)) (x1 : List Int) : Option R :=
  (impl_areValued x0 x1).bind fun y1 =>
  cond (!y1)
  (fin (0, false))
  ((impl_bestPit_N12 x0 x1 () () false).bind fun y2 =>
    (impl_listOf y2).bind fun y3 =>
    (impl_valueSum x1 y3).bind fun y4 =>
    fin (y4, true))
def impl_BestValue (x0 : List (List Int)) (x1 : List Int) : Option (Int × Bool) := impl_BestValueK some x0 x1
theorem p53 {R : Type} (fin : Int × Bool → Option R) (x0 : List (List Int)) (x1 : List Int) : Par fin (impl_BestValueK some x0 x1) (impl_BestValueK fin x0 x1) := by
  unfold impl_BestValueK
  repeat' (first | exact .fin | exact .none | refine .cond ?_ ?_ | refine .bind fun _ => ?_ | refine .sum (fun _ => ?_) fun _ => ?_)
def c53 : Callee := mkC [.one (.ro (.slice (.slice (.int .i64)))), .one (.ro (.slice (.int .i64)))] 2 [.one (.ro (.int .i64)), .one (.ro .bool)] fun x => impl_BestValue x.1 x.2
theorem e53 (x : PK.dens [.one (.ro (.slice (.slice (.int .i64)))), .one (.ro (.slice (.int .i64)))]) : evalFn Try.prog EL53 or0 Try.f53 (PK.outs [.one (.ro (.slice (.slice (.int .i64)))), .one (.ro (.slice (.int .i64)))] x) =
    impl_BestValueK (fun y => some (tupOf ((PK.outs [.one (.ro (.int .i64)), .one (.ro .bool)] y).take 2), (PK.outs [.one (.ro (.int .i64)), .one (.ro .bool)] y).drop 2)) x.1 x.2 := by kernel_rfl
theorem k53 : CalleeOk Try.prog 53 c53 := callee_mk Try.func53 (code := codeOf Try.f53) (by kernel_rfl) vL53 mixed (LoOk.nil (by kernel_rfl)) fun x y h => (e53 x).trans (p53 _ x.1 x.2 y h)

/-- impl.WorthBound -/
def EL15 : Nat → Option Callee := addE 54 c54 (addE 53 c53 (addE 52 c52 env0))
theorem vL15 : EnvOk Try.prog EL15 := ((EnvOk.nil.add Try.func52 rfl (by kernel_rfl) k52).add Try.func53 rfl (by kernel_rfl) k53).add Try.func54 rfl (by kernel_rfl) k54
def impl_WorthBoundK {R : Type} (fin : Int × Bool → Option R) (x0 : DJob) : Option R :=
  (impl_IsJob x0).bind fun y1 =>
  cond (!y1)
  (fin (0, false))
  ((impl_BestValue x0.1 x0.2.2.1).bind fun y2 =>
    (impl_power x0.2.2.2.2.2.2.1 (IntKind.i64.wrap (x0.2.2.2.2.1 - 1))).bind fun y3 =>
    fin (IntKind.i64.wrap (y2.1 * y3), true))
def impl_WorthBound (x0 : DJob) : Option (Int × Bool) := impl_WorthBoundK some x0
theorem p15 {R : Type} (fin : Int × Bool → Option R) (x0 : DJob) : Par fin (impl_WorthBoundK some x0) (impl_WorthBoundK fin x0) := by
  unfold impl_WorthBoundK
  repeat' (first | exact .fin | exact .none | refine .cond ?_ ?_ | refine .bind fun _ => ?_ | refine .sum (fun _ => ?_) fun _ => ?_)
def c15 : Callee := mkC [.agg [.ro TJob]] 2 [.one (.ro (.int .i64)), .one (.ro .bool)] fun x => impl_WorthBound x
theorem e15 (x : PK.dens [.agg [.ro TJob]]) : evalFn Try.prog EL15 or0 Try.f15 (PK.outs [.agg [.ro TJob]] x) =
    impl_WorthBoundK (fun y => some (tupOf ((PK.outs [.one (.ro (.int .i64)), .one (.ro .bool)] y).take 2), (PK.outs [.one (.ro (.int .i64)), .one (.ro .bool)] y).drop 2)) x := by kernel_rfl
theorem k15 : CalleeOk Try.prog 15 c15 := callee_mk Try.func15 (code := codeOf Try.f15) (by kernel_rfl) vL15 mixed (LoOk.nil (by kernel_rfl)) fun x y h => (e15 x).trans (p15 _ x y h)

/-- laws.FnExactWorthBound -/
def EL3 : Nat → Option Callee := addE 16 c16 (addE 15 c15 (addE 13 c13 (addE 14 c14 (addE 12 c12 env0))))
theorem vL3 : EnvOk Try.prog EL3 := ((((EnvOk.nil.add Try.func12 rfl (by kernel_rfl) k12).add Try.func14 rfl (by kernel_rfl) k14).add Try.func13 rfl (by kernel_rfl) k13).add Try.func15 rfl (by kernel_rfl) k15).add Try.func16 rfl (by kernel_rfl) k16
def laws_FnExactWorthBoundK {R : Type} (fin : Bool → Option R) (x0 : DJob) : Option R :=
  (laws_szJob x0 1048576).bind fun y1 =>
  cond (decide (y1 < 0))
  (fin true)
  ((laws_toJob x0).bind fun y2 =>
    (spec_WorthBound (y2.1, (y2.2.1, (y2.2.2.1, ((y2.2.2.2.1, (y2.2.2.2.2.1, ())), (y2.2.2.2.2.2.1, (y2.2.2.2.2.2.2.1, (y2.2.2.2.2.2.2.2, ())))))))).bind fun y3 =>
    (laws_toJob x0).bind fun y4 =>
    (impl_WorthBound (y4.1, (y4.2.1, (y4.2.2.1, ((y4.2.2.2.1, (y4.2.2.2.2.1, ())), (y4.2.2.2.2.2.1, (y4.2.2.2.2.2.2.1, (y4.2.2.2.2.2.2.2, ())))))))).bind fun y5 =>
    cond (y5.1 != y3.1)
    (fin false)
    (cond (!(y5.2 == y3.2))
      (fin false)
      ((laws_toJob x0).bind fun y6 =>
        (laws_eqJob (y4.1, (y4.2.1, (y4.2.2.1, ((y4.2.2.2.1, (y4.2.2.2.2.1, ())), (y4.2.2.2.2.2.1, (y4.2.2.2.2.2.2.1, (y4.2.2.2.2.2.2.2, ()))))))) (y6.1, (y6.2.1, (y6.2.2.1, ((y6.2.2.2.1, (y6.2.2.2.2.1, ())), (y6.2.2.2.2.2.1, (y6.2.2.2.2.2.2.1, (y6.2.2.2.2.2.2.2, ())))))))).bind fun y7 =>
        cond (!y7)
        (fin false)
        (fin true))))
def laws_FnExactWorthBound (x0 : DJob) : Option (Bool) := laws_FnExactWorthBoundK some x0
theorem p3 {R : Type} (fin : Bool → Option R) (x0 : DJob) : Par fin (laws_FnExactWorthBoundK some x0) (laws_FnExactWorthBoundK fin x0) := by
  unfold laws_FnExactWorthBoundK
  repeat' (first | exact .fin | exact .none | refine .cond ?_ ?_ | refine .bind fun _ => ?_ | refine .sum (fun _ => ?_) fun _ => ?_)
def c3 : Callee := mkC [.agg [.ro TJob]] 1 [.one (.ro .bool)] fun x => laws_FnExactWorthBound x
theorem e3 (x : PK.dens [.agg [.ro TJob]]) : evalFn Try.prog EL3 or0 Try.f3 (PK.outs [.agg [.ro TJob]] x) =
    laws_FnExactWorthBoundK (fun y => some (tupOf ((PK.outs [.one (.ro .bool)] y).take 1), (PK.outs [.one (.ro .bool)] y).drop 1)) x := by kernel_rfl
theorem k3 : CalleeOk Try.prog 3 c3 := callee_mk Try.func3 (code := codeOf Try.f3) (by kernel_rfl) vL3 mixed (LoOk.nil (by kernel_rfl)) fun x y h => (e3 x).trans (p3 _ x y h)
end
end Go.OAI
