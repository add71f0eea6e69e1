/- Contracts: GM. -/
import Derived.Test.YtokaffjipngphaaGA
import Derived.Test.YtokaffjipngphaaGW
import Derived.Test.YtokaffjipngphaaGT
namespace Go.OAI
open Go.Proofs
set_option linter.unusedVariables false
noncomputable section


/-- impl.areMultipliers -/
def EL58 : Nat → Option Callee := env0
theorem vL58 : EnvOk Try.prog EL58 := EnvOk.nil
def simpl_areMultipliers_l0 : LS := ⟨[(12, .one (.dat (.slice (.int .i64)))), (13, .one (.dat (.int .i64))), (14, .one (.dat (.int .i64)))], [], []⟩
def simpl_areMultipliers_l0x0 : LS := ⟨[(4, .one (.dat .bool))], [], []⟩
def simpl_areMultipliers_l0x1 : LS := ⟨[], [], []⟩
def ximpl_areMultipliers_l0 : List (XS ((List Int) × Int)) := [⟨.ret, ⟨[4], [], [], []⟩, simpl_areMultipliers_l0x0, Bool, fun i y => ((y, ()), ())⟩,
  ⟨.exit 0, ⟨[], [], [], []⟩, simpl_areMultipliers_l0x1, Unit, fun i y => ((), ())⟩]
def impl_areMultipliers_l0K {R : Type} (a0 : List Int) (a1 : Int) (rc : Int → Option R) (fin : (Bool ⊕ Unit) → Option R) (a2 : Int) : Option R :=
  cond (decide (a2 < a1))
  ((lat a0 a2).bind fun e1 =>
    cond (decide (e1 < 0))
    (fin (.inl false))
    (cond (decide (e1 > 1000000000))
      (fin (.inl false))
      (rc (IntKind.i64.wrap (a2 + 1)))))
  (fin (.inr ()))
def impl_areMultipliers_l0F (a0 : List Int) (a1 : Int) (r : Int → Option (Bool ⊕ Unit)) (x : Int) : Option (Bool ⊕ Unit) := impl_areMultipliers_l0K a0 a1 (fun a2 => r a2) some x
theorem impl_areMultipliers_l0c (a0 : List Int) (a1 : Int) (x : Int) : Ct fun r => impl_areMultipliers_l0F a0 a1 r x := by
  unfold impl_areMultipliers_l0F impl_areMultipliers_l0K
  repeat' (first | exact Ct.const | exact Ct.call | refine Ct.cond ?_ ?_ | refine Ct.bind ?_ fun _ => ?_ | refine Ct.sum (fun _ => ?_) fun _ => ?_)
def impl_areMultipliers_l0 (a0 : List Int) (a1 : Int) (a2 : Int) : Option (Bool ⊕ Unit) := lim (impl_areMultipliers_l0F a0 a1) a2
theorem impl_areMultipliers_l0_eq (a0 : List Int) (a1 : Int) (a2 : Int) : impl_areMultipliers_l0 a0 a1 a2 = impl_areMultipliers_l0K a0 a1 (impl_areMultipliers_l0 a0 a1) some a2 := lim_eq (impl_areMultipliers_l0c a0 a1) a2
theorem impl_areMultipliers_l0p {R : Type} (a0 : List Int) (a1 : Int) {rc : Int → Option (Bool ⊕ Unit)} {rc' : Int → Option R} {fin : (Bool ⊕ Unit) → Option R} (hr : ∀ a2, Par fin (rc a2) (rc' a2)) (a2 : Int) : Par fin (impl_areMultipliers_l0K a0 a1 rc some a2) (impl_areMultipliers_l0K a0 a1 rc' fin a2) := by
  unfold impl_areMultipliers_l0K
  repeat' (first | exact .fin | exact .none | exact hr _ | refine .cond ?_ ?_ | refine .bind fun _ => ?_ | refine .sum (fun _ => ?_) fun _ => ?_)
def Limpl_areMultipliers_l0 : Loop := mkL ⟨[12, 13, 14], [], [], []⟩ simpl_areMultipliers_l0 ximpl_areMultipliers_l0 (fun (x : ((List Int) × Int × Int × Unit) × (Unit)) => (x.1.1, x.1.2.1)) fun (x : ((List Int) × Int × Int × Unit) × (Unit)) => impl_areMultipliers_l0 x.1.1 x.1.2.1 x.1.2.2.1
def impl_areMultipliersK {R : Type} (fin : Bool → Option R) (x0 : DJob) (x1 : List Int) : Option R :=
  cond ((x1.length : Int) != x0.2.2.2.2.1)
  (fin false)
  ((impl_areMultipliers_l0 x1 (x1.length : Int) 0).bind fun y2 =>
    sumO y2 (fun y3 =>
    fin y3)
    (fun y4 =>
    fin true))
def impl_areMultipliers (x0 : DJob) (x1 : List Int) : Option (Bool) := impl_areMultipliersK some x0 x1
theorem p58 {R : Type} (fin : Bool → Option R) (x0 : DJob) (x1 : List Int) : Par fin (impl_areMultipliersK some x0 x1) (impl_areMultipliersK fin x0 x1) := by
  unfold impl_areMultipliersK
  repeat' (first | exact .fin | exact .none | refine .cond ?_ ?_ | refine .bind fun _ => ?_ | refine .sum (fun _ => ?_) fun _ => ?_)
def or58 : Ora := { lo := addL 4 (Limpl_areMultipliers_l0) lo0, fin := [] }
theorem impl_areMultipliers_l0e (a0 : List Int) (a1 : Int) (k : Nat) (a2 : Int) : loopC Try.prog EL58 or58 ((loopsIn (codeOf Try.f58)).getD 0 .skip) (Limpl_areMultipliers_l0).h (Limpl_areMultipliers_l0).ho Try.f58.ntmps (k + 1) (simpl_areMultipliers_l0.out ((a0, (a1, (a2, ()))), ())) =
    impl_areMultipliers_l0K a0 a1 (fun a2 => loopC Try.prog EL58 or58 ((loopsIn (codeOf Try.f58)).getD 0 .skip) (Limpl_areMultipliers_l0).h (Limpl_areMultipliers_l0).ho Try.f58.ntmps k (simpl_areMultipliers_l0.out ((a0, (a1, (a2, ()))), ()))) (fun y => some (XS.out ximpl_areMultipliers_l0 (a0, a1) y)) a2 := by kernel_rfl
theorem impl_areMultipliers_l0o : LoopOk Try.prog EL58 or58 Try.f58.ntmps ((loopsIn (codeOf Try.f58)).getD 0 .skip) (Limpl_areMultipliers_l0) :=
  loop_lim (hs := simpl_areMultipliers_l0) (xs := ximpl_areMultipliers_l0) (ι := fun (x : ((List Int) × Int × Int × Unit) × (Unit)) => (x.1.1, x.1.2.1)) (φ := fun (x : ((List Int) × Int × Int × Unit) × (Unit)) => x.1.2.2.1) (ψ := fun (i : (List Int) × Int) (v : Int) => ((i.1, (i.2, (v, ()))), ())) (F := fun (i : (List Int) × Int) => impl_areMultipliers_l0F i.1 i.2) (fun _ => rfl) fun i k hk v => Par.of_eq (impl_areMultipliers_l0e i.1 i.2 k v) (impl_areMultipliers_l0p i.1 i.2 (fun a2 => hk a2) v)
def c58 : Callee := mkC [.agg [.ro TJob], .one (.ro (.slice (.int .i64)))] 1 [.one (.ro .bool)] fun x => impl_areMultipliers x.1 x.2
theorem e58 (x : PK.dens [.agg [.ro TJob], .one (.ro (.slice (.int .i64)))]) : evalFn Try.prog EL58 or58 Try.f58 (PK.outs [.agg [.ro TJob], .one (.ro (.slice (.int .i64)))] x) =
    impl_areMultipliersK (fun y => some (tupOf ((PK.outs [.one (.ro .bool)] y).take 1), (PK.outs [.one (.ro .bool)] y).drop 1)) x.1 x.2 := by kernel_rfl
theorem o58 : LoOk Try.prog EL58 or58 Try.f58.ntmps (loopsIn (codeOf Try.f58)) :=
  LoOk.mk (m := 1) (by kernel_rfl) fun i hi => match i, hi with
    | 0, _ => ⟨Limpl_areMultipliers_l0, by kernel_rfl, impl_areMultipliers_l0o⟩
    | i + 1, hi => absurd hi (by omega)
theorem k58 : CalleeOk Try.prog 58 c58 := callee_mk Try.func58 (code := codeOf Try.f58) (by kernel_rfl) vL58 mixed o58 fun x y h => (e58 x).trans (p58 _ x.1 x.2 y h)

/-- spec.reGood -/
def EL56 : Nat → Option Callee := addE 82 c82 (addE 47 c47 env0)
theorem vL56 : EnvOk Try.prog EL56 := (EnvOk.nil.add Try.func47 rfl (by kernel_rfl) k47).add Try.func82 rfl (by kernel_rfl) k82
def spec_reGoodK {R : Type} (fin : Bool → Option R) (x0 : DJob) (x1 : List Int) : Option R :=
  (spec_plJob x0).bind fun y1 =>
  cond (y1)
  (cond ((x1.length : Int) == x0.2.2.2.2.1)
    ((spec_l1All x1 0 1000000000).bind fun y2 =>
      fin y2)
    (fin false))
  (fin false)
def spec_reGood (x0 : DJob) (x1 : List Int) : Option (Bool) := spec_reGoodK some x0 x1
theorem p56 {R : Type} (fin : Bool → Option R) (x0 : DJob) (x1 : List Int) : Par fin (spec_reGoodK some x0 x1) (spec_reGoodK fin x0 x1) := by
  unfold spec_reGoodK
  repeat' (first | exact .fin | exact .none | refine .cond ?_ ?_ | refine .bind fun _ => ?_ | refine .sum (fun _ => ?_) fun _ => ?_)
def c56 : Callee := mkC [.agg [.ro TJob], .one (.ro (.slice (.int .i64)))] 1 [.one (.ro .bool)] fun x => spec_reGood x.1 x.2
theorem e56 (x : PK.dens [.agg [.ro TJob], .one (.ro (.slice (.int .i64)))]) : evalFn Try.prog EL56 or0 Try.f56 (PK.outs [.agg [.ro TJob], .one (.ro (.slice (.int .i64)))] x) =
    spec_reGoodK (fun y => some (tupOf ((PK.outs [.one (.ro .bool)] y).take 1), (PK.outs [.one (.ro .bool)] y).drop 1)) x.1 x.2 := by kernel_rfl
theorem k56 : CalleeOk Try.prog 56 c56 := callee_mk Try.func56 (code := codeOf Try.f56) (by kernel_rfl) vL56 mixed (LoOk.nil (by kernel_rfl)) fun x y h => (e56 x).trans (p56 _ x.1 x.2 y h)

/-- impl.paidWorth -/
def EL62 : Nat → Option Callee := addE 99 c99 (addE 73 c73 env0)
theorem vL62 : EnvOk Try.prog EL62 := (EnvOk.nil.add Try.func73 rfl (by kernel_rfl) k73).add Try.func99 rfl (by kernel_rfl) k99
def simpl_paidWorth_l0 : LS := ⟨[(1, .one (.dat (.slice (.int .i64)))), (3, .one (.fix (.ptr 0 0))), (7, .one (.dat (.int .i64))), (15, .one (.fix (.sref 1))), (16, .one (.dat (.int .i64))), (17, .one (.dat (.int .i64)))], [.box [.dat (.slice (.slice (.int .i64))), .dat (.slice (.int .i64)), .dat (.slice (.int .i64)), .dat (.int .i64), .dat (.int .i64), .dat (.int .i64), .dat (.int .i64), .dat (.int .i64)], .mat (.int .i64)], []⟩
def simpl_paidWorth_l0x0 : LS := ⟨[(7, .one (.dat (.int .i64)))], [], []⟩
def ximpl_paidWorth_l0 : List (XS ((List Int) × Int × (List (List Int)) × (List Int) × (List Int) × Int × Int × Int × Int × Int × (List (List Int)))) := [⟨.exit 0, ⟨[7], [], [], []⟩, simpl_paidWorth_l0x0, Int, fun i y => ((y, ()), ())⟩]
def impl_paidWorth_l0K {R : Type} (a0 : List Int) (a2 : Int) (a7 : Int) (a12 : List (List Int)) (rc : Int → Int → Option R) (fin : Int → Option R) (a1 : Int) (a3 : Int) : Option R :=
  cond (decide (a3 < a2))
  (cond (decide ((0 : Int) ≤ a3) && decide (a3 < (a12.length : Int)))
    ((lat a0 a3).bind fun e1 =>
      cond (decide ((0 : Int) < ((a12.getD (0 + a3.toNat) []).length : Int)))
      ((some (IntKind.i64.wrap (e1 * (IntKind.i64.wrap (a7 - ((a12.getD (0 + a3.toNat) []).getD (0 + 0) 0)))))).bind fun v2 =>
        rc (IntKind.i64.wrap (a1 + v2)) (IntKind.i64.wrap (a3 + 1)))
      (none))
    (none))
  (fin a1)
def impl_paidWorth_l0F (a0 : List Int) (a2 : Int) (a7 : Int) (a12 : List (List Int)) (r : (Int × Int) → Option (Int)) (x : Int × Int) : Option (Int) := impl_paidWorth_l0K a0 a2 a7 a12 (fun a1 a3 => r (a1, a3)) some x.1 x.2
theorem impl_paidWorth_l0c (a0 : List Int) (a2 : Int) (a7 : Int) (a12 : List (List Int)) (x : Int × Int) : Ct fun r => impl_paidWorth_l0F a0 a2 a7 a12 r x := by
  unfold impl_paidWorth_l0F impl_paidWorth_l0K
  repeat' (first | exact Ct.const | exact Ct.call | refine Ct.cond ?_ ?_ | refine Ct.bind ?_ fun _ => ?_ | refine Ct.sum (fun _ => ?_) fun _ => ?_)
def impl_paidWorth_l0 (a0 : List Int) (a2 : Int) (a7 : Int) (a12 : List (List Int)) (a1 : Int) (a3 : Int) : Option (Int) := lim (impl_paidWorth_l0F a0 a2 a7 a12) (a1, a3)
theorem impl_paidWorth_l0_eq (a0 : List Int) (a2 : Int) (a7 : Int) (a12 : List (List Int)) (a1 : Int) (a3 : Int) : impl_paidWorth_l0 a0 a2 a7 a12 a1 a3 = impl_paidWorth_l0K a0 a2 a7 a12 (impl_paidWorth_l0 a0 a2 a7 a12) some a1 a3 := lim_eq (impl_paidWorth_l0c a0 a2 a7 a12) (a1, a3)
theorem impl_paidWorth_l0p {R : Type} (a0 : List Int) (a2 : Int) (a7 : Int) (a12 : List (List Int)) {rc : Int → Int → Option (Int)} {rc' : Int → Int → Option R} {fin : Int → Option R} (hr : ∀ a1 a3, Par fin (rc a1 a3) (rc' a1 a3)) (a1 : Int) (a3 : Int) : Par fin (impl_paidWorth_l0K a0 a2 a7 a12 rc some a1 a3) (impl_paidWorth_l0K a0 a2 a7 a12 rc' fin a1 a3) := by
  unfold impl_paidWorth_l0K
  repeat' (first | exact .fin | exact .none | exact hr _ _ | refine .cond ?_ ?_ | refine .bind fun _ => ?_ | refine .sum (fun _ => ?_) fun _ => ?_)
def Limpl_paidWorth_l0 : Loop := mkL ⟨[1, 3, 7, 15, 16, 17], [.slot 3, .slot 15], [], []⟩ simpl_paidWorth_l0 ximpl_paidWorth_l0 (fun (x : ((List Int) × Unit × Int × Unit × Int × Int × Unit) × (((List (List Int)) × (List Int) × (List Int) × Int × Int × Int × Int × Int × Unit) × (List (List Int)) × Unit)) => (x.1.1, (x.1.2.2.2.2.1, (x.2.1.1, (x.2.1.2.1, (x.2.1.2.2.1, (x.2.1.2.2.2.1, (x.2.1.2.2.2.2.1, (x.2.1.2.2.2.2.2.1, (x.2.1.2.2.2.2.2.2.1, (x.2.1.2.2.2.2.2.2.2.1, x.2.2.1))))))))))) fun (x : ((List Int) × Unit × Int × Unit × Int × Int × Unit) × (((List (List Int)) × (List Int) × (List Int) × Int × Int × Int × Int × Int × Unit) × (List (List Int)) × Unit)) => impl_paidWorth_l0 x.1.1 x.1.2.2.2.2.1 x.2.1.2.2.2.1 x.2.2.1 x.1.2.2.1 x.1.2.2.2.2.2.1
def impl_paidWorthK {R : Type} (fin : Int → Option R) (x0 : DJob) (x1 : List Int) (x2 : DPlan) : Option R :=
  (impl_scaledWorth x0 x2).bind fun y1 =>
  (impl_tonnesIn x0 x2).bind fun y2 =>
  (impl_paidWorth_l0 x1 (y2.length : Int) x0.2.2.2.1.1 y2 y1 0).bind fun y5 =>
  fin y5
def impl_paidWorth (x0 : DJob) (x1 : List Int) (x2 : DPlan) : Option (Int) := impl_paidWorthK some x0 x1 x2
theorem p62 {R : Type} (fin : Int → Option R) (x0 : DJob) (x1 : List Int) (x2 : DPlan) : Par fin (impl_paidWorthK some x0 x1 x2) (impl_paidWorthK fin x0 x1 x2) := by
  unfold impl_paidWorthK
  repeat' (first | exact .fin | exact .none | refine .cond ?_ ?_ | refine .bind fun _ => ?_ | refine .sum (fun _ => ?_) fun _ => ?_)
def or62 : Ora := { lo := addL 3 (Limpl_paidWorth_l0) lo0, fin := [] }
theorem impl_paidWorth_l0e (a0 : List Int) (a2 : Int) (a4 : List (List Int)) (a5 : List Int) (a6 : List Int) (a7 : Int) (a8 : Int) (a9 : Int) (a10 : Int) (a11 : Int) (a12 : List (List Int)) (k : Nat) (a1 : Int) (a3 : Int) : loopC Try.prog EL62 or62 ((loopsIn (codeOf Try.f62)).getD 0 .skip) (Limpl_paidWorth_l0).h (Limpl_paidWorth_l0).ho Try.f62.ntmps (k + 1) (simpl_paidWorth_l0.out ((a0, ((), (a1, ((), (a2, (a3, ())))))), ((a4, (a5, (a6, (a7, (a8, (a9, (a10, (a11, ())))))))), (a12, ())))) =
    impl_paidWorth_l0K a0 a2 a7 a12 (fun a1 a3 => loopC Try.prog EL62 or62 ((loopsIn (codeOf Try.f62)).getD 0 .skip) (Limpl_paidWorth_l0).h (Limpl_paidWorth_l0).ho Try.f62.ntmps k (simpl_paidWorth_l0.out ((a0, ((), (a1, ((), (a2, (a3, ())))))), ((a4, (a5, (a6, (a7, (a8, (a9, (a10, (a11, ())))))))), (a12, ()))))) (fun y => some (XS.out ximpl_paidWorth_l0 (a0, (a2, (a4, (a5, (a6, (a7, (a8, (a9, (a10, (a11, a12)))))))))) y)) a1 a3 := by kernel_rfl
theorem impl_paidWorth_l0o : LoopOk Try.prog EL62 or62 Try.f62.ntmps ((loopsIn (codeOf Try.f62)).getD 0 .skip) (Limpl_paidWorth_l0) :=
  loop_lim (hs := simpl_paidWorth_l0) (xs := ximpl_paidWorth_l0) (ι := fun (x : ((List Int) × Unit × Int × Unit × Int × Int × Unit) × (((List (List Int)) × (List Int) × (List Int) × Int × Int × Int × Int × Int × Unit) × (List (List Int)) × Unit)) => (x.1.1, (x.1.2.2.2.2.1, (x.2.1.1, (x.2.1.2.1, (x.2.1.2.2.1, (x.2.1.2.2.2.1, (x.2.1.2.2.2.2.1, (x.2.1.2.2.2.2.2.1, (x.2.1.2.2.2.2.2.2.1, (x.2.1.2.2.2.2.2.2.2.1, x.2.2.1))))))))))) (φ := fun (x : ((List Int) × Unit × Int × Unit × Int × Int × Unit) × (((List (List Int)) × (List Int) × (List Int) × Int × Int × Int × Int × Int × Unit) × (List (List Int)) × Unit)) => (x.1.2.2.1, x.1.2.2.2.2.2.1)) (ψ := fun (i : (List Int) × Int × (List (List Int)) × (List Int) × (List Int) × Int × Int × Int × Int × Int × (List (List Int))) (v : Int × Int) => ((i.1, ((), (v.1, ((), (i.2.1, (v.2, ())))))), ((i.2.2.1, (i.2.2.2.1, (i.2.2.2.2.1, (i.2.2.2.2.2.1, (i.2.2.2.2.2.2.1, (i.2.2.2.2.2.2.2.1, (i.2.2.2.2.2.2.2.2.1, (i.2.2.2.2.2.2.2.2.2.1, ())))))))), (i.2.2.2.2.2.2.2.2.2.2, ())))) (F := fun (i : (List Int) × Int × (List (List Int)) × (List Int) × (List Int) × Int × Int × Int × Int × Int × (List (List Int))) => impl_paidWorth_l0F i.1 i.2.1 i.2.2.2.2.2.1 i.2.2.2.2.2.2.2.2.2.2) (fun _ => rfl) fun i k hk v => Par.of_eq (impl_paidWorth_l0e i.1 i.2.1 i.2.2.1 i.2.2.2.1 i.2.2.2.2.1 i.2.2.2.2.2.1 i.2.2.2.2.2.2.1 i.2.2.2.2.2.2.2.1 i.2.2.2.2.2.2.2.2.1 i.2.2.2.2.2.2.2.2.2.1 i.2.2.2.2.2.2.2.2.2.2 k v.1 v.2) (impl_paidWorth_l0p i.1 i.2.1 i.2.2.2.2.2.1 i.2.2.2.2.2.2.2.2.2.2 (fun a1 a3 => hk (a1, a3)) v.1 v.2)
def c62 : Callee := mkC [.agg [.ro TJob], .one (.ro (.slice (.int .i64))), .agg [.ro TPlan]] 1 [.one (.ro (.int .i64))] fun x => impl_paidWorth x.1 x.2.1 x.2.2
theorem e62 (x : PK.dens [.agg [.ro TJob], .one (.ro (.slice (.int .i64))), .agg [.ro TPlan]]) : evalFn Try.prog EL62 or62 Try.f62 (PK.outs [.agg [.ro TJob], .one (.ro (.slice (.int .i64))), .agg [.ro TPlan]] x) =
    impl_paidWorthK (fun y => some (tupOf ((PK.outs [.one (.ro (.int .i64))] y).take 1), (PK.outs [.one (.ro (.int .i64))] y).drop 1)) x.1 x.2.1 x.2.2 := by kernel_rfl
theorem o62 : LoOk Try.prog EL62 or62 Try.f62.ntmps (loopsIn (codeOf Try.f62)) :=
  LoOk.mk (m := 1) (by kernel_rfl) fun i hi => match i, hi with
    | 0, _ => ⟨Limpl_paidWorth_l0, by kernel_rfl, impl_paidWorth_l0o⟩
    | i + 1, hi => absurd hi (by omega)
theorem k62 : CalleeOk Try.prog 62 c62 := callee_mk Try.func62 (code := codeOf Try.f62) (by kernel_rfl) vL62 mixed o62 fun x y h => (e62 x).trans (p62 _ x.1 x.2.1 x.2.2 y h)

/-- spec.rePaid -/
def EL98 : Nat → Option Callee := addE 100 c100 (addE 70 c70 env0)
theorem vL98 : EnvOk Try.prog EL98 := (EnvOk.nil.add Try.func70 rfl (by kernel_rfl) k70).add Try.func100 rfl (by kernel_rfl) k100
def sspec_rePaid_l0 : LS := ⟨[(1, .one (.dat (.slice (.int .i64)))), (3, .one (.fix (.ptr 0 0))), (7, .one (.dat (.int .i64))), (16, .one (.fix (.sref 1))), (17, .one (.dat (.int .i64))), (18, .one (.dat (.int .i64)))], [.box [.dat (.slice (.slice (.int .i64))), .dat (.slice (.int .i64)), .dat (.slice (.int .i64)), .dat (.int .i64), .dat (.int .i64), .dat (.int .i64), .dat (.int .i64), .dat (.int .i64)], .mat (.int .i64)], []⟩
def sspec_rePaid_l0x0 : LS := ⟨[(7, .one (.dat (.int .i64)))], [], []⟩
def xspec_rePaid_l0 : List (XS ((List Int) × Int × (List (List Int)) × (List Int) × (List Int) × Int × Int × Int × Int × Int × (List (List Int)))) := [⟨.exit 0, ⟨[7], [], [], []⟩, sspec_rePaid_l0x0, Int, fun i y => ((y, ()), ())⟩]
def spec_rePaid_l0K {R : Type} (a0 : List Int) (a2 : Int) (a7 : Int) (a12 : List (List Int)) (rc : Int → Int → Option R) (fin : Int → Option R) (a1 : Int) (a3 : Int) : Option R :=
  cond (decide (a3 < a2))
  (cond (decide ((0 : Int) ≤ a3) && decide (a3 < (a12.length : Int)))
    ((lat a0 a3).bind fun e1 =>
      cond (decide ((0 : Int) < ((a12.getD (0 + a3.toNat) []).length : Int)))
      ((some (IntKind.i64.wrap (e1 * (IntKind.i64.wrap (a7 - ((a12.getD (0 + a3.toNat) []).getD (0 + 0) 0)))))).bind fun v2 =>
        rc (IntKind.i64.wrap (a1 + v2)) (IntKind.i64.wrap (a3 + 1)))
      (none))
    (none))
  (fin a1)
def spec_rePaid_l0F (a0 : List Int) (a2 : Int) (a7 : Int) (a12 : List (List Int)) (r : (Int × Int) → Option (Int)) (x : Int × Int) : Option (Int) := spec_rePaid_l0K a0 a2 a7 a12 (fun a1 a3 => r (a1, a3)) some x.1 x.2
theorem spec_rePaid_l0c (a0 : List Int) (a2 : Int) (a7 : Int) (a12 : List (List Int)) (x : Int × Int) : Ct fun r => spec_rePaid_l0F a0 a2 a7 a12 r x := by
  unfold spec_rePaid_l0F spec_rePaid_l0K
  repeat' (first | exact Ct.const | exact Ct.call | refine Ct.cond ?_ ?_ | refine Ct.bind ?_ fun _ => ?_ | refine Ct.sum (fun _ => ?_) fun _ => ?_)
def spec_rePaid_l0 (a0 : List Int) (a2 : Int) (a7 : Int) (a12 : List (List Int)) (a1 : Int) (a3 : Int) : Option (Int) := lim (spec_rePaid_l0F a0 a2 a7 a12) (a1, a3)
theorem spec_rePaid_l0_eq (a0 : List Int) (a2 : Int) (a7 : Int) (a12 : List (List Int)) (a1 : Int) (a3 : Int) : spec_rePaid_l0 a0 a2 a7 a12 a1 a3 = spec_rePaid_l0K a0 a2 a7 a12 (spec_rePaid_l0 a0 a2 a7 a12) some a1 a3 := lim_eq (spec_rePaid_l0c a0 a2 a7 a12) (a1, a3)
theorem spec_rePaid_l0p {R : Type} (a0 : List Int) (a2 : Int) (a7 : Int) (a12 : List (List Int)) {rc : Int → Int → Option (Int)} {rc' : Int → Int → Option R} {fin : Int → Option R} (hr : ∀ a1 a3, Par fin (rc a1 a3) (rc' a1 a3)) (a1 : Int) (a3 : Int) : Par fin (spec_rePaid_l0K a0 a2 a7 a12 rc some a1 a3) (spec_rePaid_l0K a0 a2 a7 a12 rc' fin a1 a3) := by
  unfold spec_rePaid_l0K
  repeat' (first | exact .fin | exact .none | exact hr _ _ | refine .cond ?_ ?_ | refine .bind fun _ => ?_ | refine .sum (fun _ => ?_) fun _ => ?_)
def Lspec_rePaid_l0 : Loop := mkL ⟨[1, 3, 7, 16, 17, 18], [.slot 3, .slot 16], [], []⟩ sspec_rePaid_l0 xspec_rePaid_l0 (fun (x : ((List Int) × Unit × Int × Unit × Int × Int × Unit) × (((List (List Int)) × (List Int) × (List Int) × Int × Int × Int × Int × Int × Unit) × (List (List Int)) × Unit)) => (x.1.1, (x.1.2.2.2.2.1, (x.2.1.1, (x.2.1.2.1, (x.2.1.2.2.1, (x.2.1.2.2.2.1, (x.2.1.2.2.2.2.1, (x.2.1.2.2.2.2.2.1, (x.2.1.2.2.2.2.2.2.1, (x.2.1.2.2.2.2.2.2.2.1, x.2.2.1))))))))))) fun (x : ((List Int) × Unit × Int × Unit × Int × Int × Unit) × (((List (List Int)) × (List Int) × (List Int) × Int × Int × Int × Int × Int × Unit) × (List (List Int)) × Unit)) => spec_rePaid_l0 x.1.1 x.1.2.2.2.2.1 x.2.1.2.2.2.1 x.2.2.1 x.1.2.2.1 x.1.2.2.2.2.2.1
def spec_rePaidK {R : Type} (fin : Int → Option R) (x0 : DJob) (x1 : List Int) (x2 : DPlan) : Option R :=
  (spec_srWorth x0 x2.2.1).bind fun y1 =>
  (spec_plTonnes x0 x2).bind fun y2 =>
  (spec_rePaid_l0 x1 (y2.length : Int) x0.2.2.2.1.1 y2 y1 0).bind fun y5 =>
  fin y5
def spec_rePaid (x0 : DJob) (x1 : List Int) (x2 : DPlan) : Option (Int) := spec_rePaidK some x0 x1 x2
theorem p98 {R : Type} (fin : Int → Option R) (x0 : DJob) (x1 : List Int) (x2 : DPlan) : Par fin (spec_rePaidK some x0 x1 x2) (spec_rePaidK fin x0 x1 x2) := by
  unfold spec_rePaidK
  repeat' (first | exact .fin | exact .none | refine .cond ?_ ?_ | refine .bind fun _ => ?_ | refine .sum (fun _ => ?_) fun _ => ?_)
def or98 : Ora := { lo := addL 3 (Lspec_rePaid_l0) lo0, fin := [] }
theorem spec_rePaid_l0e (a0 : List Int) (a2 : Int) (a4 : List (List Int)) (a5 : List Int) (a6 : List Int) (a7 : Int) (a8 : Int) (a9 : Int) (a10 : Int) (a11 : Int) (a12 : List (List Int)) (k : Nat) (a1 : Int) (a3 : Int) : loopC Try.prog EL98 or98 ((loopsIn (codeOf Try.f98)).getD 0 .skip) (Lspec_rePaid_l0).h (Lspec_rePaid_l0).ho Try.f98.ntmps (k + 1) (sspec_rePaid_l0.out ((a0, ((), (a1, ((), (a2, (a3, ())))))), ((a4, (a5, (a6, (a7, (a8, (a9, (a10, (a11, ())))))))), (a12, ())))) =
    spec_rePaid_l0K a0 a2 a7 a12 (fun a1 a3 => loopC Try.prog EL98 or98 ((loopsIn (codeOf Try.f98)).getD 0 .skip) (Lspec_rePaid_l0).h (Lspec_rePaid_l0).ho Try.f98.ntmps k (sspec_rePaid_l0.out ((a0, ((), (a1, ((), (a2, (a3, ())))))), ((a4, (a5, (a6, (a7, (a8, (a9, (a10, (a11, ())))))))), (a12, ()))))) (fun y => some (XS.out xspec_rePaid_l0 (a0, (a2, (a4, (a5, (a6, (a7, (a8, (a9, (a10, (a11, a12)))))))))) y)) a1 a3 := by kernel_rfl
theorem spec_rePaid_l0o : LoopOk Try.prog EL98 or98 Try.f98.ntmps ((loopsIn (codeOf Try.f98)).getD 0 .skip) (Lspec_rePaid_l0) :=
  loop_lim (hs := sspec_rePaid_l0) (xs := xspec_rePaid_l0) (ι := fun (x : ((List Int) × Unit × Int × Unit × Int × Int × Unit) × (((List (List Int)) × (List Int) × (List Int) × Int × Int × Int × Int × Int × Unit) × (List (List Int)) × Unit)) => (x.1.1, (x.1.2.2.2.2.1, (x.2.1.1, (x.2.1.2.1, (x.2.1.2.2.1, (x.2.1.2.2.2.1, (x.2.1.2.2.2.2.1, (x.2.1.2.2.2.2.2.1, (x.2.1.2.2.2.2.2.2.1, (x.2.1.2.2.2.2.2.2.2.1, x.2.2.1))))))))))) (φ := fun (x : ((List Int) × Unit × Int × Unit × Int × Int × Unit) × (((List (List Int)) × (List Int) × (List Int) × Int × Int × Int × Int × Int × Unit) × (List (List Int)) × Unit)) => (x.1.2.2.1, x.1.2.2.2.2.2.1)) (ψ := fun (i : (List Int) × Int × (List (List Int)) × (List Int) × (List Int) × Int × Int × Int × Int × Int × (List (List Int))) (v : Int × Int) => ((i.1, ((), (v.1, ((), (i.2.1, (v.2, ())))))), ((i.2.2.1, (i.2.2.2.1, (i.2.2.2.2.1, (i.2.2.2.2.2.1, (i.2.2.2.2.2.2.1, (i.2.2.2.2.2.2.2.1, (i.2.2.2.2.2.2.2.2.1, (i.2.2.2.2.2.2.2.2.2.1, ())))))))), (i.2.2.2.2.2.2.2.2.2.2, ())))) (F := fun (i : (List Int) × Int × (List (List Int)) × (List Int) × (List Int) × Int × Int × Int × Int × Int × (List (List Int))) => spec_rePaid_l0F i.1 i.2.1 i.2.2.2.2.2.1 i.2.2.2.2.2.2.2.2.2.2) (fun _ => rfl) fun i k hk v => Par.of_eq (spec_rePaid_l0e i.1 i.2.1 i.2.2.1 i.2.2.2.1 i.2.2.2.2.1 i.2.2.2.2.2.1 i.2.2.2.2.2.2.1 i.2.2.2.2.2.2.2.1 i.2.2.2.2.2.2.2.2.1 i.2.2.2.2.2.2.2.2.2.1 i.2.2.2.2.2.2.2.2.2.2 k v.1 v.2) (spec_rePaid_l0p i.1 i.2.1 i.2.2.2.2.2.1 i.2.2.2.2.2.2.2.2.2.2 (fun a1 a3 => hk (a1, a3)) v.1 v.2)
def c98 : Callee := mkC [.agg [.ro TJob], .one (.ro (.slice (.int .i64))), .agg [.ro TPlan]] 1 [.one (.ro (.int .i64))] fun x => spec_rePaid x.1 x.2.1 x.2.2
theorem e98 (x : PK.dens [.agg [.ro TJob], .one (.ro (.slice (.int .i64))), .agg [.ro TPlan]]) : evalFn Try.prog EL98 or98 Try.f98 (PK.outs [.agg [.ro TJob], .one (.ro (.slice (.int .i64))), .agg [.ro TPlan]] x) =
    spec_rePaidK (fun y => some (tupOf ((PK.outs [.one (.ro (.int .i64))] y).take 1), (PK.outs [.one (.ro (.int .i64))] y).drop 1)) x.1 x.2.1 x.2.2 := by kernel_rfl
theorem o98 : LoOk Try.prog EL98 or98 Try.f98.ntmps (loopsIn (codeOf Try.f98)) :=
  LoOk.mk (m := 1) (by kernel_rfl) fun i hi => match i, hi with
    | 0, _ => ⟨Lspec_rePaid_l0, by kernel_rfl, spec_rePaid_l0o⟩
    | i + 1, hi => absurd hi (by omega)
theorem k98 : CalleeOk Try.prog 98 c98 := callee_mk Try.func98 (code := codeOf Try.f98) (by kernel_rfl) vL98 mixed o98 fun x y h => (e98 x).trans (p98 _ x.1 x.2.1 x.2.2 y h)
end
end Go.OAI
