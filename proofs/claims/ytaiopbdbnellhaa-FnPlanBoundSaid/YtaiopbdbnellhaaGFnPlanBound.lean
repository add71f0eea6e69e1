/- Contracts: GFnPlanBound. -/
import Derived.Test.YtaiopbdbnellhaaGA
import Derived.Test.YtaiopbdbnellhaaGT
import Derived.Test.YtaiopbdbnellhaaGScaledWorth
import Derived.Test.YtaiopbdbnellhaaGSearchPlan
namespace Go.OAI
open Go.Proofs
set_option linter.unusedVariables false
noncomputable section


/-- laws.sameInts -/
def EL78 : Nat → Option Callee := env0
theorem vL78 : EnvOk Try.prog EL78 := EnvOk.nil
def slaws_sameInts_l0 : LS := ⟨[(0, .one (.dat (.slice (.int .i64)))), (1, .one (.dat (.slice (.int .i64)))), (12, .one (.dat (.int .i64))), (13, .one (.dat (.int .i64)))], [], []⟩
def slaws_sameInts_l0x0 : LS := ⟨[(4, .one (.dat .bool))], [], []⟩
def slaws_sameInts_l0x1 : LS := ⟨[], [], []⟩
def xlaws_sameInts_l0 : List (XS ((List Int) × (List Int) × Int)) := [⟨.ret, ⟨[4], [], [], []⟩, slaws_sameInts_l0x0, Bool, fun i y => ((y, ()), ())⟩,
  ⟨.exit 0, ⟨[], [], [], []⟩, slaws_sameInts_l0x1, Unit, fun i y => ((), ())⟩]
def laws_sameInts_l0K {R : Type} (a0 : List Int) (a1 : List Int) (a2 : Int) (rc : Int → Option R) (fin : (Bool ⊕ Unit) → Option R) (a3 : Int) : Option R :=
  cond (decide (a3 < a2))
  ((lat a0 a3).bind fun e1 =>
    (lat a1 a3).bind fun e2 =>
    cond (e1 != e2)
    (fin (.inl false))
    (rc (IntKind.i64.wrap (a3 + 1))))
  (fin (.inr ()))
def laws_sameInts_l0F (a0 : List Int) (a1 : List Int) (a2 : Int) (r : Int → Option (Bool ⊕ Unit)) (x : Int) : Option (Bool ⊕ Unit) := laws_sameInts_l0K a0 a1 a2 (fun a3 => r a3) some x
theorem laws_sameInts_l0c (a0 : List Int) (a1 : List Int) (a2 : Int) (x : Int) : Ct fun r => laws_sameInts_l0F a0 a1 a2 r x := by
  unfold laws_sameInts_l0F laws_sameInts_l0K
  repeat' (first | exact Ct.const | exact Ct.call | refine Ct.cond ?_ ?_ | refine Ct.bind ?_ fun _ => ?_ | refine Ct.sum (fun _ => ?_) fun _ => ?_)
def laws_sameInts_l0 (a0 : List Int) (a1 : List Int) (a2 : Int) (a3 : Int) : Option (Bool ⊕ Unit) := lim (laws_sameInts_l0F a0 a1 a2) a3
theorem laws_sameInts_l0_eq (a0 : List Int) (a1 : List Int) (a2 : Int) (a3 : Int) : laws_sameInts_l0 a0 a1 a2 a3 = laws_sameInts_l0K a0 a1 a2 (laws_sameInts_l0 a0 a1 a2) some a3 := lim_eq (laws_sameInts_l0c a0 a1 a2) a3
theorem laws_sameInts_l0p {R : Type} (a0 : List Int) (a1 : List Int) (a2 : Int) {rc : Int → Option (Bool ⊕ Unit)} {rc' : Int → Option R} {fin : (Bool ⊕ Unit) → Option R} (hr : ∀ a3, Par fin (rc a3) (rc' a3)) (a3 : Int) : Par fin (laws_sameInts_l0K a0 a1 a2 rc some a3) (laws_sameInts_l0K a0 a1 a2 rc' fin a3) := by
  unfold laws_sameInts_l0K
  repeat' (first | exact .fin | exact .none | exact hr _ | refine .cond ?_ ?_ | refine .bind fun _ => ?_ | refine .sum (fun _ => ?_) fun _ => ?_)
def Llaws_sameInts_l0 : Loop := mkL ⟨[0, 1, 12, 13], [], [], []⟩ slaws_sameInts_l0 xlaws_sameInts_l0 (fun (x : ((List Int) × (List Int) × Int × Int × Unit) × (Unit)) => (x.1.1, (x.1.2.1, x.1.2.2.1))) fun (x : ((List Int) × (List Int) × Int × Int × Unit) × (Unit)) => laws_sameInts_l0 x.1.1 x.1.2.1 x.1.2.2.1 x.1.2.2.2.1
def laws_sameIntsK {R : Type} (fin : Bool → Option R) (x0 : List Int) (x1 : List Int) : Option R :=
  cond ((x0.length : Int) != (x1.length : Int))
  (fin false)
  ((laws_sameInts_l0 x0 x1 (x0.length : Int) 0).bind fun y3 =>
    sumO y3 (fun y4 =>
    fin y4)
    (fun y5 =>
    fin true))
def laws_sameInts (x0 : List Int) (x1 : List Int) : Option (Bool) := laws_sameIntsK some x0 x1
theorem p78 {R : Type} (fin : Bool → Option R) (x0 : List Int) (x1 : List Int) : Par fin (laws_sameIntsK some x0 x1) (laws_sameIntsK fin x0 x1) := by
  unfold laws_sameIntsK
  repeat' (first | exact .fin | exact .none | refine .cond ?_ ?_ | refine .bind fun _ => ?_ | refine .sum (fun _ => ?_) fun _ => ?_)
def or78 : Ora := { lo := addL 4 (Llaws_sameInts_l0) lo0, fin := [] }
theorem laws_sameInts_l0e (a0 : List Int) (a1 : List Int) (a2 : Int) (k : Nat) (a3 : Int) : loopC Try.prog EL78 or78 ((loopsIn (codeOf Try.f78)).getD 0 .skip) (Llaws_sameInts_l0).h (Llaws_sameInts_l0).ho Try.f78.ntmps (k + 1) (slaws_sameInts_l0.out ((a0, (a1, (a2, (a3, ())))), ())) =
    laws_sameInts_l0K a0 a1 a2 (fun a3 => loopC Try.prog EL78 or78 ((loopsIn (codeOf Try.f78)).getD 0 .skip) (Llaws_sameInts_l0).h (Llaws_sameInts_l0).ho Try.f78.ntmps k (slaws_sameInts_l0.out ((a0, (a1, (a2, (a3, ())))), ()))) (fun y => some (XS.out xlaws_sameInts_l0 (a0, (a1, a2)) y)) a3 := by kernel_rfl
theorem laws_sameInts_l0o : LoopOk Try.prog EL78 or78 Try.f78.ntmps ((loopsIn (codeOf Try.f78)).getD 0 .skip) (Llaws_sameInts_l0) :=
  loop_lim (hs := slaws_sameInts_l0) (xs := xlaws_sameInts_l0) (ι := fun (x : ((List Int) × (List Int) × Int × Int × Unit) × (Unit)) => (x.1.1, (x.1.2.1, x.1.2.2.1))) (φ := fun (x : ((List Int) × (List Int) × Int × Int × Unit) × (Unit)) => x.1.2.2.2.1) (ψ := fun (i : (List Int) × (List Int) × Int) (v : Int) => ((i.1, (i.2.1, (i.2.2, (v, ())))), ())) (F := fun (i : (List Int) × (List Int) × Int) => laws_sameInts_l0F i.1 i.2.1 i.2.2) (fun _ => rfl) fun i k hk v => Par.of_eq (laws_sameInts_l0e i.1 i.2.1 i.2.2 k v) (laws_sameInts_l0p i.1 i.2.1 i.2.2 (fun a3 => hk a3) v)
def c78 : Callee := mkC [.one (.ro (.slice (.int .i64))), .one (.ro (.slice (.int .i64)))] 1 [.one (.ro .bool)] fun x => laws_sameInts x.1 x.2
theorem e78 (x : PK.dens [.one (.ro (.slice (.int .i64))), .one (.ro (.slice (.int .i64)))]) : evalFn Try.prog EL78 or78 Try.f78 (PK.outs [.one (.ro (.slice (.int .i64))), .one (.ro (.slice (.int .i64)))] x) =
    laws_sameIntsK (fun y => some (tupOf ((PK.outs [.one (.ro .bool)] y).take 1), (PK.outs [.one (.ro .bool)] y).drop 1)) x.1 x.2 := by kernel_rfl
theorem o78 : LoOk Try.prog EL78 or78 Try.f78.ntmps (loopsIn (codeOf Try.f78)) :=
  LoOk.mk (m := 1) (by kernel_rfl) fun i hi => match i, hi with
    | 0, _ => ⟨Llaws_sameInts_l0, by kernel_rfl, laws_sameInts_l0o⟩
    | i + 1, hi => absurd hi (by omega)
theorem k78 : CalleeOk Try.prog 78 c78 := callee_mk Try.func78 (code := codeOf Try.f78) (by kernel_rfl) vL78 mixed o78 fun x y h => (e78 x).trans (p78 _ x.1 x.2 y h)

/-- laws.pSamePlan -/
def EL40 : Nat → Option Callee := addE 78 c78 env0
theorem vL40 : EnvOk Try.prog EL40 := EnvOk.nil.add Try.func78 rfl (by kernel_rfl) k78
def laws_pSamePlanK {R : Type} (fin : Bool → Option R) (x0 : DPlan) (x1 : DPlan) : Option R :=
  cond (x0.1 == x1.1)
  ((laws_sameInts x0.2.1 x1.2.1).bind fun y1 =>
    fin y1)
  (fin false)
def laws_pSamePlan (x0 : DPlan) (x1 : DPlan) : Option (Bool) := laws_pSamePlanK some x0 x1
theorem p40 {R : Type} (fin : Bool → Option R) (x0 : DPlan) (x1 : DPlan) : Par fin (laws_pSamePlanK some x0 x1) (laws_pSamePlanK fin x0 x1) := by
  unfold laws_pSamePlanK
  repeat' (first | exact .fin | exact .none | refine .cond ?_ ?_ | refine .bind fun _ => ?_ | refine .sum (fun _ => ?_) fun _ => ?_)
def c40 : Callee := mkC [.agg [.ro TPlan], .agg [.ro TPlan]] 1 [.one (.ro .bool)] fun x => laws_pSamePlan x.1 x.2
theorem e40 (x : PK.dens [.agg [.ro TPlan], .agg [.ro TPlan]]) : evalFn Try.prog EL40 or0 Try.f40 (PK.outs [.agg [.ro TPlan], .agg [.ro TPlan]] x) =
    laws_pSamePlanK (fun y => some (tupOf ((PK.outs [.one (.ro .bool)] y).take 1), (PK.outs [.one (.ro .bool)] y).drop 1)) x.1 x.2 := by kernel_rfl
theorem k40 : CalleeOk Try.prog 40 c40 := callee_mk Try.func40 (code := codeOf Try.f40) (by kernel_rfl) vL40 mixed (LoOk.nil (by kernel_rfl)) fun x y h => (e40 x).trans (p40 _ x.1 x.2 y h)

/-- impl.OrderFaults -/
def EL41 : Nat → Option Callee := addE 57 c57 (addE 49 c49 env0)
theorem vL41 : EnvOk Try.prog EL41 := (EnvOk.nil.add Try.func49 rfl (by kernel_rfl) k49).add Try.func57 rfl (by kernel_rfl) k57
def simpl_OrderFaults_l1 : LS := ⟨[(2, .one (.fix (.ptr 0 0))), (3, .one (.fix (.ptr 1 0))), (6, .one (.fix (.sref 2))), (7, .one (.dat (.int .i64))), (8, .one (.dat (.int .i64))), (22, .one (.dat (.slice (.int .i64)))), (23, .one (.dat (.int .i64))), (24, .one (.dat (.int .i64))), (33, .one (.dat (.slice (.int .i64)))), (34, .one (.dat (.int .i64))), (35, .one (.dat (.int .i64)))], [.box [.dat (.slice (.slice (.int .i64))), .dat (.slice (.int .i64)), .dat (.slice (.int .i64)), .dat (.int .i64), .dat (.int .i64), .dat (.int .i64), .dat (.int .i64), .dat (.int .i64)], .box [.dat (.int .i64), .dat (.slice (.int .i64))], .mat (.int .i64)], []⟩
def simpl_OrderFaults_l1x0 : LS := ⟨[(2, .one (.fix (.ptr 0 0))), (3, .one (.fix (.ptr 1 0))), (6, .one (.fix (.sref 2))), (22, .one (.dat (.slice (.int .i64)))), (23, .one (.dat (.int .i64))), (24, .one (.dat (.int .i64)))], [.box [.dat (.slice (.slice (.int .i64))), .dat (.slice (.int .i64)), .dat (.slice (.int .i64)), .dat (.int .i64), .dat (.int .i64), .dat (.int .i64), .dat (.int .i64), .dat (.int .i64)], .box [.dat (.int .i64), .dat (.slice (.int .i64))], .mat (.int .i64)], []⟩
def ximpl_OrderFaults_l1 : List (XS (Int × Int × (List Int) × Int × Int × (List Int) × Int × (List (List Int)) × (List Int) × (List Int) × Int × Int × Int × Int × Int × Int × (List Int))) := [⟨.exit 2, ⟨[2, 3, 6, 22, 23, 24], [.slot 2, .slot 3, .slot 6], [], []⟩, simpl_OrderFaults_l1x0, List (List Int), fun i y => (((), ((), ((), (i.2.2.1, (i.2.2.2.1, (i.2.2.2.2.1, ())))))), ((i.2.2.2.2.2.2.2.1, (i.2.2.2.2.2.2.2.2.1, (i.2.2.2.2.2.2.2.2.2.1, (i.2.2.2.2.2.2.2.2.2.2.1, (i.2.2.2.2.2.2.2.2.2.2.2.1, (i.2.2.2.2.2.2.2.2.2.2.2.2.1, (i.2.2.2.2.2.2.2.2.2.2.2.2.2.1, (i.2.2.2.2.2.2.2.2.2.2.2.2.2.2.1, ())))))))), ((i.2.2.2.2.2.2.2.2.2.2.2.2.2.2.2.1, (i.2.2.2.2.2.2.2.2.2.2.2.2.2.2.2.2, ())), (y, ()))))⟩]
def impl_OrderFaults_l1K {R : Type} (a0 : Int) (a1 : Int) (a5 : List Int) (a6 : Int) (a17 : List Int) (rc : Int → List (List Int) → Option R) (fin : List (List Int) → Option R) (a7 : Int) (a18 : List (List Int)) : Option R :=
  cond (decide (a7 < a6))
  ((lat a5 a7).bind fun e1 =>
    cond (decide (a1 ≥ 0))
    ((lat a17 e1).bind fun e2 =>
      cond (decide (e2 < 0))
      (cond (decide (a18.length + [[a0, e1]].length ≤ 1099511627776))
        ((some (a18 ++ [[a0, e1]])).bind fun v3 =>
          rc (IntKind.i64.wrap (a7 + 1)) v3)
        (none))
      ((lat a17 e1).bind fun e4 =>
        cond (decide (e4 > a1))
        (cond (decide (a18.length + [[a0, e1]].length ≤ 1099511627776))
          ((some (a18 ++ [[a0, e1]])).bind fun v5 =>
            rc (IntKind.i64.wrap (a7 + 1)) v5)
          (none))
        (rc (IntKind.i64.wrap (a7 + 1)) a18)))
    (rc (IntKind.i64.wrap (a7 + 1)) a18))
  (fin a18)
def impl_OrderFaults_l1F (a0 : Int) (a1 : Int) (a5 : List Int) (a6 : Int) (a17 : List Int) (r : (Int × (List (List Int))) → Option (List (List Int))) (x : Int × (List (List Int))) : Option (List (List Int)) := impl_OrderFaults_l1K a0 a1 a5 a6 a17 (fun a7 a18 => r (a7, a18)) some x.1 x.2
theorem impl_OrderFaults_l1c (a0 : Int) (a1 : Int) (a5 : List Int) (a6 : Int) (a17 : List Int) (x : Int × (List (List Int))) : Ct fun r => impl_OrderFaults_l1F a0 a1 a5 a6 a17 r x := by
  unfold impl_OrderFaults_l1F impl_OrderFaults_l1K
  repeat' (first | exact Ct.const | exact Ct.call | refine Ct.cond ?_ ?_ | refine Ct.bind ?_ fun _ => ?_ | refine Ct.sum (fun _ => ?_) fun _ => ?_)
def impl_OrderFaults_l1 (a0 : Int) (a1 : Int) (a5 : List Int) (a6 : Int) (a17 : List Int) (a7 : Int) (a18 : List (List Int)) : Option (List (List Int)) := lim (impl_OrderFaults_l1F a0 a1 a5 a6 a17) (a7, a18)
theorem impl_OrderFaults_l1_eq (a0 : Int) (a1 : Int) (a5 : List Int) (a6 : Int) (a17 : List Int) (a7 : Int) (a18 : List (List Int)) : impl_OrderFaults_l1 a0 a1 a5 a6 a17 a7 a18 = impl_OrderFaults_l1K a0 a1 a5 a6 a17 (impl_OrderFaults_l1 a0 a1 a5 a6 a17) some a7 a18 := lim_eq (impl_OrderFaults_l1c a0 a1 a5 a6 a17) (a7, a18)
theorem impl_OrderFaults_l1p {R : Type} (a0 : Int) (a1 : Int) (a5 : List Int) (a6 : Int) (a17 : List Int) {rc : Int → List (List Int) → Option (List (List Int))} {rc' : Int → List (List Int) → Option R} {fin : List (List Int) → Option R} (hr : ∀ a7 a18, Par fin (rc a7 a18) (rc' a7 a18)) (a7 : Int) (a18 : List (List Int)) : Par fin (impl_OrderFaults_l1K a0 a1 a5 a6 a17 rc some a7 a18) (impl_OrderFaults_l1K a0 a1 a5 a6 a17 rc' fin a7 a18) := by
  unfold impl_OrderFaults_l1K
  repeat' (first | exact .fin | exact .none | exact hr _ _ | refine .cond ?_ ?_ | refine .bind fun _ => ?_ | refine .sum (fun _ => ?_) fun _ => ?_)
def Limpl_OrderFaults_l1 : Loop := mkL ⟨[2, 3, 6, 7, 8, 22, 23, 24, 33, 34, 35], [.slot 2, .slot 3, .slot 6], [], []⟩ simpl_OrderFaults_l1 ximpl_OrderFaults_l1 (fun (x : (Unit × Unit × Unit × Int × Int × (List Int) × Int × Int × (List Int) × Int × Int × Unit) × (((List (List Int)) × (List Int) × (List Int) × Int × Int × Int × Int × Int × Unit) × (Int × (List Int) × Unit) × (List (List Int)) × Unit)) => (x.1.2.2.2.1, (x.1.2.2.2.2.1, (x.1.2.2.2.2.2.1, (x.1.2.2.2.2.2.2.1, (x.1.2.2.2.2.2.2.2.1, (x.1.2.2.2.2.2.2.2.2.1, (x.1.2.2.2.2.2.2.2.2.2.1, (x.2.1.1, (x.2.1.2.1, (x.2.1.2.2.1, (x.2.1.2.2.2.1, (x.2.1.2.2.2.2.1, (x.2.1.2.2.2.2.2.1, (x.2.1.2.2.2.2.2.2.1, (x.2.1.2.2.2.2.2.2.2.1, (x.2.2.1.1, x.2.2.1.2.1))))))))))))))))) fun (x : (Unit × Unit × Unit × Int × Int × (List Int) × Int × Int × (List Int) × Int × Int × Unit) × (((List (List Int)) × (List Int) × (List Int) × Int × Int × Int × Int × Int × Unit) × (Int × (List Int) × Unit) × (List (List Int)) × Unit)) => impl_OrderFaults_l1 x.1.2.2.2.1 x.1.2.2.2.2.1 x.1.2.2.2.2.2.2.2.2.1 x.1.2.2.2.2.2.2.2.2.2.1 x.2.2.1.2.1 x.1.2.2.2.2.2.2.2.2.2.2.1 x.2.2.2.1
def simpl_OrderFaults_l0 : LS := ⟨[(2, .one (.fix (.ptr 0 0))), (3, .one (.fix (.ptr 1 0))), (6, .one (.fix (.sref 2))), (22, .one (.dat (.slice (.int .i64)))), (23, .one (.dat (.int .i64))), (24, .one (.dat (.int .i64)))], [.box [.dat (.slice (.slice (.int .i64))), .dat (.slice (.int .i64)), .dat (.slice (.int .i64)), .dat (.int .i64), .dat (.int .i64), .dat (.int .i64), .dat (.int .i64), .dat (.int .i64)], .box [.dat (.int .i64), .dat (.slice (.int .i64))], .mat (.int .i64)], []⟩
def simpl_OrderFaults_l0x0 : LS := ⟨[(6, .one (.fix (.sref 0)))], [.mat (.int .i64)], []⟩
def ximpl_OrderFaults_l0 : List (XS ((List Int) × Int × (List (List Int)) × (List Int) × (List Int) × Int × Int × Int × Int × Int × Int × (List Int))) := [⟨.exit 0, ⟨[6], [.slot 6], [], []⟩, simpl_OrderFaults_l0x0, List (List Int), fun i y => (((), ()), (y, ()))⟩]
def impl_OrderFaults_l0K {R : Type} (a0 : List Int) (a1 : Int) (a3 : List (List Int)) (a12 : List Int) (rc : Int → List (List Int) → Option R) (fin : List (List Int) → Option R) (a2 : Int) (a13 : List (List Int)) : Option R :=
  cond (decide (a2 < a1))
  ((lat a0 a2).bind fun e1 =>
    (lat a3 a2).bind fun e2 =>
    (impl_OrderFaults_l1 a2 e1 e2 (e2.length : Int) a12 0 a13).bind fun y8 =>
    rc (IntKind.i64.wrap (a2 + 1)) y8)
  (fin a13)
def impl_OrderFaults_l0F (a0 : List Int) (a1 : Int) (a3 : List (List Int)) (a12 : List Int) (r : (Int × (List (List Int))) → Option (List (List Int))) (x : Int × (List (List Int))) : Option (List (List Int)) := impl_OrderFaults_l0K a0 a1 a3 a12 (fun a2 a13 => r (a2, a13)) some x.1 x.2
theorem impl_OrderFaults_l0c (a0 : List Int) (a1 : Int) (a3 : List (List Int)) (a12 : List Int) (x : Int × (List (List Int))) : Ct fun r => impl_OrderFaults_l0F a0 a1 a3 a12 r x := by
  unfold impl_OrderFaults_l0F impl_OrderFaults_l0K
  repeat' (first | exact Ct.const | exact Ct.call | refine Ct.cond ?_ ?_ | refine Ct.bind ?_ fun _ => ?_ | refine Ct.sum (fun _ => ?_) fun _ => ?_)
def impl_OrderFaults_l0 (a0 : List Int) (a1 : Int) (a3 : List (List Int)) (a12 : List Int) (a2 : Int) (a13 : List (List Int)) : Option (List (List Int)) := lim (impl_OrderFaults_l0F a0 a1 a3 a12) (a2, a13)
theorem impl_OrderFaults_l0_eq (a0 : List Int) (a1 : Int) (a3 : List (List Int)) (a12 : List Int) (a2 : Int) (a13 : List (List Int)) : impl_OrderFaults_l0 a0 a1 a3 a12 a2 a13 = impl_OrderFaults_l0K a0 a1 a3 a12 (impl_OrderFaults_l0 a0 a1 a3 a12) some a2 a13 := lim_eq (impl_OrderFaults_l0c a0 a1 a3 a12) (a2, a13)
theorem impl_OrderFaults_l0p {R : Type} (a0 : List Int) (a1 : Int) (a3 : List (List Int)) (a12 : List Int) {rc : Int → List (List Int) → Option (List (List Int))} {rc' : Int → List (List Int) → Option R} {fin : List (List Int) → Option R} (hr : ∀ a2 a13, Par fin (rc a2 a13) (rc' a2 a13)) (a2 : Int) (a13 : List (List Int)) : Par fin (impl_OrderFaults_l0K a0 a1 a3 a12 rc some a2 a13) (impl_OrderFaults_l0K a0 a1 a3 a12 rc' fin a2 a13) := by
  unfold impl_OrderFaults_l0K
  repeat' (first | exact .fin | exact .none | exact hr _ _ | refine .cond ?_ ?_ | refine .bind fun _ => ?_ | refine .sum (fun _ => ?_) fun _ => ?_)
def Limpl_OrderFaults_l0 : Loop := mkL ⟨[2, 3, 6, 22, 23, 24], [.slot 2, .slot 3, .slot 6], [], []⟩ simpl_OrderFaults_l0 ximpl_OrderFaults_l0 (fun (x : (Unit × Unit × Unit × (List Int) × Int × Int × Unit) × (((List (List Int)) × (List Int) × (List Int) × Int × Int × Int × Int × Int × Unit) × (Int × (List Int) × Unit) × (List (List Int)) × Unit)) => (x.1.2.2.2.1, (x.1.2.2.2.2.1, (x.2.1.1, (x.2.1.2.1, (x.2.1.2.2.1, (x.2.1.2.2.2.1, (x.2.1.2.2.2.2.1, (x.2.1.2.2.2.2.2.1, (x.2.1.2.2.2.2.2.2.1, (x.2.1.2.2.2.2.2.2.2.1, (x.2.2.1.1, x.2.2.1.2.1)))))))))))) fun (x : (Unit × Unit × Unit × (List Int) × Int × Int × Unit) × (((List (List Int)) × (List Int) × (List Int) × Int × Int × Int × Int × Int × Unit) × (Int × (List Int) × Unit) × (List (List Int)) × Unit)) => impl_OrderFaults_l0 x.1.2.2.2.1 x.1.2.2.2.2.1 x.2.1.1 x.2.2.1.2.1 x.1.2.2.2.2.2.1 x.2.2.2.1
def impl_OrderFaultsK {R : Type} (fin : (List (List Int)) × Bool → Option R) (x0 : DJob) (x1 : DPlan) : Option R :=
  (impl_IsJob x0).bind fun y1 =>
  cond (!y1)
  (fin ([], false))
  ((impl_isPlan x0 x1).bind fun y2 =>
    cond (!y2)
    (fin ([], false))
    ((impl_OrderFaults_l0 x1.2.1 (x1.2.1.length : Int) x0.1 x1.2.1 0 []).bind fun y11 =>
      fin (y11, true)))
def impl_OrderFaults (x0 : DJob) (x1 : DPlan) : Option ((List (List Int)) × Bool) := impl_OrderFaultsK some x0 x1
theorem p41 {R : Type} (fin : (List (List Int)) × Bool → Option R) (x0 : DJob) (x1 : DPlan) : Par fin (impl_OrderFaultsK some x0 x1) (impl_OrderFaultsK fin x0 x1) := by
  unfold impl_OrderFaultsK
  repeat' (first | exact .fin | exact .none | refine .cond ?_ ?_ | refine .bind fun _ => ?_ | refine .sum (fun _ => ?_) fun _ => ?_)
def or41 : Ora := { lo := addL 5 (Limpl_OrderFaults_l0) (addL 8 (Limpl_OrderFaults_l1) lo0), fin := [.ownm (.slot 4) (.int .i64)] }
theorem impl_OrderFaults_l1e (a0 : Int) (a1 : Int) (a2 : List Int) (a3 : Int) (a4 : Int) (a5 : List Int) (a6 : Int) (a8 : List (List Int)) (a9 : List Int) (a10 : List Int) (a11 : Int) (a12 : Int) (a13 : Int) (a14 : Int) (a15 : Int) (a16 : Int) (a17 : List Int) (k : Nat) (a7 : Int) (a18 : List (List Int)) : loopC Try.prog EL41 or41 ((loopsIn (codeOf Try.f41)).getD 1 .skip) (Limpl_OrderFaults_l1).h (Limpl_OrderFaults_l1).ho Try.f41.ntmps (k + 1) (simpl_OrderFaults_l1.out (((), ((), ((), (a0, (a1, (a2, (a3, (a4, (a5, (a6, (a7, ()))))))))))), ((a8, (a9, (a10, (a11, (a12, (a13, (a14, (a15, ())))))))), ((a16, (a17, ())), (a18, ()))))) =
    impl_OrderFaults_l1K a0 a1 a5 a6 a17 (fun a7 a18 => loopC Try.prog EL41 or41 ((loopsIn (codeOf Try.f41)).getD 1 .skip) (Limpl_OrderFaults_l1).h (Limpl_OrderFaults_l1).ho Try.f41.ntmps k (simpl_OrderFaults_l1.out (((), ((), ((), (a0, (a1, (a2, (a3, (a4, (a5, (a6, (a7, ()))))))))))), ((a8, (a9, (a10, (a11, (a12, (a13, (a14, (a15, ())))))))), ((a16, (a17, ())), (a18, ())))))) (fun y => some (XS.out ximpl_OrderFaults_l1 (a0, (a1, (a2, (a3, (a4, (a5, (a6, (a8, (a9, (a10, (a11, (a12, (a13, (a14, (a15, (a16, a17)))))))))))))))) y)) a7 a18 := by kernel_rfl
theorem impl_OrderFaults_l1o : LoopOk Try.prog EL41 or41 Try.f41.ntmps ((loopsIn (codeOf Try.f41)).getD 1 .skip) (Limpl_OrderFaults_l1) :=
  loop_lim (hs := simpl_OrderFaults_l1) (xs := ximpl_OrderFaults_l1) (ι := fun (x : (Unit × Unit × Unit × Int × Int × (List Int) × Int × Int × (List Int) × Int × Int × Unit) × (((List (List Int)) × (List Int) × (List Int) × Int × Int × Int × Int × Int × Unit) × (Int × (List Int) × Unit) × (List (List Int)) × Unit)) => (x.1.2.2.2.1, (x.1.2.2.2.2.1, (x.1.2.2.2.2.2.1, (x.1.2.2.2.2.2.2.1, (x.1.2.2.2.2.2.2.2.1, (x.1.2.2.2.2.2.2.2.2.1, (x.1.2.2.2.2.2.2.2.2.2.1, (x.2.1.1, (x.2.1.2.1, (x.2.1.2.2.1, (x.2.1.2.2.2.1, (x.2.1.2.2.2.2.1, (x.2.1.2.2.2.2.2.1, (x.2.1.2.2.2.2.2.2.1, (x.2.1.2.2.2.2.2.2.2.1, (x.2.2.1.1, x.2.2.1.2.1))))))))))))))))) (φ := fun (x : (Unit × Unit × Unit × Int × Int × (List Int) × Int × Int × (List Int) × Int × Int × Unit) × (((List (List Int)) × (List Int) × (List Int) × Int × Int × Int × Int × Int × Unit) × (Int × (List Int) × Unit) × (List (List Int)) × Unit)) => (x.1.2.2.2.2.2.2.2.2.2.2.1, x.2.2.2.1)) (ψ := fun (i : Int × Int × (List Int) × Int × Int × (List Int) × Int × (List (List Int)) × (List Int) × (List Int) × Int × Int × Int × Int × Int × Int × (List Int)) (v : Int × (List (List Int))) => (((), ((), ((), (i.1, (i.2.1, (i.2.2.1, (i.2.2.2.1, (i.2.2.2.2.1, (i.2.2.2.2.2.1, (i.2.2.2.2.2.2.1, (v.1, ()))))))))))), ((i.2.2.2.2.2.2.2.1, (i.2.2.2.2.2.2.2.2.1, (i.2.2.2.2.2.2.2.2.2.1, (i.2.2.2.2.2.2.2.2.2.2.1, (i.2.2.2.2.2.2.2.2.2.2.2.1, (i.2.2.2.2.2.2.2.2.2.2.2.2.1, (i.2.2.2.2.2.2.2.2.2.2.2.2.2.1, (i.2.2.2.2.2.2.2.2.2.2.2.2.2.2.1, ())))))))), ((i.2.2.2.2.2.2.2.2.2.2.2.2.2.2.2.1, (i.2.2.2.2.2.2.2.2.2.2.2.2.2.2.2.2, ())), (v.2, ()))))) (F := fun (i : Int × Int × (List Int) × Int × Int × (List Int) × Int × (List (List Int)) × (List Int) × (List Int) × Int × Int × Int × Int × Int × Int × (List Int)) => impl_OrderFaults_l1F i.1 i.2.1 i.2.2.2.2.2.1 i.2.2.2.2.2.2.1 i.2.2.2.2.2.2.2.2.2.2.2.2.2.2.2.2) (fun _ => rfl) fun i k hk v => Par.of_eq (impl_OrderFaults_l1e i.1 i.2.1 i.2.2.1 i.2.2.2.1 i.2.2.2.2.1 i.2.2.2.2.2.1 i.2.2.2.2.2.2.1 i.2.2.2.2.2.2.2.1 i.2.2.2.2.2.2.2.2.1 i.2.2.2.2.2.2.2.2.2.1 i.2.2.2.2.2.2.2.2.2.2.1 i.2.2.2.2.2.2.2.2.2.2.2.1 i.2.2.2.2.2.2.2.2.2.2.2.2.1 i.2.2.2.2.2.2.2.2.2.2.2.2.2.1 i.2.2.2.2.2.2.2.2.2.2.2.2.2.2.1 i.2.2.2.2.2.2.2.2.2.2.2.2.2.2.2.1 i.2.2.2.2.2.2.2.2.2.2.2.2.2.2.2.2 k v.1 v.2) (impl_OrderFaults_l1p i.1 i.2.1 i.2.2.2.2.2.1 i.2.2.2.2.2.2.1 i.2.2.2.2.2.2.2.2.2.2.2.2.2.2.2.2 (fun a7 a18 => hk (a7, a18)) v.1 v.2)
theorem impl_OrderFaults_l0e (a0 : List Int) (a1 : Int) (a3 : List (List Int)) (a4 : List Int) (a5 : List Int) (a6 : Int) (a7 : Int) (a8 : Int) (a9 : Int) (a10 : Int) (a11 : Int) (a12 : List Int) (k : Nat) (a2 : Int) (a13 : List (List Int)) : loopC Try.prog EL41 or41 ((loopsIn (codeOf Try.f41)).getD 0 .skip) (Limpl_OrderFaults_l0).h (Limpl_OrderFaults_l0).ho Try.f41.ntmps (k + 1) (simpl_OrderFaults_l0.out (((), ((), ((), (a0, (a1, (a2, ())))))), ((a3, (a4, (a5, (a6, (a7, (a8, (a9, (a10, ())))))))), ((a11, (a12, ())), (a13, ()))))) =
    impl_OrderFaults_l0K a0 a1 a3 a12 (fun a2 a13 => loopC Try.prog EL41 or41 ((loopsIn (codeOf Try.f41)).getD 0 .skip) (Limpl_OrderFaults_l0).h (Limpl_OrderFaults_l0).ho Try.f41.ntmps k (simpl_OrderFaults_l0.out (((), ((), ((), (a0, (a1, (a2, ())))))), ((a3, (a4, (a5, (a6, (a7, (a8, (a9, (a10, ())))))))), ((a11, (a12, ())), (a13, ())))))) (fun y => some (XS.out ximpl_OrderFaults_l0 (a0, (a1, (a3, (a4, (a5, (a6, (a7, (a8, (a9, (a10, (a11, a12))))))))))) y)) a2 a13 := by kernel_rfl
theorem impl_OrderFaults_l0o : LoopOk Try.prog EL41 or41 Try.f41.ntmps ((loopsIn (codeOf Try.f41)).getD 0 .skip) (Limpl_OrderFaults_l0) :=
  loop_lim (hs := simpl_OrderFaults_l0) (xs := ximpl_OrderFaults_l0) (ι := fun (x : (Unit × Unit × Unit × (List Int) × Int × Int × Unit) × (((List (List Int)) × (List Int) × (List Int) × Int × Int × Int × Int × Int × Unit) × (Int × (List Int) × Unit) × (List (List Int)) × Unit)) => (x.1.2.2.2.1, (x.1.2.2.2.2.1, (x.2.1.1, (x.2.1.2.1, (x.2.1.2.2.1, (x.2.1.2.2.2.1, (x.2.1.2.2.2.2.1, (x.2.1.2.2.2.2.2.1, (x.2.1.2.2.2.2.2.2.1, (x.2.1.2.2.2.2.2.2.2.1, (x.2.2.1.1, x.2.2.1.2.1)))))))))))) (φ := fun (x : (Unit × Unit × Unit × (List Int) × Int × Int × Unit) × (((List (List Int)) × (List Int) × (List Int) × Int × Int × Int × Int × Int × Unit) × (Int × (List Int) × Unit) × (List (List Int)) × Unit)) => (x.1.2.2.2.2.2.1, x.2.2.2.1)) (ψ := fun (i : (List Int) × Int × (List (List Int)) × (List Int) × (List Int) × Int × Int × Int × Int × Int × Int × (List Int)) (v : Int × (List (List Int))) => (((), ((), ((), (i.1, (i.2.1, (v.1, ())))))), ((i.2.2.1, (i.2.2.2.1, (i.2.2.2.2.1, (i.2.2.2.2.2.1, (i.2.2.2.2.2.2.1, (i.2.2.2.2.2.2.2.1, (i.2.2.2.2.2.2.2.2.1, (i.2.2.2.2.2.2.2.2.2.1, ())))))))), ((i.2.2.2.2.2.2.2.2.2.2.1, (i.2.2.2.2.2.2.2.2.2.2.2, ())), (v.2, ()))))) (F := fun (i : (List Int) × Int × (List (List Int)) × (List Int) × (List Int) × Int × Int × Int × Int × Int × Int × (List Int)) => impl_OrderFaults_l0F i.1 i.2.1 i.2.2.1 i.2.2.2.2.2.2.2.2.2.2.2) (fun _ => rfl) fun i k hk v => Par.of_eq (impl_OrderFaults_l0e i.1 i.2.1 i.2.2.1 i.2.2.2.1 i.2.2.2.2.1 i.2.2.2.2.2.1 i.2.2.2.2.2.2.1 i.2.2.2.2.2.2.2.1 i.2.2.2.2.2.2.2.2.1 i.2.2.2.2.2.2.2.2.2.1 i.2.2.2.2.2.2.2.2.2.2.1 i.2.2.2.2.2.2.2.2.2.2.2 k v.1 v.2) (impl_OrderFaults_l0p i.1 i.2.1 i.2.2.1 i.2.2.2.2.2.2.2.2.2.2.2 (fun a2 a13 => hk (a2, a13)) v.1 v.2)
def c41 : Callee := mkC [.agg [.ro TJob], .agg [.ro TPlan]] 2 [.one (.mat (.int .i64)), .one (.ro .bool)] fun x => impl_OrderFaults x.1 x.2
theorem e41 (x : PK.dens [.agg [.ro TJob], .agg [.ro TPlan]]) : evalFn Try.prog EL41 or41 Try.f41 (PK.outs [.agg [.ro TJob], .agg [.ro TPlan]] x) =
    impl_OrderFaultsK (fun y => some (tupOf ((PK.outs [.one (.mat (.int .i64)), .one (.ro .bool)] y).take 2), (PK.outs [.one (.mat (.int .i64)), .one (.ro .bool)] y).drop 2)) x.1 x.2 := by kernel_rfl
theorem o41 : LoOk Try.prog EL41 or41 Try.f41.ntmps (loopsIn (codeOf Try.f41)) :=
  LoOk.mk (m := 2) (by kernel_rfl) fun i hi => match i, hi with
    | 0, _ => ⟨Limpl_OrderFaults_l0, by kernel_rfl, impl_OrderFaults_l0o⟩
    | 1, _ => ⟨Limpl_OrderFaults_l1, by kernel_rfl, impl_OrderFaults_l1o⟩
    | i + 2, hi => absurd hi (by omega)
theorem k41 : CalleeOk Try.prog 41 c41 := callee_mk Try.func41 (code := codeOf Try.f41) (by kernel_rfl) vL41 mixed o41 fun x y h => (e41 x).trans (p41 _ x.1 x.2 y h)

/-- impl.OverLimits -/
def EL42 : Nat → Option Callee := addE 79 c79 (addE 57 c57 (addE 49 c49 env0))
theorem vL42 : EnvOk Try.prog EL42 := ((EnvOk.nil.add Try.func49 rfl (by kernel_rfl) k49).add Try.func57 rfl (by kernel_rfl) k57).add Try.func79 rfl (by kernel_rfl) k79
def simpl_OverLimits_l0 : LS := ⟨[(2, .one (.fix (.ptr 0 0))), (6, .one (.fix (.sref 1))), (21, .one (.fix (.sref 2))), (22, .one (.dat (.int .i64))), (23, .one (.dat (.int .i64)))], [.box [.dat (.slice (.slice (.int .i64))), .dat (.slice (.int .i64)), .dat (.slice (.int .i64)), .dat (.int .i64), .dat (.int .i64), .dat (.int .i64), .dat (.int .i64), .dat (.int .i64)], .sl (.int .i64), .mat (.int .i64)], []⟩
def simpl_OverLimits_l0x0 : LS := ⟨[(6, .one (.fix (.sref 0)))], [.sl (.int .i64)], []⟩
def ximpl_OverLimits_l0 : List (XS (Int × (List (List Int)) × (List Int) × (List Int) × Int × Int × Int × Int × Int × (List (List Int)))) := [⟨.exit 0, ⟨[6], [.slot 6], [], []⟩, simpl_OverLimits_l0x0, List Int, fun i y => (((), ()), (y, ()))⟩]
def impl_OverLimits_l0K {R : Type} (a0 : Int) (a5 : Int) (a6 : Int) (a11 : List (List Int)) (rc : Int → List Int → Option R) (fin : List Int → Option R) (a1 : Int) (a10 : List Int) : Option R :=
  cond (decide (a1 < a0))
  (cond (decide ((0 : Int) ≤ a1) && decide (a1 < (a11.length : Int)))
    (cond (decide ((0 : Int) < ((a11.getD (0 + a1.toNat) []).length : Int)))
      (cond (decide (((a11.getD (0 + a1.toNat) []).getD (0 + 0) 0) > a5))
        (cond (decide (a10.length + [a1].length ≤ 1099511627776))
          (rc (IntKind.i64.wrap (a1 + 1)) (a10 ++ [a1]))
          (none))
        (cond (decide ((1 : Int) < ((a11.getD (0 + a1.toNat) []).length : Int)))
          (cond (decide (((a11.getD (0 + a1.toNat) []).getD (0 + 1) 0) > a6))
            (cond (decide (a10.length + [a1].length ≤ 1099511627776))
              (rc (IntKind.i64.wrap (a1 + 1)) (a10 ++ [a1]))
              (none))
            (rc (IntKind.i64.wrap (a1 + 1)) a10))
          (none)))
      (none))
    (none))
  (fin a10)
def impl_OverLimits_l0F (a0 : Int) (a5 : Int) (a6 : Int) (a11 : List (List Int)) (r : (Int × (List Int)) → Option (List Int)) (x : Int × (List Int)) : Option (List Int) := impl_OverLimits_l0K a0 a5 a6 a11 (fun a1 a10 => r (a1, a10)) some x.1 x.2
theorem impl_OverLimits_l0c (a0 : Int) (a5 : Int) (a6 : Int) (a11 : List (List Int)) (x : Int × (List Int)) : Ct fun r => impl_OverLimits_l0F a0 a5 a6 a11 r x := by
  unfold impl_OverLimits_l0F impl_OverLimits_l0K
  repeat' (first | exact Ct.const | exact Ct.call | refine Ct.cond ?_ ?_ | refine Ct.bind ?_ fun _ => ?_ | refine Ct.sum (fun _ => ?_) fun _ => ?_)
def impl_OverLimits_l0 (a0 : Int) (a5 : Int) (a6 : Int) (a11 : List (List Int)) (a1 : Int) (a10 : List Int) : Option (List Int) := lim (impl_OverLimits_l0F a0 a5 a6 a11) (a1, a10)
theorem impl_OverLimits_l0_eq (a0 : Int) (a5 : Int) (a6 : Int) (a11 : List (List Int)) (a1 : Int) (a10 : List Int) : impl_OverLimits_l0 a0 a5 a6 a11 a1 a10 = impl_OverLimits_l0K a0 a5 a6 a11 (impl_OverLimits_l0 a0 a5 a6 a11) some a1 a10 := lim_eq (impl_OverLimits_l0c a0 a5 a6 a11) (a1, a10)
theorem impl_OverLimits_l0p {R : Type} (a0 : Int) (a5 : Int) (a6 : Int) (a11 : List (List Int)) {rc : Int → List Int → Option (List Int)} {rc' : Int → List Int → Option R} {fin : List Int → Option R} (hr : ∀ a1 a10, Par fin (rc a1 a10) (rc' a1 a10)) (a1 : Int) (a10 : List Int) : Par fin (impl_OverLimits_l0K a0 a5 a6 a11 rc some a1 a10) (impl_OverLimits_l0K a0 a5 a6 a11 rc' fin a1 a10) := by
  unfold impl_OverLimits_l0K
  repeat' (first | exact .fin | exact .none | exact hr _ _ | refine .cond ?_ ?_ | refine .bind fun _ => ?_ | refine .sum (fun _ => ?_) fun _ => ?_)
def Limpl_OverLimits_l0 : Loop := mkL ⟨[2, 6, 21, 22, 23], [.slot 2, .slot 6, .slot 21], [], []⟩ simpl_OverLimits_l0 ximpl_OverLimits_l0 (fun (x : (Unit × Unit × Unit × Int × Int × Unit) × (((List (List Int)) × (List Int) × (List Int) × Int × Int × Int × Int × Int × Unit) × (List Int) × (List (List Int)) × Unit)) => (x.1.2.2.2.1, (x.2.1.1, (x.2.1.2.1, (x.2.1.2.2.1, (x.2.1.2.2.2.1, (x.2.1.2.2.2.2.1, (x.2.1.2.2.2.2.2.1, (x.2.1.2.2.2.2.2.2.1, (x.2.1.2.2.2.2.2.2.2.1, x.2.2.2.1)))))))))) fun (x : (Unit × Unit × Unit × Int × Int × Unit) × (((List (List Int)) × (List Int) × (List Int) × Int × Int × Int × Int × Int × Unit) × (List Int) × (List (List Int)) × Unit)) => impl_OverLimits_l0 x.1.2.2.2.1 x.2.1.2.2.2.1 x.2.1.2.2.2.2.1 x.2.2.2.1 x.1.2.2.2.2.1 x.2.2.1
def impl_OverLimitsK {R : Type} (fin : (List Int) × Bool → Option R) (x0 : DJob) (x1 : DPlan) : Option R :=
  (impl_IsJob x0).bind fun y1 =>
  cond (!y1)
  (fin ([], false))
  ((impl_isPlan x0 x1).bind fun y2 =>
    cond (!y2)
    (fin ([], false))
    ((impl_tonnesIn x0 x1).bind fun y3 =>
      (impl_OverLimits_l0 (y3.length : Int) x0.2.2.2.1.1 x0.2.2.2.1.2.1 y3 0 []).bind fun y4 =>
      fin (y4, true)))
def impl_OverLimits (x0 : DJob) (x1 : DPlan) : Option ((List Int) × Bool) := impl_OverLimitsK some x0 x1
theorem p42 {R : Type} (fin : (List Int) × Bool → Option R) (x0 : DJob) (x1 : DPlan) : Par fin (impl_OverLimitsK some x0 x1) (impl_OverLimitsK fin x0 x1) := by
  unfold impl_OverLimitsK
  repeat' (first | exact .fin | exact .none | refine .cond ?_ ?_ | refine .bind fun _ => ?_ | refine .sum (fun _ => ?_) fun _ => ?_)
def or42 : Ora := { lo := addL 5 (Limpl_OverLimits_l0) lo0, fin := [.own (.slot 4) (.int .i64)] }
theorem impl_OverLimits_l0e (a0 : Int) (a2 : List (List Int)) (a3 : List Int) (a4 : List Int) (a5 : Int) (a6 : Int) (a7 : Int) (a8 : Int) (a9 : Int) (a11 : List (List Int)) (k : Nat) (a1 : Int) (a10 : List Int) : loopC Try.prog EL42 or42 ((loopsIn (codeOf Try.f42)).getD 0 .skip) (Limpl_OverLimits_l0).h (Limpl_OverLimits_l0).ho Try.f42.ntmps (k + 1) (simpl_OverLimits_l0.out (((), ((), ((), (a0, (a1, ()))))), ((a2, (a3, (a4, (a5, (a6, (a7, (a8, (a9, ())))))))), (a10, (a11, ()))))) =
    impl_OverLimits_l0K a0 a5 a6 a11 (fun a1 a10 => loopC Try.prog EL42 or42 ((loopsIn (codeOf Try.f42)).getD 0 .skip) (Limpl_OverLimits_l0).h (Limpl_OverLimits_l0).ho Try.f42.ntmps k (simpl_OverLimits_l0.out (((), ((), ((), (a0, (a1, ()))))), ((a2, (a3, (a4, (a5, (a6, (a7, (a8, (a9, ())))))))), (a10, (a11, ())))))) (fun y => some (XS.out ximpl_OverLimits_l0 (a0, (a2, (a3, (a4, (a5, (a6, (a7, (a8, (a9, a11))))))))) y)) a1 a10 := by kernel_rfl
theorem impl_OverLimits_l0o : LoopOk Try.prog EL42 or42 Try.f42.ntmps ((loopsIn (codeOf Try.f42)).getD 0 .skip) (Limpl_OverLimits_l0) :=
  loop_lim (hs := simpl_OverLimits_l0) (xs := ximpl_OverLimits_l0) (ι := fun (x : (Unit × Unit × Unit × Int × Int × Unit) × (((List (List Int)) × (List Int) × (List Int) × Int × Int × Int × Int × Int × Unit) × (List Int) × (List (List Int)) × Unit)) => (x.1.2.2.2.1, (x.2.1.1, (x.2.1.2.1, (x.2.1.2.2.1, (x.2.1.2.2.2.1, (x.2.1.2.2.2.2.1, (x.2.1.2.2.2.2.2.1, (x.2.1.2.2.2.2.2.2.1, (x.2.1.2.2.2.2.2.2.2.1, x.2.2.2.1)))))))))) (φ := fun (x : (Unit × Unit × Unit × Int × Int × Unit) × (((List (List Int)) × (List Int) × (List Int) × Int × Int × Int × Int × Int × Unit) × (List Int) × (List (List Int)) × Unit)) => (x.1.2.2.2.2.1, x.2.2.1)) (ψ := fun (i : Int × (List (List Int)) × (List Int) × (List Int) × Int × Int × Int × Int × Int × (List (List Int))) (v : Int × (List Int)) => (((), ((), ((), (i.1, (v.1, ()))))), ((i.2.1, (i.2.2.1, (i.2.2.2.1, (i.2.2.2.2.1, (i.2.2.2.2.2.1, (i.2.2.2.2.2.2.1, (i.2.2.2.2.2.2.2.1, (i.2.2.2.2.2.2.2.2.1, ())))))))), (v.2, (i.2.2.2.2.2.2.2.2.2, ()))))) (F := fun (i : Int × (List (List Int)) × (List Int) × (List Int) × Int × Int × Int × Int × Int × (List (List Int))) => impl_OverLimits_l0F i.1 i.2.2.2.2.1 i.2.2.2.2.2.1 i.2.2.2.2.2.2.2.2.2) (fun _ => rfl) fun i k hk v => Par.of_eq (impl_OverLimits_l0e i.1 i.2.1 i.2.2.1 i.2.2.2.1 i.2.2.2.2.1 i.2.2.2.2.2.1 i.2.2.2.2.2.2.1 i.2.2.2.2.2.2.2.1 i.2.2.2.2.2.2.2.2.1 i.2.2.2.2.2.2.2.2.2 k v.1 v.2) (impl_OverLimits_l0p i.1 i.2.2.2.2.1 i.2.2.2.2.2.1 i.2.2.2.2.2.2.2.2.2 (fun a1 a10 => hk (a1, a10)) v.1 v.2)
def c42 : Callee := mkC [.agg [.ro TJob], .agg [.ro TPlan]] 2 [.one (.sl (.int .i64)), .one (.ro .bool)] fun x => impl_OverLimits x.1 x.2
theorem e42 (x : PK.dens [.agg [.ro TJob], .agg [.ro TPlan]]) : evalFn Try.prog EL42 or42 Try.f42 (PK.outs [.agg [.ro TJob], .agg [.ro TPlan]] x) =
    impl_OverLimitsK (fun y => some (tupOf ((PK.outs [.one (.sl (.int .i64)), .one (.ro .bool)] y).take 2), (PK.outs [.one (.sl (.int .i64)), .one (.ro .bool)] y).drop 2)) x.1 x.2 := by kernel_rfl
theorem o42 : LoOk Try.prog EL42 or42 Try.f42.ntmps (loopsIn (codeOf Try.f42)) :=
  LoOk.mk (m := 1) (by kernel_rfl) fun i hi => match i, hi with
    | 0, _ => ⟨Limpl_OverLimits_l0, by kernel_rfl, impl_OverLimits_l0o⟩
    | i + 1, hi => absurd hi (by omega)
theorem k42 : CalleeOk Try.prog 42 c42 := callee_mk Try.func42 (code := codeOf Try.f42) (by kernel_rfl) vL42 mixed o42 fun x y h => (e42 x).trans (p42 _ x.1 x.2 y h)

/-- laws.FnPlanBound -/
def EL12 : Nat → Option Callee := addE 23 c23 (addE 42 c42 (addE 41 c41 (addE 40 c40 (addE 31 c31 (addE 32 c32 env0)))))
theorem vL12 : EnvOk Try.prog EL12 := (((((EnvOk.nil.add Try.func32 rfl (by kernel_rfl) k32).add Try.func31 rfl (by kernel_rfl) k31).add Try.func40 rfl (by kernel_rfl) k40).add Try.func41 rfl (by kernel_rfl) k41).add Try.func42 rfl (by kernel_rfl) k42).add Try.func23 rfl (by kernel_rfl) k23
def laws_FnPlanBoundK {R : Type} (fin : Bool → Option R) (x0 : DJob) (x1 : Int) (x2 : DPlan) : Option R :=
  cond (decide ((x2.2.1.length : Int) > 65536))
  (fin true)
  (cond (decide ((x0.1.length : Int) > 65536))
    (fin true)
    ((impl_SearchPlan x0 x1).bind fun y1 =>
      (spec_SearchPlan x0 x1).bind fun y2 =>
      cond (!(y1.2.2.2 == y2.2.2.2))
      (fin false)
      ((laws_pSamePlan (y1.1.1, (y1.1.2, ())) (y2.1.1, (y2.1.2, ()))).bind fun y3 =>
        cond (!y3)
        (fin false)
        (cond (y1.2.1 != y2.2.1)
          (fin false)
          (cond (y1.2.2.1 != y2.2.2.1)
            (fin false)
            (cond (!y1.2.2.2)
              (fin true)
              ((impl_OrderFaults x0 (y1.1.1, (y1.1.2, ()))).bind fun y4 =>
                (impl_OverLimits x0 (y1.1.1, (y1.1.2, ()))).bind fun y5 =>
                (impl_ScaledWorth x0 (y1.1.1, (y1.1.2, ()))).bind fun y6 =>
                cond (!y4.2)
                (fin false)
                (cond ((y4.1.length : Int) != 0)
                  (fin false)
                  (cond (!y5.2)
                    (fin false)
                    (cond ((y5.1.length : Int) != 0)
                      (fin false)
                      (cond (!y6.2)
                        (fin false)
                        (cond (y6.1 != y1.2.1)
                          (fin false)
                          (cond (decide (y1.2.1 > y1.2.2.1))
                            (fin false)
                            ((impl_OrderFaults x0 x2).bind fun y7 =>
                              (impl_OverLimits x0 x2).bind fun y8 =>
                              (impl_ScaledWorth x0 x2).bind fun y9 =>
                              cond (!y7.2)
                              (fin true)
                              (cond (!y8.2)
                                (fin true)
                                (cond (!y9.2)
                                  (fin true)
                                  (cond ((y7.1.length : Int) != 0)
                                    (fin true)
                                    (cond ((y8.1.length : Int) != 0)
                                      (fin true)
                                      (fin (decide (y9.1 ≤ y1.2.2.1)))))))))))))))))))))
def laws_FnPlanBound (x0 : DJob) (x1 : Int) (x2 : DPlan) : Option (Bool) := laws_FnPlanBoundK some x0 x1 x2
theorem p12 {R : Type} (fin : Bool → Option R) (x0 : DJob) (x1 : Int) (x2 : DPlan) : Par fin (laws_FnPlanBoundK some x0 x1 x2) (laws_FnPlanBoundK fin x0 x1 x2) := by
  unfold laws_FnPlanBoundK
  repeat' (first | exact .fin | exact .none | refine .cond ?_ ?_ | refine .bind fun _ => ?_ | refine .sum (fun _ => ?_) fun _ => ?_)
def c12 : Callee := mkC [.agg [.ro TJob], .one (.ro (.int .i64)), .agg [.ro TPlan]] 1 [.one (.ro .bool)] fun x => laws_FnPlanBound x.1 x.2.1 x.2.2
theorem e12 (x : PK.dens [.agg [.ro TJob], .one (.ro (.int .i64)), .agg [.ro TPlan]]) : evalFn Try.prog EL12 or0 Try.f12 (PK.outs [.agg [.ro TJob], .one (.ro (.int .i64)), .agg [.ro TPlan]] x) =
    laws_FnPlanBoundK (fun y => some (tupOf ((PK.outs [.one (.ro .bool)] y).take 1), (PK.outs [.one (.ro .bool)] y).drop 1)) x.1 x.2.1 x.2.2 := by kernel_rfl
theorem k12 : CalleeOk Try.prog 12 c12 := callee_mk Try.func12 (code := codeOf Try.f12) (by kernel_rfl) vL12 mixed (LoOk.nil (by kernel_rfl)) fun x y h => (e12 x).trans (p12 _ x.1 x.2.1 x.2.2 y h)
end
end Go.OAI
