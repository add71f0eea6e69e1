/- Contracts: GM. -/
import Derived.Test.YtnmeejeedfeolaaGA
namespace Go.OAI
open Go.Proofs
set_option linter.unusedVariables false
noncomputable section


/-- impl.areMultipliers -/
def EL71 : Nat → Option Callee := env0
theorem vL71 : EnvOk Try.prog EL71 := EnvOk.nil
def simpl_areMultipliers_l0 : LS := ⟨[(12, .one (.dat (.slice (.int .i64)))), (13, .one (.dat (.int .i64))), (14, .one (.dat (.int .i64)))], [], []⟩
def simpl_areMultipliers_l0x0 : LS := ⟨[(4, .one (.dat .bool))], [], []⟩
def simpl_areMultipliers_l0x1 : LS := ⟨[], [], []⟩
def ximpl_areMultipliers_l0 : List (XS ((List Int) × Int)) := [⟨.ret, ⟨[4], [], [], []⟩, simpl_areMultipliers_l0x0, Bool, fun i y => ((y, ()), ())⟩,
  ⟨.exit 0, ⟨[], [], [], []⟩, simpl_areMultipliers_l0x1, Unit, fun i y => ((), ())⟩]
def impl_areMultipliers_l0K {R : Type} (a0 : List Int) (a1 : Int) (rc : Int → Option R) (fin : (Bool ⊕ Unit) → Option R) (a2 : Int) : Option R :=
  cond (decide (a2 < a1))
  ((lat a0 a2).bind fun e1 =>
    cond (decide (e1 < 0))
    (fin (.inl false))
    (cond (decide (e1 > 1000000000))
      (fin (.inl false))
      (rc (IntKind.i64.wrap (a2 + 1)))))
  (fin (.inr ()))
def impl_areMultipliers_l0F (a0 : List Int) (a1 : Int) (r : Int → Option (Bool ⊕ Unit)) (x : Int) : Option (Bool ⊕ Unit) := impl_areMultipliers_l0K a0 a1 (fun a2 => r a2) some x
theorem impl_areMultipliers_l0c (a0 : List Int) (a1 : Int) (x : Int) : Ct fun r => impl_areMultipliers_l0F a0 a1 r x := by
  unfold impl_areMultipliers_l0F impl_areMultipliers_l0K
  repeat' (first | exact Ct.const | exact Ct.call | refine Ct.cond ?_ ?_ | refine Ct.bind ?_ fun _ => ?_ | refine Ct.sum (fun _ => ?_) fun _ => ?_)
def impl_areMultipliers_l0 (a0 : List Int) (a1 : Int) (a2 : Int) : Option (Bool ⊕ Unit) := lim (impl_areMultipliers_l0F a0 a1) a2
theorem impl_areMultipliers_l0_eq (a0 : List Int) (a1 : Int) (a2 : Int) : impl_areMultipliers_l0 a0 a1 a2 = impl_areMultipliers_l0K a0 a1 (impl_areMultipliers_l0 a0 a1) some a2 := lim_eq (impl_areMultipliers_l0c a0 a1) a2
theorem impl_areMultipliers_l0p {R : Type} (a0 : List Int) (a1 : Int) {rc : Int → Option (Bool ⊕ Unit)} {rc' : Int → Option R} {fin : (Bool ⊕ Unit) → Option R} (hr : ∀ a2, Par fin (rc a2) (rc' a2)) (a2 : Int) : Par fin (impl_areMultipliers_l0K a0 a1 rc some a2) (impl_areMultipliers_l0K a0 a1 rc' fin a2) := by
  unfold impl_areMultipliers_l0K
  repeat' (first | exact .fin | exact .none | exact hr _ | refine .cond ?_ ?_ | refine .bind fun _ => ?_ | refine .sum (fun _ => ?_) fun _ => ?_)
def Limpl_areMultipliers_l0 : Loop := mkL ⟨[12, 13, 14], [], [], []⟩ simpl_areMultipliers_l0 ximpl_areMultipliers_l0 (fun (x : ((List Int) × Int × Int × Unit) × (Unit)) => (x.1.1, x.1.2.1)) fun (x : ((List Int) × Int × Int × Unit) × (Unit)) => impl_areMultipliers_l0 x.1.1 x.1.2.1 x.1.2.2.1
def impl_areMultipliersK {R : Type} (fin : Bool → Option R) (x0 : DJob) (x1 : List Int) : Option R :=
  cond ((x1.length : Int) != x0.2.2.2.2.1)
  (fin false)
  ((impl_areMultipliers_l0 x1 (x1.length : Int) 0).bind fun y2 =>
    sumO y2 (fun y3 =>
    fin y3)
    (fun y4 =>
    fin true))
def impl_areMultipliers (x0 : DJob) (x1 : List Int) : Option (Bool) := impl_areMultipliersK some x0 x1
theorem p71 {R : Type} (fin : Bool → Option R) (x0 : DJob) (x1 : List Int) : Par fin (impl_areMultipliersK some x0 x1) (impl_areMultipliersK fin x0 x1) := by
  unfold impl_areMultipliersK
  repeat' (first | exact .fin | exact .none | refine .cond ?_ ?_ | refine .bind fun _ => ?_ | refine .sum (fun _ => ?_) fun _ => ?_)
def or71 : Ora := { lo := addL 4 (Limpl_areMultipliers_l0) lo0, fin := [] }
theorem impl_areMultipliers_l0e (a0 : List Int) (a1 : Int) (k : Nat) (a2 : Int) : loopC Try.prog EL71 or71 ((loopsIn (codeOf Try.f71)).getD 0 .skip) (Limpl_areMultipliers_l0).h (Limpl_areMultipliers_l0).ho Try.f71.ntmps (k + 1) (simpl_areMultipliers_l0.out ((a0, (a1, (a2, ()))), ())) =
    impl_areMultipliers_l0K a0 a1 (fun a2 => loopC Try.prog EL71 or71 ((loopsIn (codeOf Try.f71)).getD 0 .skip) (Limpl_areMultipliers_l0).h (Limpl_areMultipliers_l0).ho Try.f71.ntmps k (simpl_areMultipliers_l0.out ((a0, (a1, (a2, ()))), ()))) (fun y => some (XS.out ximpl_areMultipliers_l0 (a0, a1) y)) a2 := by kernel_rfl
theorem impl_areMultipliers_l0o : LoopOk Try.prog EL71 or71 Try.f71.ntmps ((loopsIn (codeOf Try.f71)).getD 0 .skip) (Limpl_areMultipliers_l0) :=
  loop_lim (hs := simpl_areMultipliers_l0) (xs := ximpl_areMultipliers_l0) (ι := fun (x : ((List Int) × Int × Int × Unit) × (Unit)) => (x.1.1, x.1.2.1)) (φ := fun (x : ((List Int) × Int × Int × Unit) × (Unit)) => x.1.2.2.1) (ψ := fun (i : (List Int) × Int) (v : Int) => ((i.1, (i.2, (v, ()))), ())) (F := fun (i : (List Int) × Int) => impl_areMultipliers_l0F i.1 i.2) (fun _ => rfl) fun i k hk v => Par.of_eq (impl_areMultipliers_l0e i.1 i.2 k v) (impl_areMultipliers_l0p i.1 i.2 (fun a2 => hk a2) v)
def c71 : Callee := mkC [.agg [.ro TJob], .one (.ro (.slice (.int .i64)))] 1 [.one (.ro .bool)] fun x => impl_areMultipliers x.1 x.2
theorem e71 (x : PK.dens [.agg [.ro TJob], .one (.ro (.slice (.int .i64)))]) : evalFn Try.prog EL71 or71 Try.f71 (PK.outs [.agg [.ro TJob], .one (.ro (.slice (.int .i64)))] x) =
    impl_areMultipliersK (fun y => some (tupOf ((PK.outs [.one (.ro .bool)] y).take 1), (PK.outs [.one (.ro .bool)] y).drop 1)) x.1 x.2 := by kernel_rfl
theorem o71 : LoOk Try.prog EL71 or71 Try.f71.ntmps (loopsIn (codeOf Try.f71)) :=
  LoOk.mk (m := 1) (by kernel_rfl) fun i hi => match i, hi with
    | 0, _ => ⟨Limpl_areMultipliers_l0, by kernel_rfl, impl_areMultipliers_l0o⟩
    | i + 1, hi => absurd hi (by omega)
theorem k71 : CalleeOk Try.prog 71 c71 := callee_mk Try.func71 (code := codeOf Try.f71) (by kernel_rfl) vL71 mixed o71 fun x y h => (e71 x).trans (p71 _ x.1 x.2 y h)

/-- spec.reGood -/
def EL67 : Nat → Option Callee := addE 98 c98 (addE 66 c66 env0)
theorem vL67 : EnvOk Try.prog EL67 := (EnvOk.nil.add Try.func66 rfl (by kernel_rfl) k66).add Try.func98 rfl (by kernel_rfl) k98
def spec_reGoodK {R : Type} (fin : Bool → Option R) (x0 : DJob) (x1 : List Int) : Option R :=
  (spec_plJob x0).bind fun y1 =>
  cond (y1)
  (cond ((x1.length : Int) == x0.2.2.2.2.1)
    ((spec_l1All x1 0 1000000000).bind fun y2 =>
      fin y2)
    (fin false))
  (fin false)
def spec_reGood (x0 : DJob) (x1 : List Int) : Option (Bool) := spec_reGoodK some x0 x1
theorem p67 {R : Type} (fin : Bool → Option R) (x0 : DJob) (x1 : List Int) : Par fin (spec_reGoodK some x0 x1) (spec_reGoodK fin x0 x1) := by
  unfold spec_reGoodK
  repeat' (first | exact .fin | exact .none | refine .cond ?_ ?_ | refine .bind fun _ => ?_ | refine .sum (fun _ => ?_) fun _ => ?_)
def c67 : Callee := mkC [.agg [.ro TJob], .one (.ro (.slice (.int .i64)))] 1 [.one (.ro .bool)] fun x => spec_reGood x.1 x.2
theorem e67 (x : PK.dens [.agg [.ro TJob], .one (.ro (.slice (.int .i64)))]) : evalFn Try.prog EL67 or0 Try.f67 (PK.outs [.agg [.ro TJob], .one (.ro (.slice (.int .i64)))] x) =
    spec_reGoodK (fun y => some (tupOf ((PK.outs [.one (.ro .bool)] y).take 1), (PK.outs [.one (.ro .bool)] y).drop 1)) x.1 x.2 := by kernel_rfl
theorem k67 : CalleeOk Try.prog 67 c67 := callee_mk Try.func67 (code := codeOf Try.f67) (by kernel_rfl) vL67 mixed (LoOk.nil (by kernel_rfl)) fun x y h => (e67 x).trans (p67 _ x.1 x.2 y h)
end
end Go.OAI
