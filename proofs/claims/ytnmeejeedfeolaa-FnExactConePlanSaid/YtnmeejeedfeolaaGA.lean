/- Contracts: GA. -/
import Derived.Test.YtnmeejeedfeolaaK3
import Derived.Test.YtnmeejeedfeolaaProg
namespace Go.OAI
open Go.Proofs
set_option linter.unusedVariables false
noncomputable section

@[reducible] def TLimits : Ty := .pair (.int .i64) (.pair (.int .i64) .unit)
abbrev DLimits : Type := Int × Int × Unit
@[reducible] def TJob : Ty := .pair (.slice (.slice (.int .i64))) (.pair (.slice (.int .i64)) (.pair (.slice (.int .i64)) (.pair TLimits (.pair (.int .i64) (.pair (.int .i64) (.pair (.int .i64) .unit))))))
abbrev DJob : Type := (List (List Int)) × (List Int) × (List Int) × DLimits × Int × Int × Int × Unit
@[reducible] def TPlan : Ty := .pair (.int .i64) (.pair (.slice (.int .i64)) .unit)
abbrev DPlan : Type := Int × (List Int) × Unit
def or0 : Ora := { lo := fun _ => none }
theorem mixed : Try.prog.follows .mixedOrders = true := by kernel_rfl

/-- laws.szIntS -/
def EL65 : Nat → Option Callee := env0
theorem vL65 : EnvOk Try.prog EL65 := EnvOk.nil
def laws_szIntSK {R : Type} (fin : Int → Option R) (x0 : List Int) (x1 : Int) : Option R :=
  cond (decide ((IntKind.i64.wrap (x1 - (x0.length : Int))) < 0))
  (fin (-1))
  (fin (IntKind.i64.wrap (x1 - (x0.length : Int))))
def laws_szIntS (x0 : List Int) (x1 : Int) : Option (Int) := laws_szIntSK some x0 x1
theorem p65 {R : Type} (fin : Int → Option R) (x0 : List Int) (x1 : Int) : Par fin (laws_szIntSK some x0 x1) (laws_szIntSK fin x0 x1) := by
  unfold laws_szIntSK
  repeat' (first | exact .fin | exact .none | refine .cond ?_ ?_ | refine .bind fun _ => ?_ | refine .sum (fun _ => ?_) fun _ => ?_)
def c65 : Callee := mkC [.one (.ro (.slice (.int .i64))), .one (.ro (.int .i64))] 1 [.one (.ro (.int .i64))] fun x => laws_szIntS x.1 x.2
theorem e65 (x : PK.dens [.one (.ro (.slice (.int .i64))), .one (.ro (.int .i64))]) : evalFn Try.prog EL65 or0 Try.f65 (PK.outs [.one (.ro (.slice (.int .i64))), .one (.ro (.int .i64))] x) =
    laws_szIntSK (fun y => some (tupOf ((PK.outs [.one (.ro (.int .i64))] y).take 1), (PK.outs [.one (.ro (.int .i64))] y).drop 1)) x.1 x.2 := by kernel_rfl
theorem k65 : CalleeOk Try.prog 65 c65 := callee_mk Try.func65 (code := codeOf Try.f65) (by kernel_rfl) vL65 mixed (LoOk.nil (by kernel_rfl)) fun x y h => (e65 x).trans (p65 _ x.1 x.2 y h)

/-- laws.szIntSS -/
def EL64 : Nat → Option Callee := addE 65 c65 env0
theorem vL64 : EnvOk Try.prog EL64 := EnvOk.nil.add Try.func65 rfl (by kernel_rfl) k65
def slaws_szIntSS_l0 : LS := ⟨[(0, .one (.dat (.slice (.slice (.int .i64))))), (1, .one (.dat (.int .i64))), (5, .one (.dat (.int .i64)))], [], []⟩
def slaws_szIntSS_l0x0 : LS := ⟨[(4, .one (.dat (.int .i64)))], [], []⟩
def slaws_szIntSS_l0x1 : LS := ⟨[(1, .one (.dat (.int .i64)))], [], []⟩
def xlaws_szIntSS_l0 : List (XS (List (List Int))) := [⟨.ret, ⟨[4], [], [], []⟩, slaws_szIntSS_l0x0, Int, fun i y => ((y, ()), ())⟩,
  ⟨.exit 0, ⟨[1], [], [], []⟩, slaws_szIntSS_l0x1, Int, fun i y => ((y, ()), ())⟩]
def laws_szIntSS_l0K {R : Type} (a0 : List (List Int)) (rc : Int → Int → Option R) (fin : (Int ⊕ Int) → Option R) (a1 : Int) (a2 : Int) : Option R :=
  cond (decide (a2 < (a0.length : Int)))
  ((lat a0 a2).bind fun e1 =>
    (laws_szIntS e1 a1).bind fun y2 =>
    cond (decide (y2 < 0))
    (fin (.inl (-1)))
    (rc y2 (IntKind.i64.wrap (a2 + 1))))
  (fin (.inr a1))
def laws_szIntSS_l0F (a0 : List (List Int)) (r : (Int × Int) → Option (Int ⊕ Int)) (x : Int × Int) : Option (Int ⊕ Int) := laws_szIntSS_l0K a0 (fun a1 a2 => r (a1, a2)) some x.1 x.2
theorem laws_szIntSS_l0c (a0 : List (List Int)) (x : Int × Int) : Ct fun r => laws_szIntSS_l0F a0 r x := by
  unfold laws_szIntSS_l0F laws_szIntSS_l0K
  repeat' (first | exact Ct.const | exact Ct.call | refine Ct.cond ?_ ?_ | refine Ct.bind ?_ fun _ => ?_ | refine Ct.sum (fun _ => ?_) fun _ => ?_)
def laws_szIntSS_l0 (a0 : List (List Int)) (a1 : Int) (a2 : Int) : Option (Int ⊕ Int) := lim (laws_szIntSS_l0F a0) (a1, a2)
theorem laws_szIntSS_l0_eq (a0 : List (List Int)) (a1 : Int) (a2 : Int) : laws_szIntSS_l0 a0 a1 a2 = laws_szIntSS_l0K a0 (laws_szIntSS_l0 a0) some a1 a2 := lim_eq (laws_szIntSS_l0c a0) (a1, a2)
theorem laws_szIntSS_l0p {R : Type} (a0 : List (List Int)) {rc : Int → Int → Option (Int ⊕ Int)} {rc' : Int → Int → Option R} {fin : (Int ⊕ Int) → Option R} (hr : ∀ a1 a2, Par fin (rc a1 a2) (rc' a1 a2)) (a1 : Int) (a2 : Int) : Par fin (laws_szIntSS_l0K a0 rc some a1 a2) (laws_szIntSS_l0K a0 rc' fin a1 a2) := by
  unfold laws_szIntSS_l0K
  repeat' (first | exact .fin | exact .none | exact hr _ _ | refine .cond ?_ ?_ | refine .bind fun _ => ?_ | refine .sum (fun _ => ?_) fun _ => ?_)
def Llaws_szIntSS_l0 : Loop := mkL ⟨[0, 1, 5], [], [], []⟩ slaws_szIntSS_l0 xlaws_szIntSS_l0 (fun (x : ((List (List Int)) × Int × Int × Unit) × (Unit)) => x.1.1) fun (x : ((List (List Int)) × Int × Int × Unit) × (Unit)) => laws_szIntSS_l0 x.1.1 x.1.2.1 x.1.2.2.1
def laws_szIntSSK {R : Type} (fin : Int → Option R) (x0 : List (List Int)) (x1 : Int) : Option R :=
  cond (decide ((IntKind.i64.wrap (x1 - (x0.length : Int))) < 0))
  (fin (-1))
  ((laws_szIntSS_l0 x0 (IntKind.i64.wrap (x1 - (x0.length : Int))) 0).bind fun y3 =>
    sumO y3 (fun y4 =>
    fin y4)
    (fun y5 =>
    fin y5))
def laws_szIntSS (x0 : List (List Int)) (x1 : Int) : Option (Int) := laws_szIntSSK some x0 x1
theorem p64 {R : Type} (fin : Int → Option R) (x0 : List (List Int)) (x1 : Int) : Par fin (laws_szIntSSK some x0 x1) (laws_szIntSSK fin x0 x1) := by
  unfold laws_szIntSSK
  repeat' (first | exact .fin | exact .none | refine .cond ?_ ?_ | refine .bind fun _ => ?_ | refine .sum (fun _ => ?_) fun _ => ?_)
def or64 : Ora := { lo := addL 5 (Llaws_szIntSS_l0) lo0, fin := [] }
theorem laws_szIntSS_l0e (a0 : List (List Int)) (k : Nat) (a1 : Int) (a2 : Int) : loopC Try.prog EL64 or64 ((loopsIn (codeOf Try.f64)).getD 0 .skip) (Llaws_szIntSS_l0).h (Llaws_szIntSS_l0).ho Try.f64.ntmps (k + 1) (slaws_szIntSS_l0.out ((a0, (a1, (a2, ()))), ())) =
    laws_szIntSS_l0K a0 (fun a1 a2 => loopC Try.prog EL64 or64 ((loopsIn (codeOf Try.f64)).getD 0 .skip) (Llaws_szIntSS_l0).h (Llaws_szIntSS_l0).ho Try.f64.ntmps k (slaws_szIntSS_l0.out ((a0, (a1, (a2, ()))), ()))) (fun y => some (XS.out xlaws_szIntSS_l0 a0 y)) a1 a2 := by kernel_rfl
theorem laws_szIntSS_l0o : LoopOk Try.prog EL64 or64 Try.f64.ntmps ((loopsIn (codeOf Try.f64)).getD 0 .skip) (Llaws_szIntSS_l0) :=
  loop_lim (hs := slaws_szIntSS_l0) (xs := xlaws_szIntSS_l0) (ι := fun (x : ((List (List Int)) × Int × Int × Unit) × (Unit)) => x.1.1) (φ := fun (x : ((List (List Int)) × Int × Int × Unit) × (Unit)) => (x.1.2.1, x.1.2.2.1)) (ψ := fun (i : List (List Int)) (v : Int × Int) => ((i, (v.1, (v.2, ()))), ())) (F := fun (i : List (List Int)) => laws_szIntSS_l0F i) (fun _ => rfl) fun i k hk v => Par.of_eq (laws_szIntSS_l0e i k v.1 v.2) (laws_szIntSS_l0p i (fun a1 a2 => hk (a1, a2)) v.1 v.2)
def c64 : Callee := mkC [.one (.ro (.slice (.slice (.int .i64)))), .one (.ro (.int .i64))] 1 [.one (.ro (.int .i64))] fun x => laws_szIntSS x.1 x.2
theorem e64 (x : PK.dens [.one (.ro (.slice (.slice (.int .i64)))), .one (.ro (.int .i64))]) : evalFn Try.prog EL64 or64 Try.f64 (PK.outs [.one (.ro (.slice (.slice (.int .i64)))), .one (.ro (.int .i64))] x) =
    laws_szIntSSK (fun y => some (tupOf ((PK.outs [.one (.ro (.int .i64))] y).take 1), (PK.outs [.one (.ro (.int .i64))] y).drop 1)) x.1 x.2 := by kernel_rfl
theorem o64 : LoOk Try.prog EL64 or64 Try.f64.ntmps (loopsIn (codeOf Try.f64)) :=
  LoOk.mk (m := 1) (by kernel_rfl) fun i hi => match i, hi with
    | 0, _ => ⟨Llaws_szIntSS_l0, by kernel_rfl, laws_szIntSS_l0o⟩
    | i + 1, hi => absurd hi (by omega)
theorem k64 : CalleeOk Try.prog 64 c64 := callee_mk Try.func64 (code := codeOf Try.f64) (by kernel_rfl) vL64 mixed o64 fun x y h => (e64 x).trans (p64 _ x.1 x.2 y h)

/-- laws.szJob -/
def EL19 : Nat → Option Callee := addE 65 c65 (addE 64 c64 env0)
theorem vL19 : EnvOk Try.prog EL19 := (EnvOk.nil.add Try.func64 rfl (by kernel_rfl) k64).add Try.func65 rfl (by kernel_rfl) k65
def laws_szJobK {R : Type} (fin : Int → Option R) (x0 : DJob) (x1 : Int) : Option R :=
  (laws_szIntSS x0.1 x1).bind fun y1 =>
  cond (decide (y1 < 0))
  (fin (-1))
  ((laws_szIntS x0.2.1 y1).bind fun y2 =>
    cond (decide (y2 < 0))
    (fin (-1))
    ((laws_szIntS x0.2.2.1 y2).bind fun y3 =>
      cond (decide (y3 < 0))
      (fin (-1))
      (fin y3)))
def laws_szJob (x0 : DJob) (x1 : Int) : Option (Int) := laws_szJobK some x0 x1
theorem p19 {R : Type} (fin : Int → Option R) (x0 : DJob) (x1 : Int) : Par fin (laws_szJobK some x0 x1) (laws_szJobK fin x0 x1) := by
  unfold laws_szJobK
  repeat' (first | exact .fin | exact .none | refine .cond ?_ ?_ | refine .bind fun _ => ?_ | refine .sum (fun _ => ?_) fun _ => ?_)
def c19 : Callee := mkC [.agg [.ro TJob], .one (.ro (.int .i64))] 1 [.one (.ro (.int .i64))] fun x => laws_szJob x.1 x.2
theorem e19 (x : PK.dens [.agg [.ro TJob], .one (.ro (.int .i64))]) : evalFn Try.prog EL19 or0 Try.f19 (PK.outs [.agg [.ro TJob], .one (.ro (.int .i64))] x) =
    laws_szJobK (fun y => some (tupOf ((PK.outs [.one (.ro (.int .i64))] y).take 1), (PK.outs [.one (.ro (.int .i64))] y).drop 1)) x.1 x.2 := by kernel_rfl
theorem k19 : CalleeOk Try.prog 19 c19 := callee_mk Try.func19 (code := codeOf Try.f19) (by kernel_rfl) vL19 mixed (LoOk.nil (by kernel_rfl)) fun x y h => (e19 x).trans (p19 _ x.1 x.2 y h)

/-- laws.szPlan -/
def EL26 : Nat → Option Callee := addE 65 c65 env0
theorem vL26 : EnvOk Try.prog EL26 := EnvOk.nil.add Try.func65 rfl (by kernel_rfl) k65
def laws_szPlanK {R : Type} (fin : Int → Option R) (x0 : DPlan) (x1 : Int) : Option R :=
  (laws_szIntS x0.2.1 x1).bind fun y1 =>
  cond (decide (y1 < 0))
  (fin (-1))
  (fin y1)
def laws_szPlan (x0 : DPlan) (x1 : Int) : Option (Int) := laws_szPlanK some x0 x1
theorem p26 {R : Type} (fin : Int → Option R) (x0 : DPlan) (x1 : Int) : Par fin (laws_szPlanK some x0 x1) (laws_szPlanK fin x0 x1) := by
  unfold laws_szPlanK
  repeat' (first | exact .fin | exact .none | refine .cond ?_ ?_ | refine .bind fun _ => ?_ | refine .sum (fun _ => ?_) fun _ => ?_)
def c26 : Callee := mkC [.agg [.ro TPlan], .one (.ro (.int .i64))] 1 [.one (.ro (.int .i64))] fun x => laws_szPlan x.1 x.2
theorem e26 (x : PK.dens [.agg [.ro TPlan], .one (.ro (.int .i64))]) : evalFn Try.prog EL26 or0 Try.f26 (PK.outs [.agg [.ro TPlan], .one (.ro (.int .i64))] x) =
    laws_szPlanK (fun y => some (tupOf ((PK.outs [.one (.ro (.int .i64))] y).take 1), (PK.outs [.one (.ro (.int .i64))] y).drop 1)) x.1 x.2 := by kernel_rfl
theorem k26 : CalleeOk Try.prog 26 c26 := callee_mk Try.func26 (code := codeOf Try.f26) (by kernel_rfl) vL26 mixed (LoOk.nil (by kernel_rfl)) fun x y h => (e26 x).trans (p26 _ x.1 x.2 y h)

/-- laws.toIntS -/
def EL22 : Nat → Option Callee := env0
theorem vL22 : EnvOk Try.prog EL22 := EnvOk.nil
def slaws_toIntS_l0 : LS := ⟨[(0, .one (.dat (.slice (.int .i64)))), (3, .one (.fix (.sref 0))), (4, .one (.dat (.int .i64)))], [.sl (.int .i64)], []⟩
def slaws_toIntS_l0x0 : LS := ⟨[(3, .one (.fix (.sref 0)))], [.sl (.int .i64)], []⟩
def xlaws_toIntS_l0 : List (XS (List Int)) := [⟨.exit 0, ⟨[3], [.slot 3], [], []⟩, slaws_toIntS_l0x0, List Int, fun i y => (((), ()), (y, ()))⟩]
def laws_toIntS_l0K {R : Type} (a0 : List Int) (rc : Int → List Int → Option R) (fin : List Int → Option R) (a1 : Int) (a2 : List Int) : Option R :=
  cond (decide (a1 < (a0.length : Int)))
  ((lat a0 a1).bind fun e1 =>
    cond (decide ((0 : Int) ≤ a1) && decide (a1 < (a2.length : Int)))
    ((some (a2.set (0 + a1.toNat) e1)).bind fun v2 =>
      rc (IntKind.i64.wrap (a1 + 1)) v2)
    (none))
  (fin a2)
def laws_toIntS_l0F (a0 : List Int) (r : (Int × (List Int)) → Option (List Int)) (x : Int × (List Int)) : Option (List Int) := laws_toIntS_l0K a0 (fun a1 a2 => r (a1, a2)) some x.1 x.2
theorem laws_toIntS_l0c (a0 : List Int) (x : Int × (List Int)) : Ct fun r => laws_toIntS_l0F a0 r x := by
  unfold laws_toIntS_l0F laws_toIntS_l0K
  repeat' (first | exact Ct.const | exact Ct.call | refine Ct.cond ?_ ?_ | refine Ct.bind ?_ fun _ => ?_ | refine Ct.sum (fun _ => ?_) fun _ => ?_)
def laws_toIntS_l0 (a0 : List Int) (a1 : Int) (a2 : List Int) : Option (List Int) := lim (laws_toIntS_l0F a0) (a1, a2)
theorem laws_toIntS_l0_eq (a0 : List Int) (a1 : Int) (a2 : List Int) : laws_toIntS_l0 a0 a1 a2 = laws_toIntS_l0K a0 (laws_toIntS_l0 a0) some a1 a2 := lim_eq (laws_toIntS_l0c a0) (a1, a2)
theorem laws_toIntS_l0p {R : Type} (a0 : List Int) {rc : Int → List Int → Option (List Int)} {rc' : Int → List Int → Option R} {fin : List Int → Option R} (hr : ∀ a1 a2, Par fin (rc a1 a2) (rc' a1 a2)) (a1 : Int) (a2 : List Int) : Par fin (laws_toIntS_l0K a0 rc some a1 a2) (laws_toIntS_l0K a0 rc' fin a1 a2) := by
  unfold laws_toIntS_l0K
  repeat' (first | exact .fin | exact .none | exact hr _ _ | refine .cond ?_ ?_ | refine .bind fun _ => ?_ | refine .sum (fun _ => ?_) fun _ => ?_)
def Llaws_toIntS_l0 : Loop := mkL ⟨[0, 3, 4], [.slot 3], [], []⟩ slaws_toIntS_l0 xlaws_toIntS_l0 (fun (x : ((List Int) × Unit × Int × Unit) × ((List Int) × Unit)) => x.1.1) fun (x : ((List Int) × Unit × Int × Unit) × ((List Int) × Unit)) => laws_toIntS_l0 x.1.1 x.1.2.2.1 x.2.1
def laws_toIntSK {R : Type} (fin : List Int → Option R) (x0 : List Int) : Option R :=
  cond (decide ((0 : Int) ≤ (x0.length : Int)) && (decide ((x0.length : Int) ≤ (x0.length : Int)) && decide ((x0.length : Int) ≤ 1099511627776)))
  ((some ((List.replicate ((x0.length : Int).toNat) 0 : List Int))).bind fun v1 =>
    (laws_toIntS_l0 x0 0 v1).bind fun y4 =>
    fin y4)
  (none)
def laws_toIntS (x0 : List Int) : Option (List Int) := laws_toIntSK some x0
theorem p22 {R : Type} (fin : List Int → Option R) (x0 : List Int) : Par fin (laws_toIntSK some x0) (laws_toIntSK fin x0) := by
  unfold laws_toIntSK
  repeat' (first | exact .fin | exact .none | refine .cond ?_ ?_ | refine .bind fun _ => ?_ | refine .sum (fun _ => ?_) fun _ => ?_)
def or22 : Ora := { lo := addL 3 (Llaws_toIntS_l0) lo0, fin := [] }
theorem laws_toIntS_l0e (a0 : List Int) (k : Nat) (a1 : Int) (a2 : List Int) : loopC Try.prog EL22 or22 ((loopsIn (codeOf Try.f22)).getD 0 .skip) (Llaws_toIntS_l0).h (Llaws_toIntS_l0).ho Try.f22.ntmps (k + 1) (slaws_toIntS_l0.out ((a0, ((), (a1, ()))), (a2, ()))) =
    laws_toIntS_l0K a0 (fun a1 a2 => loopC Try.prog EL22 or22 ((loopsIn (codeOf Try.f22)).getD 0 .skip) (Llaws_toIntS_l0).h (Llaws_toIntS_l0).ho Try.f22.ntmps k (slaws_toIntS_l0.out ((a0, ((), (a1, ()))), (a2, ())))) (fun y => some (XS.out xlaws_toIntS_l0 a0 y)) a1 a2 := by kernel_rfl
theorem laws_toIntS_l0o : LoopOk Try.prog EL22 or22 Try.f22.ntmps ((loopsIn (codeOf Try.f22)).getD 0 .skip) (Llaws_toIntS_l0) :=
  loop_lim (hs := slaws_toIntS_l0) (xs := xlaws_toIntS_l0) (ι := fun (x : ((List Int) × Unit × Int × Unit) × ((List Int) × Unit)) => x.1.1) (φ := fun (x : ((List Int) × Unit × Int × Unit) × ((List Int) × Unit)) => (x.1.2.2.1, x.2.1)) (ψ := fun (i : List Int) (v : Int × (List Int)) => ((i, ((), (v.1, ()))), (v.2, ()))) (F := fun (i : List Int) => laws_toIntS_l0F i) (fun _ => rfl) fun i k hk v => Par.of_eq (laws_toIntS_l0e i k v.1 v.2) (laws_toIntS_l0p i (fun a1 a2 => hk (a1, a2)) v.1 v.2)
def c22 : Callee := mkC [.one (.ro (.slice (.int .i64)))] 1 [.one (.sl (.int .i64))] fun x => laws_toIntS x
theorem e22 (x : PK.dens [.one (.ro (.slice (.int .i64)))]) : evalFn Try.prog EL22 or22 Try.f22 (PK.outs [.one (.ro (.slice (.int .i64)))] x) =
    laws_toIntSK (fun y => some (tupOf ((PK.outs [.one (.sl (.int .i64))] y).take 1), (PK.outs [.one (.sl (.int .i64))] y).drop 1)) x := by kernel_rfl
theorem o22 : LoOk Try.prog EL22 or22 Try.f22.ntmps (loopsIn (codeOf Try.f22)) :=
  LoOk.mk (m := 1) (by kernel_rfl) fun i hi => match i, hi with
    | 0, _ => ⟨Llaws_toIntS_l0, by kernel_rfl, laws_toIntS_l0o⟩
    | i + 1, hi => absurd hi (by omega)
theorem k22 : CalleeOk Try.prog 22 c22 := callee_mk Try.func22 (code := codeOf Try.f22) (by kernel_rfl) vL22 mixed o22 fun x y h => (e22 x).trans (p22 _ x y h)

/-- laws.toIntSS -/
def EL68 : Nat → Option Callee := addE 22 c22 env0
theorem vL68 : EnvOk Try.prog EL68 := EnvOk.nil.add Try.func22 rfl (by kernel_rfl) k22
def slaws_toIntSS_l0 : LS := ⟨[(0, .one (.dat (.slice (.slice (.int .i64))))), (3, .one (.fix (.sref 0))), (4, .one (.dat (.int .i64)))], [.mat (.int .i64)], []⟩
def slaws_toIntSS_l0x0 : LS := ⟨[(3, .one (.fix (.sref 0)))], [.mat (.int .i64)], []⟩
def xlaws_toIntSS_l0 : List (XS (List (List Int))) := [⟨.exit 0, ⟨[3], [.slot 3], [], []⟩, slaws_toIntSS_l0x0, List (List Int), fun i y => (((), ()), (y, ()))⟩]
def laws_toIntSS_l0K {R : Type} (a0 : List (List Int)) (rc : Int → List (List Int) → Option R) (fin : List (List Int) → Option R) (a1 : Int) (a2 : List (List Int)) : Option R :=
  cond (decide (a1 < (a0.length : Int)))
  ((lat a0 a1).bind fun e1 =>
    (laws_toIntS e1).bind fun y2 =>
    cond (decide ((0 : Int) ≤ a1) && decide (a1 < (a2.length : Int)))
    ((some (a2.set (0 + a1.toNat) y2)).bind fun v3 =>
      rc (IntKind.i64.wrap (a1 + 1)) v3)
    (none))
  (fin a2)
def laws_toIntSS_l0F (a0 : List (List Int)) (r : (Int × (List (List Int))) → Option (List (List Int))) (x : Int × (List (List Int))) : Option (List (List Int)) := laws_toIntSS_l0K a0 (fun a1 a2 => r (a1, a2)) some x.1 x.2
theorem laws_toIntSS_l0c (a0 : List (List Int)) (x : Int × (List (List Int))) : Ct fun r => laws_toIntSS_l0F a0 r x := by
  unfold laws_toIntSS_l0F laws_toIntSS_l0K
  repeat' (first | exact Ct.const | exact Ct.call | refine Ct.cond ?_ ?_ | refine Ct.bind ?_ fun _ => ?_ | refine Ct.sum (fun _ => ?_) fun _ => ?_)
def laws_toIntSS_l0 (a0 : List (List Int)) (a1 : Int) (a2 : List (List Int)) : Option (List (List Int)) := lim (laws_toIntSS_l0F a0) (a1, a2)
theorem laws_toIntSS_l0_eq (a0 : List (List Int)) (a1 : Int) (a2 : List (List Int)) : laws_toIntSS_l0 a0 a1 a2 = laws_toIntSS_l0K a0 (laws_toIntSS_l0 a0) some a1 a2 := lim_eq (laws_toIntSS_l0c a0) (a1, a2)
theorem laws_toIntSS_l0p {R : Type} (a0 : List (List Int)) {rc : Int → List (List Int) → Option (List (List Int))} {rc' : Int → List (List Int) → Option R} {fin : List (List Int) → Option R} (hr : ∀ a1 a2, Par fin (rc a1 a2) (rc' a1 a2)) (a1 : Int) (a2 : List (List Int)) : Par fin (laws_toIntSS_l0K a0 rc some a1 a2) (laws_toIntSS_l0K a0 rc' fin a1 a2) := by
  unfold laws_toIntSS_l0K
  repeat' (first | exact .fin | exact .none | exact hr _ _ | refine .cond ?_ ?_ | refine .bind fun _ => ?_ | refine .sum (fun _ => ?_) fun _ => ?_)
def Llaws_toIntSS_l0 : Loop := mkL ⟨[0, 3, 4], [.slot 3], [], []⟩ slaws_toIntSS_l0 xlaws_toIntSS_l0 (fun (x : ((List (List Int)) × Unit × Int × Unit) × ((List (List Int)) × Unit)) => x.1.1) fun (x : ((List (List Int)) × Unit × Int × Unit) × ((List (List Int)) × Unit)) => laws_toIntSS_l0 x.1.1 x.1.2.2.1 x.2.1
def laws_toIntSSK {R : Type} (fin : List (List Int) → Option R) (x0 : List (List Int)) : Option R :=
  cond (decide ((0 : Int) ≤ (x0.length : Int)) && (decide ((x0.length : Int) ≤ (x0.length : Int)) && decide ((x0.length : Int) ≤ 1099511627776)))
  ((some ((List.replicate ((x0.length : Int).toNat) [] : List (List Int)))).bind fun v1 =>
    (laws_toIntSS_l0 x0 0 v1).bind fun y5 =>
    fin y5)
  (none)
def laws_toIntSS (x0 : List (List Int)) : Option (List (List Int)) := laws_toIntSSK some x0
theorem p68 {R : Type} (fin : List (List Int) → Option R) (x0 : List (List Int)) : Par fin (laws_toIntSSK some x0) (laws_toIntSSK fin x0) := by
  unfold laws_toIntSSK
  repeat' (first | exact .fin | exact .none | refine .cond ?_ ?_ | refine .bind fun _ => ?_ | refine .sum (fun _ => ?_) fun _ => ?_)
def or68 : Ora := { lo := addL 3 (Llaws_toIntSS_l0) lo0, fin := [] }
theorem laws_toIntSS_l0e (a0 : List (List Int)) (k : Nat) (a1 : Int) (a2 : List (List Int)) : loopC Try.prog EL68 or68 ((loopsIn (codeOf Try.f68)).getD 0 .skip) (Llaws_toIntSS_l0).h (Llaws_toIntSS_l0).ho Try.f68.ntmps (k + 1) (slaws_toIntSS_l0.out ((a0, ((), (a1, ()))), (a2, ()))) =
    laws_toIntSS_l0K a0 (fun a1 a2 => loopC Try.prog EL68 or68 ((loopsIn (codeOf Try.f68)).getD 0 .skip) (Llaws_toIntSS_l0).h (Llaws_toIntSS_l0).ho Try.f68.ntmps k (slaws_toIntSS_l0.out ((a0, ((), (a1, ()))), (a2, ())))) (fun y => some (XS.out xlaws_toIntSS_l0 a0 y)) a1 a2 := by kernel_rfl
theorem laws_toIntSS_l0o : LoopOk Try.prog EL68 or68 Try.f68.ntmps ((loopsIn (codeOf Try.f68)).getD 0 .skip) (Llaws_toIntSS_l0) :=
  loop_lim (hs := slaws_toIntSS_l0) (xs := xlaws_toIntSS_l0) (ι := fun (x : ((List (List Int)) × Unit × Int × Unit) × ((List (List Int)) × Unit)) => x.1.1) (φ := fun (x : ((List (List Int)) × Unit × Int × Unit) × ((List (List Int)) × Unit)) => (x.1.2.2.1, x.2.1)) (ψ := fun (i : List (List Int)) (v : Int × (List (List Int))) => ((i, ((), (v.1, ()))), (v.2, ()))) (F := fun (i : List (List Int)) => laws_toIntSS_l0F i) (fun _ => rfl) fun i k hk v => Par.of_eq (laws_toIntSS_l0e i k v.1 v.2) (laws_toIntSS_l0p i (fun a1 a2 => hk (a1, a2)) v.1 v.2)
def c68 : Callee := mkC [.one (.ro (.slice (.slice (.int .i64))))] 1 [.one (.mat (.int .i64))] fun x => laws_toIntSS x
theorem e68 (x : PK.dens [.one (.ro (.slice (.slice (.int .i64))))]) : evalFn Try.prog EL68 or68 Try.f68 (PK.outs [.one (.ro (.slice (.slice (.int .i64))))] x) =
    laws_toIntSSK (fun y => some (tupOf ((PK.outs [.one (.mat (.int .i64))] y).take 1), (PK.outs [.one (.mat (.int .i64))] y).drop 1)) x := by kernel_rfl
theorem o68 : LoOk Try.prog EL68 or68 Try.f68.ntmps (loopsIn (codeOf Try.f68)) :=
  LoOk.mk (m := 1) (by kernel_rfl) fun i hi => match i, hi with
    | 0, _ => ⟨Llaws_toIntSS_l0, by kernel_rfl, laws_toIntSS_l0o⟩
    | i + 1, hi => absurd hi (by omega)
theorem k68 : CalleeOk Try.prog 68 c68 := callee_mk Try.func68 (code := codeOf Try.f68) (by kernel_rfl) vL68 mixed o68 fun x y h => (e68 x).trans (p68 _ x y h)

/-- laws.toLimits -/
def EL69 : Nat → Option Callee := env0
theorem vL69 : EnvOk Try.prog EL69 := EnvOk.nil
def laws_toLimitsK {R : Type} (fin : DLimits → Option R) (x0 : DLimits) : Option R :=
  fin x0
def laws_toLimits (x0 : DLimits) : Option (DLimits) := laws_toLimitsK some x0
theorem p69 {R : Type} (fin : DLimits → Option R) (x0 : DLimits) : Par fin (laws_toLimitsK some x0) (laws_toLimitsK fin x0) := by
  unfold laws_toLimitsK
  repeat' (first | exact .fin | exact .none | refine .cond ?_ ?_ | refine .bind fun _ => ?_ | refine .sum (fun _ => ?_) fun _ => ?_)
def c69 : Callee := mkC [.agg [.ro TLimits]] 1 [.agg [.ro TLimits]] fun x => laws_toLimits x
theorem e69 (x : PK.dens [.agg [.ro TLimits]]) : evalFn Try.prog EL69 or0 Try.f69 (PK.outs [.agg [.ro TLimits]] x) =
    laws_toLimitsK (fun y => some (tupOf ((PK.outs [.agg [.ro TLimits]] y).take 1), (PK.outs [.agg [.ro TLimits]] y).drop 1)) x := by kernel_rfl
theorem k69 : CalleeOk Try.prog 69 c69 := callee_mk Try.func69 (code := codeOf Try.f69) (by kernel_rfl) vL69 mixed (LoOk.nil (by kernel_rfl)) fun x y h => (e69 x).trans (p69 _ x y h)

/-- laws.toJob -/
def EL21 : Nat → Option Callee := addE 69 c69 (addE 22 c22 (addE 68 c68 env0))
theorem vL21 : EnvOk Try.prog EL21 := ((EnvOk.nil.add Try.func68 rfl (by kernel_rfl) k68).add Try.func22 rfl (by kernel_rfl) k22).add Try.func69 rfl (by kernel_rfl) k69
def laws_toJobK {R : Type} (fin : (List (List Int)) × (List Int) × (List Int) × Int × Int × Int × Int × Int → Option R) (x0 : DJob) : Option R :=
  (laws_toIntSS x0.1).bind fun y1 =>
  (laws_toIntS x0.2.1).bind fun y2 =>
  (laws_toIntS x0.2.2.1).bind fun y3 =>
  (laws_toLimits x0.2.2.2.1).bind fun y4 =>
  fin (y1, (y2, (y3, (y4.1, (y4.2.1, (x0.2.2.2.2.1, (x0.2.2.2.2.2.1, x0.2.2.2.2.2.2.1)))))))
def laws_toJob (x0 : DJob) : Option ((List (List Int)) × (List Int) × (List Int) × Int × Int × Int × Int × Int) := laws_toJobK some x0
theorem p21 {R : Type} (fin : (List (List Int)) × (List Int) × (List Int) × Int × Int × Int × Int × Int → Option R) (x0 : DJob) : Par fin (laws_toJobK some x0) (laws_toJobK fin x0) := by
  unfold laws_toJobK
  repeat' (first | exact .fin | exact .none | refine .cond ?_ ?_ | refine .bind fun _ => ?_ | refine .sum (fun _ => ?_) fun _ => ?_)
def c21 : Callee := mkC [.agg [.ro TJob]] 1 [.agg [.mat (.int .i64), .sl (.int .i64), .sl (.int .i64), .ro (.int .i64), .ro (.int .i64), .ro (.int .i64), .ro (.int .i64), .ro (.int .i64)]] fun x => laws_toJob x
theorem e21 (x : PK.dens [.agg [.ro TJob]]) : evalFn Try.prog EL21 or0 Try.f21 (PK.outs [.agg [.ro TJob]] x) =
    laws_toJobK (fun y => some (tupOf ((PK.outs [.agg [.mat (.int .i64), .sl (.int .i64), .sl (.int .i64), .ro (.int .i64), .ro (.int .i64), .ro (.int .i64), .ro (.int .i64), .ro (.int .i64)]] y).take 1), (PK.outs [.agg [.mat (.int .i64), .sl (.int .i64), .sl (.int .i64), .ro (.int .i64), .ro (.int .i64), .ro (.int .i64), .ro (.int .i64), .ro (.int .i64)]] y).drop 1)) x := by kernel_rfl
theorem k21 : CalleeOk Try.prog 21 c21 := callee_mk Try.func21 (code := codeOf Try.f21) (by kernel_rfl) vL21 mixed (LoOk.nil (by kernel_rfl)) fun x y h => (e21 x).trans (p21 _ x y h)

/-- laws.toPlan -/
def EL28 : Nat → Option Callee := addE 22 c22 env0
theorem vL28 : EnvOk Try.prog EL28 := EnvOk.nil.add Try.func22 rfl (by kernel_rfl) k22
def laws_toPlanK {R : Type} (fin : Int × (List Int) → Option R) (x0 : DPlan) : Option R :=
  (laws_toIntS x0.2.1).bind fun y1 =>
  fin (x0.1, y1)
def laws_toPlan (x0 : DPlan) : Option (Int × (List Int)) := laws_toPlanK some x0
theorem p28 {R : Type} (fin : Int × (List Int) → Option R) (x0 : DPlan) : Par fin (laws_toPlanK some x0) (laws_toPlanK fin x0) := by
  unfold laws_toPlanK
  repeat' (first | exact .fin | exact .none | refine .cond ?_ ?_ | refine .bind fun _ => ?_ | refine .sum (fun _ => ?_) fun _ => ?_)
def c28 : Callee := mkC [.agg [.ro TPlan]] 1 [.agg [.ro (.int .i64), .sl (.int .i64)]] fun x => laws_toPlan x
theorem e28 (x : PK.dens [.agg [.ro TPlan]]) : evalFn Try.prog EL28 or0 Try.f28 (PK.outs [.agg [.ro TPlan]] x) =
    laws_toPlanK (fun y => some (tupOf ((PK.outs [.agg [.ro (.int .i64), .sl (.int .i64)]] y).take 1), (PK.outs [.agg [.ro (.int .i64), .sl (.int .i64)]] y).drop 1)) x := by kernel_rfl
theorem k28 : CalleeOk Try.prog 28 c28 := callee_mk Try.func28 (code := codeOf Try.f28) (by kernel_rfl) vL28 mixed (LoOk.nil (by kernel_rfl)) fun x y h => (e28 x).trans (p28 _ x y h)

/-- laws.eqIntS -/
def EL25 : Nat → Option Callee := env0
theorem vL25 : EnvOk Try.prog EL25 := EnvOk.nil
def slaws_eqIntS_l0 : LS := ⟨[(0, .one (.dat (.slice (.int .i64)))), (1, .one (.dat (.slice (.int .i64)))), (5, .one (.dat (.int .i64)))], [], []⟩
def slaws_eqIntS_l0x0 : LS := ⟨[(4, .one (.dat .bool))], [], []⟩
def slaws_eqIntS_l0x1 : LS := ⟨[], [], []⟩
def xlaws_eqIntS_l0 : List (XS ((List Int) × (List Int))) := [⟨.ret, ⟨[4], [], [], []⟩, slaws_eqIntS_l0x0, Bool, fun i y => ((y, ()), ())⟩,
  ⟨.exit 0, ⟨[], [], [], []⟩, slaws_eqIntS_l0x1, Unit, fun i y => ((), ())⟩]
def laws_eqIntS_l0K {R : Type} (a0 : List Int) (a1 : List Int) (rc : Int → Option R) (fin : (Bool ⊕ Unit) → Option R) (a2 : Int) : Option R :=
  cond (decide (a2 < (a0.length : Int)))
  ((lat a0 a2).bind fun e1 =>
    (lat a1 a2).bind fun e2 =>
    cond (e1 != e2)
    (fin (.inl false))
    (rc (IntKind.i64.wrap (a2 + 1))))
  (fin (.inr ()))
def laws_eqIntS_l0F (a0 : List Int) (a1 : List Int) (r : Int → Option (Bool ⊕ Unit)) (x : Int) : Option (Bool ⊕ Unit) := laws_eqIntS_l0K a0 a1 (fun a2 => r a2) some x
theorem laws_eqIntS_l0c (a0 : List Int) (a1 : List Int) (x : Int) : Ct fun r => laws_eqIntS_l0F a0 a1 r x := by
  unfold laws_eqIntS_l0F laws_eqIntS_l0K
  repeat' (first | exact Ct.const | exact Ct.call | refine Ct.cond ?_ ?_ | refine Ct.bind ?_ fun _ => ?_ | refine Ct.sum (fun _ => ?_) fun _ => ?_)
def laws_eqIntS_l0 (a0 : List Int) (a1 : List Int) (a2 : Int) : Option (Bool ⊕ Unit) := lim (laws_eqIntS_l0F a0 a1) a2
theorem laws_eqIntS_l0_eq (a0 : List Int) (a1 : List Int) (a2 : Int) : laws_eqIntS_l0 a0 a1 a2 = laws_eqIntS_l0K a0 a1 (laws_eqIntS_l0 a0 a1) some a2 := lim_eq (laws_eqIntS_l0c a0 a1) a2
theorem laws_eqIntS_l0p {R : Type} (a0 : List Int) (a1 : List Int) {rc : Int → Option (Bool ⊕ Unit)} {rc' : Int → Option R} {fin : (Bool ⊕ Unit) → Option R} (hr : ∀ a2, Par fin (rc a2) (rc' a2)) (a2 : Int) : Par fin (laws_eqIntS_l0K a0 a1 rc some a2) (laws_eqIntS_l0K a0 a1 rc' fin a2) := by
  unfold laws_eqIntS_l0K
  repeat' (first | exact .fin | exact .none | exact hr _ | refine .cond ?_ ?_ | refine .bind fun _ => ?_ | refine .sum (fun _ => ?_) fun _ => ?_)
def Llaws_eqIntS_l0 : Loop := mkL ⟨[0, 1, 5], [], [], []⟩ slaws_eqIntS_l0 xlaws_eqIntS_l0 (fun (x : ((List Int) × (List Int) × Int × Unit) × (Unit)) => (x.1.1, x.1.2.1)) fun (x : ((List Int) × (List Int) × Int × Unit) × (Unit)) => laws_eqIntS_l0 x.1.1 x.1.2.1 x.1.2.2.1
def laws_eqIntSK {R : Type} (fin : Bool → Option R) (x0 : List Int) (x1 : List Int) : Option R :=
  cond ((x0.length : Int) != (x1.length : Int))
  (fin false)
  ((laws_eqIntS_l0 x0 x1 0).bind fun y3 =>
    sumO y3 (fun y4 =>
    fin y4)
    (fun y5 =>
    fin true))
def laws_eqIntS (x0 : List Int) (x1 : List Int) : Option (Bool) := laws_eqIntSK some x0 x1
theorem p25 {R : Type} (fin : Bool → Option R) (x0 : List Int) (x1 : List Int) : Par fin (laws_eqIntSK some x0 x1) (laws_eqIntSK fin x0 x1) := by
  unfold laws_eqIntSK
  repeat' (first | exact .fin | exact .none | refine .cond ?_ ?_ | refine .bind fun _ => ?_ | refine .sum (fun _ => ?_) fun _ => ?_)
def or25 : Ora := { lo := addL 4 (Llaws_eqIntS_l0) lo0, fin := [] }
theorem laws_eqIntS_l0e (a0 : List Int) (a1 : List Int) (k : Nat) (a2 : Int) : loopC Try.prog EL25 or25 ((loopsIn (codeOf Try.f25)).getD 0 .skip) (Llaws_eqIntS_l0).h (Llaws_eqIntS_l0).ho Try.f25.ntmps (k + 1) (slaws_eqIntS_l0.out ((a0, (a1, (a2, ()))), ())) =
    laws_eqIntS_l0K a0 a1 (fun a2 => loopC Try.prog EL25 or25 ((loopsIn (codeOf Try.f25)).getD 0 .skip) (Llaws_eqIntS_l0).h (Llaws_eqIntS_l0).ho Try.f25.ntmps k (slaws_eqIntS_l0.out ((a0, (a1, (a2, ()))), ()))) (fun y => some (XS.out xlaws_eqIntS_l0 (a0, a1) y)) a2 := by kernel_rfl
theorem laws_eqIntS_l0o : LoopOk Try.prog EL25 or25 Try.f25.ntmps ((loopsIn (codeOf Try.f25)).getD 0 .skip) (Llaws_eqIntS_l0) :=
  loop_lim (hs := slaws_eqIntS_l0) (xs := xlaws_eqIntS_l0) (ι := fun (x : ((List Int) × (List Int) × Int × Unit) × (Unit)) => (x.1.1, x.1.2.1)) (φ := fun (x : ((List Int) × (List Int) × Int × Unit) × (Unit)) => x.1.2.2.1) (ψ := fun (i : (List Int) × (List Int)) (v : Int) => ((i.1, (i.2, (v, ()))), ())) (F := fun (i : (List Int) × (List Int)) => laws_eqIntS_l0F i.1 i.2) (fun _ => rfl) fun i k hk v => Par.of_eq (laws_eqIntS_l0e i.1 i.2 k v) (laws_eqIntS_l0p i.1 i.2 (fun a2 => hk a2) v)
def c25 : Callee := mkC [.one (.ro (.slice (.int .i64))), .one (.ro (.slice (.int .i64)))] 1 [.one (.ro .bool)] fun x => laws_eqIntS x.1 x.2
theorem e25 (x : PK.dens [.one (.ro (.slice (.int .i64))), .one (.ro (.slice (.int .i64)))]) : evalFn Try.prog EL25 or25 Try.f25 (PK.outs [.one (.ro (.slice (.int .i64))), .one (.ro (.slice (.int .i64)))] x) =
    laws_eqIntSK (fun y => some (tupOf ((PK.outs [.one (.ro .bool)] y).take 1), (PK.outs [.one (.ro .bool)] y).drop 1)) x.1 x.2 := by kernel_rfl
theorem o25 : LoOk Try.prog EL25 or25 Try.f25.ntmps (loopsIn (codeOf Try.f25)) :=
  LoOk.mk (m := 1) (by kernel_rfl) fun i hi => match i, hi with
    | 0, _ => ⟨Llaws_eqIntS_l0, by kernel_rfl, laws_eqIntS_l0o⟩
    | i + 1, hi => absurd hi (by omega)
theorem k25 : CalleeOk Try.prog 25 c25 := callee_mk Try.func25 (code := codeOf Try.f25) (by kernel_rfl) vL25 mixed o25 fun x y h => (e25 x).trans (p25 _ x.1 x.2 y h)

/-- laws.eqIntSS -/
def EL72 : Nat → Option Callee := addE 25 c25 env0
theorem vL72 : EnvOk Try.prog EL72 := EnvOk.nil.add Try.func25 rfl (by kernel_rfl) k25
def slaws_eqIntSS_l0 : LS := ⟨[(0, .one (.dat (.slice (.slice (.int .i64))))), (1, .one (.dat (.slice (.slice (.int .i64))))), (5, .one (.dat (.int .i64)))], [], []⟩
def slaws_eqIntSS_l0x0 : LS := ⟨[(4, .one (.dat .bool))], [], []⟩
def slaws_eqIntSS_l0x1 : LS := ⟨[], [], []⟩
def xlaws_eqIntSS_l0 : List (XS ((List (List Int)) × (List (List Int)))) := [⟨.ret, ⟨[4], [], [], []⟩, slaws_eqIntSS_l0x0, Bool, fun i y => ((y, ()), ())⟩,
  ⟨.exit 0, ⟨[], [], [], []⟩, slaws_eqIntSS_l0x1, Unit, fun i y => ((), ())⟩]
def laws_eqIntSS_l0K {R : Type} (a0 : List (List Int)) (a1 : List (List Int)) (rc : Int → Option R) (fin : (Bool ⊕ Unit) → Option R) (a2 : Int) : Option R :=
  cond (decide (a2 < (a0.length : Int)))
  ((lat a0 a2).bind fun e1 =>
    (lat a1 a2).bind fun e2 =>
    (laws_eqIntS e1 e2).bind fun y3 =>
    cond (!y3)
    (fin (.inl false))
    (rc (IntKind.i64.wrap (a2 + 1))))
  (fin (.inr ()))
def laws_eqIntSS_l0F (a0 : List (List Int)) (a1 : List (List Int)) (r : Int → Option (Bool ⊕ Unit)) (x : Int) : Option (Bool ⊕ Unit) := laws_eqIntSS_l0K a0 a1 (fun a2 => r a2) some x
theorem laws_eqIntSS_l0c (a0 : List (List Int)) (a1 : List (List Int)) (x : Int) : Ct fun r => laws_eqIntSS_l0F a0 a1 r x := by
  unfold laws_eqIntSS_l0F laws_eqIntSS_l0K
  repeat' (first | exact Ct.const | exact Ct.call | refine Ct.cond ?_ ?_ | refine Ct.bind ?_ fun _ => ?_ | refine Ct.sum (fun _ => ?_) fun _ => ?_)
def laws_eqIntSS_l0 (a0 : List (List Int)) (a1 : List (List Int)) (a2 : Int) : Option (Bool ⊕ Unit) := lim (laws_eqIntSS_l0F a0 a1) a2
theorem laws_eqIntSS_l0_eq (a0 : List (List Int)) (a1 : List (List Int)) (a2 : Int) : laws_eqIntSS_l0 a0 a1 a2 = laws_eqIntSS_l0K a0 a1 (laws_eqIntSS_l0 a0 a1) some a2 := lim_eq (laws_eqIntSS_l0c a0 a1) a2
theorem laws_eqIntSS_l0p {R : Type} (a0 : List (List Int)) (a1 : List (List Int)) {rc : Int → Option (Bool ⊕ Unit)} {rc' : Int → Option R} {fin : (Bool ⊕ Unit) → Option R} (hr : ∀ a2, Par fin (rc a2) (rc' a2)) (a2 : Int) : Par fin (laws_eqIntSS_l0K a0 a1 rc some a2) (laws_eqIntSS_l0K a0 a1 rc' fin a2) := by
  unfold laws_eqIntSS_l0K
  repeat' (first | exact .fin | exact .none | exact hr _ | refine .cond ?_ ?_ | refine .bind fun _ => ?_ | refine .sum (fun _ => ?_) fun _ => ?_)
def Llaws_eqIntSS_l0 : Loop := mkL ⟨[0, 1, 5], [], [], []⟩ slaws_eqIntSS_l0 xlaws_eqIntSS_l0 (fun (x : ((List (List Int)) × (List (List Int)) × Int × Unit) × (Unit)) => (x.1.1, x.1.2.1)) fun (x : ((List (List Int)) × (List (List Int)) × Int × Unit) × (Unit)) => laws_eqIntSS_l0 x.1.1 x.1.2.1 x.1.2.2.1
def laws_eqIntSSK {R : Type} (fin : Bool → Option R) (x0 : List (List Int)) (x1 : List (List Int)) : Option R :=
  cond ((x0.length : Int) != (x1.length : Int))
  (fin false)
  ((laws_eqIntSS_l0 x0 x1 0).bind fun y4 =>
    sumO y4 (fun y5 =>
    fin y5)
    (fun y6 =>
    fin true))
def laws_eqIntSS (x0 : List (List Int)) (x1 : List (List Int)) : Option (Bool) := laws_eqIntSSK some x0 x1
theorem p72 {R : Type} (fin : Bool → Option R) (x0 : List (List Int)) (x1 : List (List Int)) : Par fin (laws_eqIntSSK some x0 x1) (laws_eqIntSSK fin x0 x1) := by
  unfold laws_eqIntSSK
  repeat' (first | exact .fin | exact .none | refine .cond ?_ ?_ | refine .bind fun _ => ?_ | refine .sum (fun _ => ?_) fun _ => ?_)
def or72 : Ora := { lo := addL 4 (Llaws_eqIntSS_l0) lo0, fin := [] }
theorem laws_eqIntSS_l0e (a0 : List (List Int)) (a1 : List (List Int)) (k : Nat) (a2 : Int) : loopC Try.prog EL72 or72 ((loopsIn (codeOf Try.f72)).getD 0 .skip) (Llaws_eqIntSS_l0).h (Llaws_eqIntSS_l0).ho Try.f72.ntmps (k + 1) (slaws_eqIntSS_l0.out ((a0, (a1, (a2, ()))), ())) =
    laws_eqIntSS_l0K a0 a1 (fun a2 => loopC Try.prog EL72 or72 ((loopsIn (codeOf Try.f72)).getD 0 .skip) (Llaws_eqIntSS_l0).h (Llaws_eqIntSS_l0).ho Try.f72.ntmps k (slaws_eqIntSS_l0.out ((a0, (a1, (a2, ()))), ()))) (fun y => some (XS.out xlaws_eqIntSS_l0 (a0, a1) y)) a2 := by kernel_rfl
theorem laws_eqIntSS_l0o : LoopOk Try.prog EL72 or72 Try.f72.ntmps ((loopsIn (codeOf Try.f72)).getD 0 .skip) (Llaws_eqIntSS_l0) :=
  loop_lim (hs := slaws_eqIntSS_l0) (xs := xlaws_eqIntSS_l0) (ι := fun (x : ((List (List Int)) × (List (List Int)) × Int × Unit) × (Unit)) => (x.1.1, x.1.2.1)) (φ := fun (x : ((List (List Int)) × (List (List Int)) × Int × Unit) × (Unit)) => x.1.2.2.1) (ψ := fun (i : (List (List Int)) × (List (List Int))) (v : Int) => ((i.1, (i.2, (v, ()))), ())) (F := fun (i : (List (List Int)) × (List (List Int))) => laws_eqIntSS_l0F i.1 i.2) (fun _ => rfl) fun i k hk v => Par.of_eq (laws_eqIntSS_l0e i.1 i.2 k v) (laws_eqIntSS_l0p i.1 i.2 (fun a2 => hk a2) v)
def c72 : Callee := mkC [.one (.ro (.slice (.slice (.int .i64)))), .one (.ro (.slice (.slice (.int .i64))))] 1 [.one (.ro .bool)] fun x => laws_eqIntSS x.1 x.2
theorem e72 (x : PK.dens [.one (.ro (.slice (.slice (.int .i64)))), .one (.ro (.slice (.slice (.int .i64))))]) : evalFn Try.prog EL72 or72 Try.f72 (PK.outs [.one (.ro (.slice (.slice (.int .i64)))), .one (.ro (.slice (.slice (.int .i64))))] x) =
    laws_eqIntSSK (fun y => some (tupOf ((PK.outs [.one (.ro .bool)] y).take 1), (PK.outs [.one (.ro .bool)] y).drop 1)) x.1 x.2 := by kernel_rfl
theorem o72 : LoOk Try.prog EL72 or72 Try.f72.ntmps (loopsIn (codeOf Try.f72)) :=
  LoOk.mk (m := 1) (by kernel_rfl) fun i hi => match i, hi with
    | 0, _ => ⟨Llaws_eqIntSS_l0, by kernel_rfl, laws_eqIntSS_l0o⟩
    | i + 1, hi => absurd hi (by omega)
theorem k72 : CalleeOk Try.prog 72 c72 := callee_mk Try.func72 (code := codeOf Try.f72) (by kernel_rfl) vL72 mixed o72 fun x y h => (e72 x).trans (p72 _ x.1 x.2 y h)

/-- laws.eqLimits -/
def EL73 : Nat → Option Callee := env0
theorem vL73 : EnvOk Try.prog EL73 := EnvOk.nil
def laws_eqLimitsK {R : Type} (fin : Bool → Option R) (x0 : DLimits) (x1 : DLimits) : Option R :=
  cond (x0.1 != x1.1)
  (fin false)
  (cond (x0.2.1 != x1.2.1)
    (fin false)
    (fin true))
def laws_eqLimits (x0 : DLimits) (x1 : DLimits) : Option (Bool) := laws_eqLimitsK some x0 x1
theorem p73 {R : Type} (fin : Bool → Option R) (x0 : DLimits) (x1 : DLimits) : Par fin (laws_eqLimitsK some x0 x1) (laws_eqLimitsK fin x0 x1) := by
  unfold laws_eqLimitsK
  repeat' (first | exact .fin | exact .none | refine .cond ?_ ?_ | refine .bind fun _ => ?_ | refine .sum (fun _ => ?_) fun _ => ?_)
def c73 : Callee := mkC [.agg [.ro TLimits], .agg [.ro TLimits]] 1 [.one (.ro .bool)] fun x => laws_eqLimits x.1 x.2
theorem e73 (x : PK.dens [.agg [.ro TLimits], .agg [.ro TLimits]]) : evalFn Try.prog EL73 or0 Try.f73 (PK.outs [.agg [.ro TLimits], .agg [.ro TLimits]] x) =
    laws_eqLimitsK (fun y => some (tupOf ((PK.outs [.one (.ro .bool)] y).take 1), (PK.outs [.one (.ro .bool)] y).drop 1)) x.1 x.2 := by kernel_rfl
theorem k73 : CalleeOk Try.prog 73 c73 := callee_mk Try.func73 (code := codeOf Try.f73) (by kernel_rfl) vL73 mixed (LoOk.nil (by kernel_rfl)) fun x y h => (e73 x).trans (p73 _ x.1 x.2 y h)

/-- laws.eqJob -/
def EL24 : Nat → Option Callee := addE 73 c73 (addE 25 c25 (addE 72 c72 env0))
theorem vL24 : EnvOk Try.prog EL24 := ((EnvOk.nil.add Try.func72 rfl (by kernel_rfl) k72).add Try.func25 rfl (by kernel_rfl) k25).add Try.func73 rfl (by kernel_rfl) k73
def laws_eqJobK {R : Type} (fin : Bool → Option R) (x0 : DJob) (x1 : DJob) : Option R :=
  (laws_eqIntSS x0.1 x1.1).bind fun y1 =>
  cond (!y1)
  (fin false)
  ((laws_eqIntS x0.2.1 x1.2.1).bind fun y2 =>
    cond (!y2)
    (fin false)
    ((laws_eqIntS x0.2.2.1 x1.2.2.1).bind fun y3 =>
      cond (!y3)
      (fin false)
      ((laws_eqLimits x0.2.2.2.1 x1.2.2.2.1).bind fun y4 =>
        cond (!y4)
        (fin false)
        (cond (x0.2.2.2.2.1 != x1.2.2.2.2.1)
          (fin false)
          (cond (x0.2.2.2.2.2.1 != x1.2.2.2.2.2.1)
            (fin false)
            (cond (x0.2.2.2.2.2.2.1 != x1.2.2.2.2.2.2.1)
              (fin false)
              (fin true)))))))
def laws_eqJob (x0 : DJob) (x1 : DJob) : Option (Bool) := laws_eqJobK some x0 x1
theorem p24 {R : Type} (fin : Bool → Option R) (x0 : DJob) (x1 : DJob) : Par fin (laws_eqJobK some x0 x1) (laws_eqJobK fin x0 x1) := by
  unfold laws_eqJobK
  repeat' (first | exact .fin | exact .none | refine .cond ?_ ?_ | refine .bind fun _ => ?_ | refine .sum (fun _ => ?_) fun _ => ?_)
def c24 : Callee := mkC [.agg [.ro TJob], .agg [.ro TJob]] 1 [.one (.ro .bool)] fun x => laws_eqJob x.1 x.2
theorem e24 (x : PK.dens [.agg [.ro TJob], .agg [.ro TJob]]) : evalFn Try.prog EL24 or0 Try.f24 (PK.outs [.agg [.ro TJob], .agg [.ro TJob]] x) =
    laws_eqJobK (fun y => some (tupOf ((PK.outs [.one (.ro .bool)] y).take 1), (PK.outs [.one (.ro .bool)] y).drop 1)) x.1 x.2 := by kernel_rfl
theorem k24 : CalleeOk Try.prog 24 c24 := callee_mk Try.func24 (code := codeOf Try.f24) (by kernel_rfl) vL24 mixed (LoOk.nil (by kernel_rfl)) fun x y h => (e24 x).trans (p24 _ x.1 x.2 y h)

/-- laws.eqPlan -/
def EL30 : Nat → Option Callee := addE 25 c25 env0
theorem vL30 : EnvOk Try.prog EL30 := EnvOk.nil.add Try.func25 rfl (by kernel_rfl) k25
def laws_eqPlanK {R : Type} (fin : Bool → Option R) (x0 : DPlan) (x1 : DPlan) : Option R :=
  cond (x0.1 != x1.1)
  (fin false)
  ((laws_eqIntS x0.2.1 x1.2.1).bind fun y1 =>
    cond (!y1)
    (fin false)
    (fin true))
def laws_eqPlan (x0 : DPlan) (x1 : DPlan) : Option (Bool) := laws_eqPlanK some x0 x1
theorem p30 {R : Type} (fin : Bool → Option R) (x0 : DPlan) (x1 : DPlan) : Par fin (laws_eqPlanK some x0 x1) (laws_eqPlanK fin x0 x1) := by
  unfold laws_eqPlanK
  repeat' (first | exact .fin | exact .none | refine .cond ?_ ?_ | refine .bind fun _ => ?_ | refine .sum (fun _ => ?_) fun _ => ?_)
def c30 : Callee := mkC [.agg [.ro TPlan], .agg [.ro TPlan]] 1 [.one (.ro .bool)] fun x => laws_eqPlan x.1 x.2
theorem e30 (x : PK.dens [.agg [.ro TPlan], .agg [.ro TPlan]]) : evalFn Try.prog EL30 or0 Try.f30 (PK.outs [.agg [.ro TPlan], .agg [.ro TPlan]] x) =
    laws_eqPlanK (fun y => some (tupOf ((PK.outs [.one (.ro .bool)] y).take 1), (PK.outs [.one (.ro .bool)] y).drop 1)) x.1 x.2 := by kernel_rfl
theorem k30 : CalleeOk Try.prog 30 c30 := callee_mk Try.func30 (code := codeOf Try.f30) (by kernel_rfl) vL30 mixed (LoOk.nil (by kernel_rfl)) fun x y h => (e30 x).trans (p30 _ x.1 x.2 y h)

/-- laws.markIntS -/
def EL35 : Nat → Option Callee := env0
theorem vL35 : EnvOk Try.prog EL35 := EnvOk.nil
def slaws_markIntS_l0 : LS := ⟨[(0, .one (.fix (.sref 0))), (1, .one (.dat (.int .i64))), (5, .one (.dat (.int .i64)))], [.sl (.int .i64)], [0]⟩
def slaws_markIntS_l0x0 : LS := ⟨[(0, .one (.fix (.sref 0))), (1, .one (.dat (.int .i64)))], [.sl (.int .i64)], [0]⟩
def xlaws_markIntS_l0 : List (XS (Unit)) := [⟨.exit 0, ⟨[0, 1], [.slot 0], [0], []⟩, slaws_markIntS_l0x0, Int × (List Int), fun i y => (((), (y.1, ())), (y.2, ()))⟩]
def laws_markIntS_l0K {R : Type} (rc : Int → Int → List Int → Option R) (fin : Int × (List Int) → Option R) (a0 : Int) (a1 : Int) (a2 : List Int) : Option R :=
  cond (decide (a1 < (a2.length : Int)))
  (cond (decide ((0 : Int) ≤ a1) && decide (a1 < (a2.length : Int)))
    ((some (a2.set (0 + a1.toNat) a0)).bind fun v1 =>
      rc (IntKind.i64.wrap (a0 + 1)) (IntKind.i64.wrap (a1 + 1)) v1)
    (none))
  (fin (a0, a2))
def laws_markIntS_l0F (r : (Int × Int × (List Int)) → Option (Int × (List Int))) (x : Int × Int × (List Int)) : Option (Int × (List Int)) := laws_markIntS_l0K (fun a0 a1 a2 => r (a0, (a1, a2))) some x.1 x.2.1 x.2.2
theorem laws_markIntS_l0c (x : Int × Int × (List Int)) : Ct fun r => laws_markIntS_l0F r x := by
  unfold laws_markIntS_l0F laws_markIntS_l0K
  repeat' (first | exact Ct.const | exact Ct.call | refine Ct.cond ?_ ?_ | refine Ct.bind ?_ fun _ => ?_ | refine Ct.sum (fun _ => ?_) fun _ => ?_)
def laws_markIntS_l0 (a0 : Int) (a1 : Int) (a2 : List Int) : Option (Int × (List Int)) := lim (laws_markIntS_l0F) (a0, (a1, a2))
theorem laws_markIntS_l0_eq (a0 : Int) (a1 : Int) (a2 : List Int) : laws_markIntS_l0 a0 a1 a2 = laws_markIntS_l0K (laws_markIntS_l0) some a0 a1 a2 := lim_eq (laws_markIntS_l0c) (a0, (a1, a2))
theorem laws_markIntS_l0p {R : Type} {rc : Int → Int → List Int → Option (Int × (List Int))} {rc' : Int → Int → List Int → Option R} {fin : Int × (List Int) → Option R} (hr : ∀ a0 a1 a2, Par fin (rc a0 a1 a2) (rc' a0 a1 a2)) (a0 : Int) (a1 : Int) (a2 : List Int) : Par fin (laws_markIntS_l0K rc some a0 a1 a2) (laws_markIntS_l0K rc' fin a0 a1 a2) := by
  unfold laws_markIntS_l0K
  repeat' (first | exact .fin | exact .none | exact hr _ _ _ | refine .cond ?_ ?_ | refine .bind fun _ => ?_ | refine .sum (fun _ => ?_) fun _ => ?_)
def Llaws_markIntS_l0 : Loop := mkL ⟨[0, 1, 5], [.slot 0], [0], []⟩ slaws_markIntS_l0 xlaws_markIntS_l0 (fun (x : (Unit × Int × Int × Unit) × ((List Int) × Unit)) => ()) fun (x : (Unit × Int × Int × Unit) × ((List Int) × Unit)) => laws_markIntS_l0 x.1.2.1 x.1.2.2.1 x.2.1
def laws_markIntSK {R : Type} (fin : Int × (List Int) → Option R) (x0 : List Int) (x1 : Int) : Option R :=
  (laws_markIntS_l0 x1 0 x0).bind fun y2 =>
  fin y2
def laws_markIntS (x0 : List Int) (x1 : Int) : Option (Int × (List Int)) := laws_markIntSK some x0 x1
theorem p35 {R : Type} (fin : Int × (List Int) → Option R) (x0 : List Int) (x1 : Int) : Par fin (laws_markIntSK some x0 x1) (laws_markIntSK fin x0 x1) := by
  unfold laws_markIntSK
  repeat' (first | exact .fin | exact .none | refine .cond ?_ ?_ | refine .bind fun _ => ?_ | refine .sum (fun _ => ?_) fun _ => ?_)
def or35 : Ora := { lo := addL 2 (Llaws_markIntS_l0) lo0, fin := [] }
theorem laws_markIntS_l0e (k : Nat) (a0 : Int) (a1 : Int) (a2 : List Int) : loopC Try.prog EL35 or35 ((loopsIn (codeOf Try.f35)).getD 0 .skip) (Llaws_markIntS_l0).h (Llaws_markIntS_l0).ho Try.f35.ntmps (k + 1) (slaws_markIntS_l0.out (((), (a0, (a1, ()))), (a2, ()))) =
    laws_markIntS_l0K (fun a0 a1 a2 => loopC Try.prog EL35 or35 ((loopsIn (codeOf Try.f35)).getD 0 .skip) (Llaws_markIntS_l0).h (Llaws_markIntS_l0).ho Try.f35.ntmps k (slaws_markIntS_l0.out (((), (a0, (a1, ()))), (a2, ())))) (fun y => some (XS.out xlaws_markIntS_l0 () y)) a0 a1 a2 := by kernel_rfl
theorem laws_markIntS_l0o : LoopOk Try.prog EL35 or35 Try.f35.ntmps ((loopsIn (codeOf Try.f35)).getD 0 .skip) (Llaws_markIntS_l0) :=
  loop_lim (hs := slaws_markIntS_l0) (xs := xlaws_markIntS_l0) (ι := fun (x : (Unit × Int × Int × Unit) × ((List Int) × Unit)) => ()) (φ := fun (x : (Unit × Int × Int × Unit) × ((List Int) × Unit)) => (x.1.2.1, (x.1.2.2.1, x.2.1))) (ψ := fun (i : Unit) (v : Int × Int × (List Int)) => (((), (v.1, (v.2.1, ()))), (v.2.2, ()))) (F := fun (i : Unit) => laws_markIntS_l0F) (fun _ => rfl) fun i k hk v => Par.of_eq (laws_markIntS_l0e k v.1 v.2.1 v.2.2) (laws_markIntS_l0p (fun a0 a1 a2 => hk (a0, (a1, a2))) v.1 v.2.1 v.2.2)
def c35 : Callee := mkC [.one (.sl (.int .i64)), .one (.ro (.int .i64))] 1 [.one (.ro (.int .i64)), .one (.sl (.int .i64))] fun x => laws_markIntS x.1 x.2
theorem e35 (x : PK.dens [.one (.sl (.int .i64)), .one (.ro (.int .i64))]) : evalFn Try.prog EL35 or35 Try.f35 (PK.outs [.one (.sl (.int .i64)), .one (.ro (.int .i64))] x) =
    laws_markIntSK (fun y => some (tupOf ((PK.outs [.one (.ro (.int .i64)), .one (.sl (.int .i64))] y).take 1), (PK.outs [.one (.ro (.int .i64)), .one (.sl (.int .i64))] y).drop 1)) x.1 x.2 := by kernel_rfl
theorem o35 : LoOk Try.prog EL35 or35 Try.f35.ntmps (loopsIn (codeOf Try.f35)) :=
  LoOk.mk (m := 1) (by kernel_rfl) fun i hi => match i, hi with
    | 0, _ => ⟨Llaws_markIntS_l0, by kernel_rfl, laws_markIntS_l0o⟩
    | i + 1, hi => absurd hi (by omega)
theorem k35 : CalleeOk Try.prog 35 c35 := callee_mk Try.func35 (code := codeOf Try.f35) (by kernel_rfl) vL35 mixed o35 fun x y h => (e35 x).trans (p35 _ x.1 x.2 y h)

/-- laws.markIntSS -/
def EL81 : Nat → Option Callee := addE 35 c35 env0
theorem vL81 : EnvOk Try.prog EL81 := EnvOk.nil.add Try.func35 rfl (by kernel_rfl) k35
def slaws_markIntSS_l0 : LS := ⟨[(0, .one (.fix (.sref 0))), (1, .one (.dat (.int .i64))), (5, .one (.dat (.int .i64)))], [.mat (.int .i64)], [0]⟩
def slaws_markIntSS_l0x0 : LS := ⟨[(0, .one (.fix (.sref 0))), (1, .one (.dat (.int .i64)))], [.mat (.int .i64)], [0]⟩
def xlaws_markIntSS_l0 : List (XS (Unit)) := [⟨.exit 0, ⟨[0, 1], [.slot 0], [0], []⟩, slaws_markIntSS_l0x0, Int × (List (List Int)), fun i y => (((), (y.1, ())), (y.2, ()))⟩]
def laws_markIntSS_l0K {R : Type} (rc : Int → Int → List (List Int) → Option R) (fin : Int × (List (List Int)) → Option R) (a0 : Int) (a1 : Int) (a2 : List (List Int)) : Option R :=
  cond (decide (a1 < (a2.length : Int)))
  (cond (decide ((0 : Int) ≤ a1) && decide (a1 < (a2.length : Int)))
    ((laws_markIntS (a2.getD (0 + a1.toNat) []) a0).bind fun y1 =>
      rc y1.1 (IntKind.i64.wrap (a1 + 1)) (a2.set (0 + a1.toNat) y1.2))
    (none))
  (fin (a0, a2))
def laws_markIntSS_l0F (r : (Int × Int × (List (List Int))) → Option (Int × (List (List Int)))) (x : Int × Int × (List (List Int))) : Option (Int × (List (List Int))) := laws_markIntSS_l0K (fun a0 a1 a2 => r (a0, (a1, a2))) some x.1 x.2.1 x.2.2
theorem laws_markIntSS_l0c (x : Int × Int × (List (List Int))) : Ct fun r => laws_markIntSS_l0F r x := by
  unfold laws_markIntSS_l0F laws_markIntSS_l0K
  repeat' (first | exact Ct.const | exact Ct.call | refine Ct.cond ?_ ?_ | refine Ct.bind ?_ fun _ => ?_ | refine Ct.sum (fun _ => ?_) fun _ => ?_)
def laws_markIntSS_l0 (a0 : Int) (a1 : Int) (a2 : List (List Int)) : Option (Int × (List (List Int))) := lim (laws_markIntSS_l0F) (a0, (a1, a2))
theorem laws_markIntSS_l0_eq (a0 : Int) (a1 : Int) (a2 : List (List Int)) : laws_markIntSS_l0 a0 a1 a2 = laws_markIntSS_l0K (laws_markIntSS_l0) some a0 a1 a2 := lim_eq (laws_markIntSS_l0c) (a0, (a1, a2))
theorem laws_markIntSS_l0p {R : Type} {rc : Int → Int → List (List Int) → Option (Int × (List (List Int)))} {rc' : Int → Int → List (List Int) → Option R} {fin : Int × (List (List Int)) → Option R} (hr : ∀ a0 a1 a2, Par fin (rc a0 a1 a2) (rc' a0 a1 a2)) (a0 : Int) (a1 : Int) (a2 : List (List Int)) : Par fin (laws_markIntSS_l0K rc some a0 a1 a2) (laws_markIntSS_l0K rc' fin a0 a1 a2) := by
  unfold laws_markIntSS_l0K
  repeat' (first | exact .fin | exact .none | exact hr _ _ _ | refine .cond ?_ ?_ | refine .bind fun _ => ?_ | refine .sum (fun _ => ?_) fun _ => ?_)
def Llaws_markIntSS_l0 : Loop := mkL ⟨[0, 1, 5], [.slot 0], [0], []⟩ slaws_markIntSS_l0 xlaws_markIntSS_l0 (fun (x : (Unit × Int × Int × Unit) × ((List (List Int)) × Unit)) => ()) fun (x : (Unit × Int × Int × Unit) × ((List (List Int)) × Unit)) => laws_markIntSS_l0 x.1.2.1 x.1.2.2.1 x.2.1
def laws_markIntSSK {R : Type} (fin : Int × (List (List Int)) → Option R) (x0 : List (List Int)) (x1 : Int) : Option R :=
  (laws_markIntSS_l0 x1 0 x0).bind fun y2 =>
  fin y2
def laws_markIntSS (x0 : List (List Int)) (x1 : Int) : Option (Int × (List (List Int))) := laws_markIntSSK some x0 x1
theorem p81 {R : Type} (fin : Int × (List (List Int)) → Option R) (x0 : List (List Int)) (x1 : Int) : Par fin (laws_markIntSSK some x0 x1) (laws_markIntSSK fin x0 x1) := by
  unfold laws_markIntSSK
  repeat' (first | exact .fin | exact .none | refine .cond ?_ ?_ | refine .bind fun _ => ?_ | refine .sum (fun _ => ?_) fun _ => ?_)
def or81 : Ora := { lo := addL 2 (Llaws_markIntSS_l0) lo0, fin := [] }
theorem laws_markIntSS_l0e (k : Nat) (a0 : Int) (a1 : Int) (a2 : List (List Int)) : loopC Try.prog EL81 or81 ((loopsIn (codeOf Try.f81)).getD 0 .skip) (Llaws_markIntSS_l0).h (Llaws_markIntSS_l0).ho Try.f81.ntmps (k + 1) (slaws_markIntSS_l0.out (((), (a0, (a1, ()))), (a2, ()))) =
    laws_markIntSS_l0K (fun a0 a1 a2 => loopC Try.prog EL81 or81 ((loopsIn (codeOf Try.f81)).getD 0 .skip) (Llaws_markIntSS_l0).h (Llaws_markIntSS_l0).ho Try.f81.ntmps k (slaws_markIntSS_l0.out (((), (a0, (a1, ()))), (a2, ())))) (fun y => some (XS.out xlaws_markIntSS_l0 () y)) a0 a1 a2 := by kernel_rfl
theorem laws_markIntSS_l0o : LoopOk Try.prog EL81 or81 Try.f81.ntmps ((loopsIn (codeOf Try.f81)).getD 0 .skip) (Llaws_markIntSS_l0) :=
  loop_lim (hs := slaws_markIntSS_l0) (xs := xlaws_markIntSS_l0) (ι := fun (x : (Unit × Int × Int × Unit) × ((List (List Int)) × Unit)) => ()) (φ := fun (x : (Unit × Int × Int × Unit) × ((List (List Int)) × Unit)) => (x.1.2.1, (x.1.2.2.1, x.2.1))) (ψ := fun (i : Unit) (v : Int × Int × (List (List Int))) => (((), (v.1, (v.2.1, ()))), (v.2.2, ()))) (F := fun (i : Unit) => laws_markIntSS_l0F) (fun _ => rfl) fun i k hk v => Par.of_eq (laws_markIntSS_l0e k v.1 v.2.1 v.2.2) (laws_markIntSS_l0p (fun a0 a1 a2 => hk (a0, (a1, a2))) v.1 v.2.1 v.2.2)
def c81 : Callee := mkC [.one (.mat (.int .i64)), .one (.ro (.int .i64))] 1 [.one (.ro (.int .i64)), .one (.mat (.int .i64))] fun x => laws_markIntSS x.1 x.2
theorem e81 (x : PK.dens [.one (.mat (.int .i64)), .one (.ro (.int .i64))]) : evalFn Try.prog EL81 or81 Try.f81 (PK.outs [.one (.mat (.int .i64)), .one (.ro (.int .i64))] x) =
    laws_markIntSSK (fun y => some (tupOf ((PK.outs [.one (.ro (.int .i64)), .one (.mat (.int .i64))] y).take 1), (PK.outs [.one (.ro (.int .i64)), .one (.mat (.int .i64))] y).drop 1)) x.1 x.2 := by kernel_rfl
theorem o81 : LoOk Try.prog EL81 or81 Try.f81.ntmps (loopsIn (codeOf Try.f81)) :=
  LoOk.mk (m := 1) (by kernel_rfl) fun i hi => match i, hi with
    | 0, _ => ⟨Llaws_markIntSS_l0, by kernel_rfl, laws_markIntSS_l0o⟩
    | i + 1, hi => absurd hi (by omega)
theorem k81 : CalleeOk Try.prog 81 c81 := callee_mk Try.func81 (code := codeOf Try.f81) (by kernel_rfl) vL81 mixed o81 fun x y h => (e81 x).trans (p81 _ x.1 x.2 y h)

/-- laws.markJob -/
def EL33 : Nat → Option Callee := addE 35 c35 (addE 81 c81 env0)
theorem vL33 : EnvOk Try.prog EL33 := (EnvOk.nil.add Try.func81 rfl (by kernel_rfl) k81).add Try.func35 rfl (by kernel_rfl) k35
def laws_markJobK {R : Type} (fin : Int × Unit → Option R) (x0 : (List (List Int)) × (List Int) × (List Int) × Int × Int × Int × Int × Int) (x1 : Int) : Option R :=
  (laws_markIntSS x0.1 x1).bind fun y1 =>
  (laws_markIntS x0.2.1 y1.1).bind fun y2 =>
  (laws_markIntS x0.2.2.1 y2.1).bind fun y3 =>
  fin (y3.1, ())
def laws_markJob (x0 : (List (List Int)) × (List Int) × (List Int) × Int × Int × Int × Int × Int) (x1 : Int) : Option (Int × Unit) := laws_markJobK some x0 x1
theorem p33 {R : Type} (fin : Int × Unit → Option R) (x0 : (List (List Int)) × (List Int) × (List Int) × Int × Int × Int × Int × Int) (x1 : Int) : Par fin (laws_markJobK some x0 x1) (laws_markJobK fin x0 x1) := by
  unfold laws_markJobK
  repeat' (first | exact .fin | exact .none | refine .cond ?_ ?_ | refine .bind fun _ => ?_ | refine .sum (fun _ => ?_) fun _ => ?_)
def c33 : Callee := mkC [.agg [.mat (.int .i64), .sl (.int .i64), .sl (.int .i64), .ro (.int .i64), .ro (.int .i64), .ro (.int .i64), .ro (.int .i64), .ro (.int .i64)], .one (.ro (.int .i64))] 1 [.one (.ro (.int .i64)), .gone] fun x => laws_markJob x.1 x.2
theorem e33 (x : PK.dens [.agg [.mat (.int .i64), .sl (.int .i64), .sl (.int .i64), .ro (.int .i64), .ro (.int .i64), .ro (.int .i64), .ro (.int .i64), .ro (.int .i64)], .one (.ro (.int .i64))]) : evalFn Try.prog EL33 or0 Try.f33 (PK.outs [.agg [.mat (.int .i64), .sl (.int .i64), .sl (.int .i64), .ro (.int .i64), .ro (.int .i64), .ro (.int .i64), .ro (.int .i64), .ro (.int .i64)], .one (.ro (.int .i64))] x) =
    laws_markJobK (fun y => some (tupOf ((PK.outs [.one (.ro (.int .i64)), .gone] y).take 1), (PK.outs [.one (.ro (.int .i64)), .gone] y).drop 1)) x.1 x.2 := by kernel_rfl
theorem k33 : CalleeOk Try.prog 33 c33 := callee_mk Try.func33 (code := codeOf Try.f33) (by kernel_rfl) vL33 mixed (LoOk.nil (by kernel_rfl)) fun x y h => (e33 x).trans (p33 _ x.1 x.2 y h)

/-- laws.markPlan -/
def EL34 : Nat → Option Callee := addE 35 c35 env0
theorem vL34 : EnvOk Try.prog EL34 := EnvOk.nil.add Try.func35 rfl (by kernel_rfl) k35
def laws_markPlanK {R : Type} (fin : Int × (Int × (List Int)) → Option R) (x0 : Int × (List Int)) (x1 : Int) : Option R :=
  (laws_markIntS x0.2 x1).bind fun y1 =>
  fin (y1.1, (x0.1, y1.2))
def laws_markPlan (x0 : Int × (List Int)) (x1 : Int) : Option (Int × (Int × (List Int))) := laws_markPlanK some x0 x1
theorem p34 {R : Type} (fin : Int × (Int × (List Int)) → Option R) (x0 : Int × (List Int)) (x1 : Int) : Par fin (laws_markPlanK some x0 x1) (laws_markPlanK fin x0 x1) := by
  unfold laws_markPlanK
  repeat' (first | exact .fin | exact .none | refine .cond ?_ ?_ | refine .bind fun _ => ?_ | refine .sum (fun _ => ?_) fun _ => ?_)
def c34 : Callee := mkC [.agg [.ro (.int .i64), .sl (.int .i64)], .one (.ro (.int .i64))] 1 [.one (.ro (.int .i64)), .agg [.ro (.int .i64), .sl (.int .i64)]] fun x => laws_markPlan x.1 x.2
theorem e34 (x : PK.dens [.agg [.ro (.int .i64), .sl (.int .i64)], .one (.ro (.int .i64))]) : evalFn Try.prog EL34 or0 Try.f34 (PK.outs [.agg [.ro (.int .i64), .sl (.int .i64)], .one (.ro (.int .i64))] x) =
    laws_markPlanK (fun y => some (tupOf ((PK.outs [.one (.ro (.int .i64)), .agg [.ro (.int .i64), .sl (.int .i64)]] y).take 1), (PK.outs [.one (.ro (.int .i64)), .agg [.ro (.int .i64), .sl (.int .i64)]] y).drop 1)) x.1 x.2 := by kernel_rfl
theorem k34 : CalleeOk Try.prog 34 c34 := callee_mk Try.func34 (code := codeOf Try.f34) (by kernel_rfl) vL34 mixed (LoOk.nil (by kernel_rfl)) fun x y h => (e34 x).trans (p34 _ x.1 x.2 y h)

/-- laws.heldIntS -/
def EL36 : Nat → Option Callee := env0
theorem vL36 : EnvOk Try.prog EL36 := EnvOk.nil
def slaws_heldIntS_l0 : LS := ⟨[(0, .one (.dat (.slice (.int .i64)))), (1, .one (.dat (.int .i64))), (5, .one (.dat (.int .i64)))], [], []⟩
def slaws_heldIntS_l0x0 : LS := ⟨[(4, .one (.dat (.int .i64)))], [], []⟩
def slaws_heldIntS_l0x1 : LS := ⟨[(1, .one (.dat (.int .i64)))], [], []⟩
def xlaws_heldIntS_l0 : List (XS (List Int)) := [⟨.ret, ⟨[4], [], [], []⟩, slaws_heldIntS_l0x0, Int, fun i y => ((y, ()), ())⟩,
  ⟨.exit 0, ⟨[1], [], [], []⟩, slaws_heldIntS_l0x1, Int, fun i y => ((y, ()), ())⟩]
def laws_heldIntS_l0K {R : Type} (a0 : List Int) (rc : Int → Int → Option R) (fin : (Int ⊕ Int) → Option R) (a1 : Int) (a2 : Int) : Option R :=
  cond (decide (a2 < (a0.length : Int)))
  ((lat a0 a2).bind fun e1 =>
    cond (e1 != a1)
    (fin (.inl (-1)))
    (rc (IntKind.i64.wrap (a1 + 1)) (IntKind.i64.wrap (a2 + 1))))
  (fin (.inr a1))
def laws_heldIntS_l0F (a0 : List Int) (r : (Int × Int) → Option (Int ⊕ Int)) (x : Int × Int) : Option (Int ⊕ Int) := laws_heldIntS_l0K a0 (fun a1 a2 => r (a1, a2)) some x.1 x.2
theorem laws_heldIntS_l0c (a0 : List Int) (x : Int × Int) : Ct fun r => laws_heldIntS_l0F a0 r x := by
  unfold laws_heldIntS_l0F laws_heldIntS_l0K
  repeat' (first | exact Ct.const | exact Ct.call | refine Ct.cond ?_ ?_ | refine Ct.bind ?_ fun _ => ?_ | refine Ct.sum (fun _ => ?_) fun _ => ?_)
def laws_heldIntS_l0 (a0 : List Int) (a1 : Int) (a2 : Int) : Option (Int ⊕ Int) := lim (laws_heldIntS_l0F a0) (a1, a2)
theorem laws_heldIntS_l0_eq (a0 : List Int) (a1 : Int) (a2 : Int) : laws_heldIntS_l0 a0 a1 a2 = laws_heldIntS_l0K a0 (laws_heldIntS_l0 a0) some a1 a2 := lim_eq (laws_heldIntS_l0c a0) (a1, a2)
theorem laws_heldIntS_l0p {R : Type} (a0 : List Int) {rc : Int → Int → Option (Int ⊕ Int)} {rc' : Int → Int → Option R} {fin : (Int ⊕ Int) → Option R} (hr : ∀ a1 a2, Par fin (rc a1 a2) (rc' a1 a2)) (a1 : Int) (a2 : Int) : Par fin (laws_heldIntS_l0K a0 rc some a1 a2) (laws_heldIntS_l0K a0 rc' fin a1 a2) := by
  unfold laws_heldIntS_l0K
  repeat' (first | exact .fin | exact .none | exact hr _ _ | refine .cond ?_ ?_ | refine .bind fun _ => ?_ | refine .sum (fun _ => ?_) fun _ => ?_)
def Llaws_heldIntS_l0 : Loop := mkL ⟨[0, 1, 5], [], [], []⟩ slaws_heldIntS_l0 xlaws_heldIntS_l0 (fun (x : ((List Int) × Int × Int × Unit) × (Unit)) => x.1.1) fun (x : ((List Int) × Int × Int × Unit) × (Unit)) => laws_heldIntS_l0 x.1.1 x.1.2.1 x.1.2.2.1
def laws_heldIntSK {R : Type} (fin : Int → Option R) (x0 : List Int) (x1 : Int) : Option R :=
  (laws_heldIntS_l0 x0 x1 0).bind fun y2 =>
  sumO y2 (fun y3 =>
  fin y3)
  (fun y4 =>
  fin y4)
def laws_heldIntS (x0 : List Int) (x1 : Int) : Option (Int) := laws_heldIntSK some x0 x1
theorem p36 {R : Type} (fin : Int → Option R) (x0 : List Int) (x1 : Int) : Par fin (laws_heldIntSK some x0 x1) (laws_heldIntSK fin x0 x1) := by
  unfold laws_heldIntSK
  repeat' (first | exact .fin | exact .none | refine .cond ?_ ?_ | refine .bind fun _ => ?_ | refine .sum (fun _ => ?_) fun _ => ?_)
def or36 : Ora := { lo := addL 2 (Llaws_heldIntS_l0) lo0, fin := [] }
theorem laws_heldIntS_l0e (a0 : List Int) (k : Nat) (a1 : Int) (a2 : Int) : loopC Try.prog EL36 or36 ((loopsIn (codeOf Try.f36)).getD 0 .skip) (Llaws_heldIntS_l0).h (Llaws_heldIntS_l0).ho Try.f36.ntmps (k + 1) (slaws_heldIntS_l0.out ((a0, (a1, (a2, ()))), ())) =
    laws_heldIntS_l0K a0 (fun a1 a2 => loopC Try.prog EL36 or36 ((loopsIn (codeOf Try.f36)).getD 0 .skip) (Llaws_heldIntS_l0).h (Llaws_heldIntS_l0).ho Try.f36.ntmps k (slaws_heldIntS_l0.out ((a0, (a1, (a2, ()))), ()))) (fun y => some (XS.out xlaws_heldIntS_l0 a0 y)) a1 a2 := by kernel_rfl
theorem laws_heldIntS_l0o : LoopOk Try.prog EL36 or36 Try.f36.ntmps ((loopsIn (codeOf Try.f36)).getD 0 .skip) (Llaws_heldIntS_l0) :=
  loop_lim (hs := slaws_heldIntS_l0) (xs := xlaws_heldIntS_l0) (ι := fun (x : ((List Int) × Int × Int × Unit) × (Unit)) => x.1.1) (φ := fun (x : ((List Int) × Int × Int × Unit) × (Unit)) => (x.1.2.1, x.1.2.2.1)) (ψ := fun (i : List Int) (v : Int × Int) => ((i, (v.1, (v.2, ()))), ())) (F := fun (i : List Int) => laws_heldIntS_l0F i) (fun _ => rfl) fun i k hk v => Par.of_eq (laws_heldIntS_l0e i k v.1 v.2) (laws_heldIntS_l0p i (fun a1 a2 => hk (a1, a2)) v.1 v.2)
def c36 : Callee := mkC [.one (.ro (.slice (.int .i64))), .one (.ro (.int .i64))] 1 [.one (.ro (.int .i64))] fun x => laws_heldIntS x.1 x.2
theorem e36 (x : PK.dens [.one (.ro (.slice (.int .i64))), .one (.ro (.int .i64))]) : evalFn Try.prog EL36 or36 Try.f36 (PK.outs [.one (.ro (.slice (.int .i64))), .one (.ro (.int .i64))] x) =
    laws_heldIntSK (fun y => some (tupOf ((PK.outs [.one (.ro (.int .i64))] y).take 1), (PK.outs [.one (.ro (.int .i64))] y).drop 1)) x.1 x.2 := by kernel_rfl
theorem o36 : LoOk Try.prog EL36 or36 Try.f36.ntmps (loopsIn (codeOf Try.f36)) :=
  LoOk.mk (m := 1) (by kernel_rfl) fun i hi => match i, hi with
    | 0, _ => ⟨Llaws_heldIntS_l0, by kernel_rfl, laws_heldIntS_l0o⟩
    | i + 1, hi => absurd hi (by omega)
theorem k36 : CalleeOk Try.prog 36 c36 := callee_mk Try.func36 (code := codeOf Try.f36) (by kernel_rfl) vL36 mixed o36 fun x y h => (e36 x).trans (p36 _ x.1 x.2 y h)

/-- laws.heldPlan -/
def EL49 : Nat → Option Callee := addE 36 c36 env0
theorem vL49 : EnvOk Try.prog EL49 := EnvOk.nil.add Try.func36 rfl (by kernel_rfl) k36
def laws_heldPlanK {R : Type} (fin : Int → Option R) (x0 : DPlan) (x1 : Int) : Option R :=
  (laws_heldIntS x0.2.1 x1).bind fun y1 =>
  cond (decide (y1 < 0))
  (fin (-1))
  (fin y1)
def laws_heldPlan (x0 : DPlan) (x1 : Int) : Option (Int) := laws_heldPlanK some x0 x1
theorem p49 {R : Type} (fin : Int → Option R) (x0 : DPlan) (x1 : Int) : Par fin (laws_heldPlanK some x0 x1) (laws_heldPlanK fin x0 x1) := by
  unfold laws_heldPlanK
  repeat' (first | exact .fin | exact .none | refine .cond ?_ ?_ | refine .bind fun _ => ?_ | refine .sum (fun _ => ?_) fun _ => ?_)
def c49 : Callee := mkC [.agg [.ro TPlan], .one (.ro (.int .i64))] 1 [.one (.ro (.int .i64))] fun x => laws_heldPlan x.1 x.2
theorem e49 (x : PK.dens [.agg [.ro TPlan], .one (.ro (.int .i64))]) : evalFn Try.prog EL49 or0 Try.f49 (PK.outs [.agg [.ro TPlan], .one (.ro (.int .i64))] x) =
    laws_heldPlanK (fun y => some (tupOf ((PK.outs [.one (.ro (.int .i64))] y).take 1), (PK.outs [.one (.ro (.int .i64))] y).drop 1)) x.1 x.2 := by kernel_rfl
theorem k49 : CalleeOk Try.prog 49 c49 := callee_mk Try.func49 (code := codeOf Try.f49) (by kernel_rfl) vL49 mixed (LoOk.nil (by kernel_rfl)) fun x y h => (e49 x).trans (p49 _ x.1 x.2 y h)

/-- impl.areBlocks -/
def EL135 : Nat → Option Callee := env0
theorem vL135 : EnvOk Try.prog EL135 := EnvOk.nil
def simpl_areBlocks_l0 : LS := ⟨[(0, .one (.dat (.slice (.int .i64)))), (1, .one (.dat (.int .i64))), (7, .one (.dat (.slice (.int .i64)))), (8, .one (.dat (.int .i64))), (9, .one (.dat (.int .i64)))], [], []⟩
def simpl_areBlocks_l0x0 : LS := ⟨[(4, .one (.dat .bool))], [], []⟩
def simpl_areBlocks_l0x1 : LS := ⟨[], [], []⟩
def ximpl_areBlocks_l0 : List (XS ((List Int) × Int × (List Int) × Int)) := [⟨.ret, ⟨[4], [], [], []⟩, simpl_areBlocks_l0x0, Bool, fun i y => ((y, ()), ())⟩,
  ⟨.exit 0, ⟨[], [], [], []⟩, simpl_areBlocks_l0x1, Unit, fun i y => ((), ())⟩]
def impl_areBlocks_l0K {R : Type} (a0 : List Int) (a1 : Int) (a2 : List Int) (a3 : Int) (rc : Int → Option R) (fin : (Bool ⊕ Unit) → Option R) (a4 : Int) : Option R :=
  cond (decide (a4 < a3))
  ((lat a2 a4).bind fun e1 =>
    cond (decide (e1 < 0))
    (fin (.inl false))
    (cond (decide (e1 ≥ a1))
      (fin (.inl false))
      (cond (decide (a4 > 0))
        ((lat a0 (IntKind.i64.wrap (a4 - 1))).bind fun e2 =>
          cond (decide (e1 ≤ e2))
          (fin (.inl false))
          (rc (IntKind.i64.wrap (a4 + 1))))
        (rc (IntKind.i64.wrap (a4 + 1))))))
  (fin (.inr ()))
def impl_areBlocks_l0F (a0 : List Int) (a1 : Int) (a2 : List Int) (a3 : Int) (r : Int → Option (Bool ⊕ Unit)) (x : Int) : Option (Bool ⊕ Unit) := impl_areBlocks_l0K a0 a1 a2 a3 (fun a4 => r a4) some x
theorem impl_areBlocks_l0c (a0 : List Int) (a1 : Int) (a2 : List Int) (a3 : Int) (x : Int) : Ct fun r => impl_areBlocks_l0F a0 a1 a2 a3 r x := by
  unfold impl_areBlocks_l0F impl_areBlocks_l0K
  repeat' (first | exact Ct.const | exact Ct.call | refine Ct.cond ?_ ?_ | refine Ct.bind ?_ fun _ => ?_ | refine Ct.sum (fun _ => ?_) fun _ => ?_)
def impl_areBlocks_l0 (a0 : List Int) (a1 : Int) (a2 : List Int) (a3 : Int) (a4 : Int) : Option (Bool ⊕ Unit) := lim (impl_areBlocks_l0F a0 a1 a2 a3) a4
theorem impl_areBlocks_l0_eq (a0 : List Int) (a1 : Int) (a2 : List Int) (a3 : Int) (a4 : Int) : impl_areBlocks_l0 a0 a1 a2 a3 a4 = impl_areBlocks_l0K a0 a1 a2 a3 (impl_areBlocks_l0 a0 a1 a2 a3) some a4 := lim_eq (impl_areBlocks_l0c a0 a1 a2 a3) a4
theorem impl_areBlocks_l0p {R : Type} (a0 : List Int) (a1 : Int) (a2 : List Int) (a3 : Int) {rc : Int → Option (Bool ⊕ Unit)} {rc' : Int → Option R} {fin : (Bool ⊕ Unit) → Option R} (hr : ∀ a4, Par fin (rc a4) (rc' a4)) (a4 : Int) : Par fin (impl_areBlocks_l0K a0 a1 a2 a3 rc some a4) (impl_areBlocks_l0K a0 a1 a2 a3 rc' fin a4) := by
  unfold impl_areBlocks_l0K
  repeat' (first | exact .fin | exact .none | exact hr _ | refine .cond ?_ ?_ | refine .bind fun _ => ?_ | refine .sum (fun _ => ?_) fun _ => ?_)
def Limpl_areBlocks_l0 : Loop := mkL ⟨[0, 1, 7, 8, 9], [], [], []⟩ simpl_areBlocks_l0 ximpl_areBlocks_l0 (fun (x : ((List Int) × Int × (List Int) × Int × Int × Unit) × (Unit)) => (x.1.1, (x.1.2.1, (x.1.2.2.1, x.1.2.2.2.1)))) fun (x : ((List Int) × Int × (List Int) × Int × Int × Unit) × (Unit)) => impl_areBlocks_l0 x.1.1 x.1.2.1 x.1.2.2.1 x.1.2.2.2.1 x.1.2.2.2.2.1
def impl_areBlocksK {R : Type} (fin : Bool → Option R) (x0 : List Int) (x1 : Int) : Option R :=
  (impl_areBlocks_l0 x0 x1 x0 (x0.length : Int) 0).bind fun y3 =>
  sumO y3 (fun y4 =>
  fin y4)
  (fun y5 =>
  fin true)
def impl_areBlocks (x0 : List Int) (x1 : Int) : Option (Bool) := impl_areBlocksK some x0 x1
theorem p135 {R : Type} (fin : Bool → Option R) (x0 : List Int) (x1 : Int) : Par fin (impl_areBlocksK some x0 x1) (impl_areBlocksK fin x0 x1) := by
  unfold impl_areBlocksK
  repeat' (first | exact .fin | exact .none | refine .cond ?_ ?_ | refine .bind fun _ => ?_ | refine .sum (fun _ => ?_) fun _ => ?_)
def or135 : Ora := { lo := addL 2 (Limpl_areBlocks_l0) lo0, fin := [] }
theorem impl_areBlocks_l0e (a0 : List Int) (a1 : Int) (a2 : List Int) (a3 : Int) (k : Nat) (a4 : Int) : loopC Try.prog EL135 or135 ((loopsIn (codeOf Try.f135)).getD 0 .skip) (Limpl_areBlocks_l0).h (Limpl_areBlocks_l0).ho Try.f135.ntmps (k + 1) (simpl_areBlocks_l0.out ((a0, (a1, (a2, (a3, (a4, ()))))), ())) =
    impl_areBlocks_l0K a0 a1 a2 a3 (fun a4 => loopC Try.prog EL135 or135 ((loopsIn (codeOf Try.f135)).getD 0 .skip) (Limpl_areBlocks_l0).h (Limpl_areBlocks_l0).ho Try.f135.ntmps k (simpl_areBlocks_l0.out ((a0, (a1, (a2, (a3, (a4, ()))))), ()))) (fun y => some (XS.out ximpl_areBlocks_l0 (a0, (a1, (a2, a3))) y)) a4 := by kernel_rfl
theorem impl_areBlocks_l0o : LoopOk Try.prog EL135 or135 Try.f135.ntmps ((loopsIn (codeOf Try.f135)).getD 0 .skip) (Limpl_areBlocks_l0) :=
  loop_lim (hs := simpl_areBlocks_l0) (xs := ximpl_areBlocks_l0) (ι := fun (x : ((List Int) × Int × (List Int) × Int × Int × Unit) × (Unit)) => (x.1.1, (x.1.2.1, (x.1.2.2.1, x.1.2.2.2.1)))) (φ := fun (x : ((List Int) × Int × (List Int) × Int × Int × Unit) × (Unit)) => x.1.2.2.2.2.1) (ψ := fun (i : (List Int) × Int × (List Int) × Int) (v : Int) => ((i.1, (i.2.1, (i.2.2.1, (i.2.2.2, (v, ()))))), ())) (F := fun (i : (List Int) × Int × (List Int) × Int) => impl_areBlocks_l0F i.1 i.2.1 i.2.2.1 i.2.2.2) (fun _ => rfl) fun i k hk v => Par.of_eq (impl_areBlocks_l0e i.1 i.2.1 i.2.2.1 i.2.2.2 k v) (impl_areBlocks_l0p i.1 i.2.1 i.2.2.1 i.2.2.2 (fun a4 => hk a4) v)
def c135 : Callee := mkC [.one (.ro (.slice (.int .i64))), .one (.ro (.int .i64))] 1 [.one (.ro .bool)] fun x => impl_areBlocks x.1 x.2
theorem e135 (x : PK.dens [.one (.ro (.slice (.int .i64))), .one (.ro (.int .i64))]) : evalFn Try.prog EL135 or135 Try.f135 (PK.outs [.one (.ro (.slice (.int .i64))), .one (.ro (.int .i64))] x) =
    impl_areBlocksK (fun y => some (tupOf ((PK.outs [.one (.ro .bool)] y).take 1), (PK.outs [.one (.ro .bool)] y).drop 1)) x.1 x.2 := by kernel_rfl
theorem o135 : LoOk Try.prog EL135 or135 Try.f135.ntmps (loopsIn (codeOf Try.f135)) :=
  LoOk.mk (m := 1) (by kernel_rfl) fun i hi => match i, hi with
    | 0, _ => ⟨Limpl_areBlocks_l0, by kernel_rfl, impl_areBlocks_l0o⟩
    | i + 1, hi => absurd hi (by omega)
theorem k135 : CalleeOk Try.prog 135 c135 := callee_mk Try.func135 (code := codeOf Try.f135) (by kernel_rfl) vL135 mixed o135 fun x y h => (e135 x).trans (p135 _ x.1 x.2 y h)

/-- impl.AreArcs -/
def EL130 : Nat → Option Callee := addE 135 c135 env0
theorem vL130 : EnvOk Try.prog EL130 := EnvOk.nil.add Try.func135 rfl (by kernel_rfl) k135
def simpl_AreArcs_l0 : LS := ⟨[(13, .one (.dat (.slice (.slice (.int .i64))))), (14, .one (.dat (.int .i64))), (15, .one (.dat (.int .i64)))], [], []⟩
def simpl_AreArcs_l0x0 : LS := ⟨[(2, .one (.dat .bool))], [], []⟩
def simpl_AreArcs_l0x1 : LS := ⟨[], [], []⟩
def ximpl_AreArcs_l0 : List (XS ((List (List Int)) × Int)) := [⟨.ret, ⟨[2], [], [], []⟩, simpl_AreArcs_l0x0, Bool, fun i y => ((y, ()), ())⟩,
  ⟨.exit 0, ⟨[], [], [], []⟩, simpl_AreArcs_l0x1, Unit, fun i y => ((), ())⟩]
def impl_AreArcs_l0K {R : Type} (a0 : List (List Int)) (a1 : Int) (rc : Int → Option R) (fin : (Bool ⊕ Unit) → Option R) (a2 : Int) : Option R :=
  cond (decide (a2 < a1))
  ((lat a0 a2).bind fun e1 =>
    (impl_areBlocks e1 a2).bind fun y2 =>
    cond (!y2)
    (fin (.inl false))
    (rc (IntKind.i64.wrap (a2 + 1))))
  (fin (.inr ()))
def impl_AreArcs_l0F (a0 : List (List Int)) (a1 : Int) (r : Int → Option (Bool ⊕ Unit)) (x : Int) : Option (Bool ⊕ Unit) := impl_AreArcs_l0K a0 a1 (fun a2 => r a2) some x
theorem impl_AreArcs_l0c (a0 : List (List Int)) (a1 : Int) (x : Int) : Ct fun r => impl_AreArcs_l0F a0 a1 r x := by
  unfold impl_AreArcs_l0F impl_AreArcs_l0K
  repeat' (first | exact Ct.const | exact Ct.call | refine Ct.cond ?_ ?_ | refine Ct.bind ?_ fun _ => ?_ | refine Ct.sum (fun _ => ?_) fun _ => ?_)
def impl_AreArcs_l0 (a0 : List (List Int)) (a1 : Int) (a2 : Int) : Option (Bool ⊕ Unit) := lim (impl_AreArcs_l0F a0 a1) a2
theorem impl_AreArcs_l0_eq (a0 : List (List Int)) (a1 : Int) (a2 : Int) : impl_AreArcs_l0 a0 a1 a2 = impl_AreArcs_l0K a0 a1 (impl_AreArcs_l0 a0 a1) some a2 := lim_eq (impl_AreArcs_l0c a0 a1) a2
theorem impl_AreArcs_l0p {R : Type} (a0 : List (List Int)) (a1 : Int) {rc : Int → Option (Bool ⊕ Unit)} {rc' : Int → Option R} {fin : (Bool ⊕ Unit) → Option R} (hr : ∀ a2, Par fin (rc a2) (rc' a2)) (a2 : Int) : Par fin (impl_AreArcs_l0K a0 a1 rc some a2) (impl_AreArcs_l0K a0 a1 rc' fin a2) := by
  unfold impl_AreArcs_l0K
  repeat' (first | exact .fin | exact .none | exact hr _ | refine .cond ?_ ?_ | refine .bind fun _ => ?_ | refine .sum (fun _ => ?_) fun _ => ?_)
def Limpl_AreArcs_l0 : Loop := mkL ⟨[13, 14, 15], [], [], []⟩ simpl_AreArcs_l0 ximpl_AreArcs_l0 (fun (x : ((List (List Int)) × Int × Int × Unit) × (Unit)) => (x.1.1, x.1.2.1)) fun (x : ((List (List Int)) × Int × Int × Unit) × (Unit)) => impl_AreArcs_l0 x.1.1 x.1.2.1 x.1.2.2.1
def impl_AreArcsK {R : Type} (fin : Bool → Option R) (x0 : List (List Int)) : Option R :=
  cond (decide ((x0.length : Int) < 1))
  (fin false)
  (cond (decide ((x0.length : Int) > 120))
    (fin false)
    ((impl_AreArcs_l0 x0 (x0.length : Int) 0).bind fun y3 =>
      sumO y3 (fun y4 =>
      fin y4)
      (fun y5 =>
      fin true)))
def impl_AreArcs (x0 : List (List Int)) : Option (Bool) := impl_AreArcsK some x0
theorem p130 {R : Type} (fin : Bool → Option R) (x0 : List (List Int)) : Par fin (impl_AreArcsK some x0) (impl_AreArcsK fin x0) := by
  unfold impl_AreArcsK
  repeat' (first | exact .fin | exact .none | refine .cond ?_ ?_ | refine .bind fun _ => ?_ | refine .sum (fun _ => ?_) fun _ => ?_)
def or130 : Ora := { lo := addL 4 (Limpl_AreArcs_l0) lo0, fin := [] }
theorem impl_AreArcs_l0e (a0 : List (List Int)) (a1 : Int) (k : Nat) (a2 : Int) : loopC Try.prog EL130 or130 ((loopsIn (codeOf Try.f130)).getD 0 .skip) (Limpl_AreArcs_l0).h (Limpl_AreArcs_l0).ho Try.f130.ntmps (k + 1) (simpl_AreArcs_l0.out ((a0, (a1, (a2, ()))), ())) =
    impl_AreArcs_l0K a0 a1 (fun a2 => loopC Try.prog EL130 or130 ((loopsIn (codeOf Try.f130)).getD 0 .skip) (Limpl_AreArcs_l0).h (Limpl_AreArcs_l0).ho Try.f130.ntmps k (simpl_AreArcs_l0.out ((a0, (a1, (a2, ()))), ()))) (fun y => some (XS.out ximpl_AreArcs_l0 (a0, a1) y)) a2 := by kernel_rfl
theorem impl_AreArcs_l0o : LoopOk Try.prog EL130 or130 Try.f130.ntmps ((loopsIn (codeOf Try.f130)).getD 0 .skip) (Limpl_AreArcs_l0) :=
  loop_lim (hs := simpl_AreArcs_l0) (xs := ximpl_AreArcs_l0) (ι := fun (x : ((List (List Int)) × Int × Int × Unit) × (Unit)) => (x.1.1, x.1.2.1)) (φ := fun (x : ((List (List Int)) × Int × Int × Unit) × (Unit)) => x.1.2.2.1) (ψ := fun (i : (List (List Int)) × Int) (v : Int) => ((i.1, (i.2, (v, ()))), ())) (F := fun (i : (List (List Int)) × Int) => impl_AreArcs_l0F i.1 i.2) (fun _ => rfl) fun i k hk v => Par.of_eq (impl_AreArcs_l0e i.1 i.2 k v) (impl_AreArcs_l0p i.1 i.2 (fun a2 => hk a2) v)
def c130 : Callee := mkC [.one (.ro (.slice (.slice (.int .i64))))] 1 [.one (.ro .bool)] fun x => impl_AreArcs x
theorem e130 (x : PK.dens [.one (.ro (.slice (.slice (.int .i64))))]) : evalFn Try.prog EL130 or130 Try.f130 (PK.outs [.one (.ro (.slice (.slice (.int .i64))))] x) =
    impl_AreArcsK (fun y => some (tupOf ((PK.outs [.one (.ro .bool)] y).take 1), (PK.outs [.one (.ro .bool)] y).drop 1)) x := by kernel_rfl
theorem o130 : LoOk Try.prog EL130 or130 Try.f130.ntmps (loopsIn (codeOf Try.f130)) :=
  LoOk.mk (m := 1) (by kernel_rfl) fun i hi => match i, hi with
    | 0, _ => ⟨Limpl_AreArcs_l0, by kernel_rfl, impl_AreArcs_l0o⟩
    | i + 1, hi => absurd hi (by omega)
theorem k130 : CalleeOk Try.prog 130 c130 := callee_mk Try.func130 (code := codeOf Try.f130) (by kernel_rfl) vL130 mixed o130 fun x y h => (e130 x).trans (p130 _ x y h)

/-- impl.goodValues -/
def EL131 : Nat → Option Callee := env0
theorem vL131 : EnvOk Try.prog EL131 := EnvOk.nil
def simpl_goodValues_l0 : LS := ⟨[(13, .one (.dat (.slice (.int .i64)))), (14, .one (.dat (.int .i64))), (15, .one (.dat (.int .i64)))], [], []⟩
def simpl_goodValues_l0x0 : LS := ⟨[(2, .one (.dat .bool))], [], []⟩
def simpl_goodValues_l0x1 : LS := ⟨[], [], []⟩
def ximpl_goodValues_l0 : List (XS ((List Int) × Int)) := [⟨.ret, ⟨[2], [], [], []⟩, simpl_goodValues_l0x0, Bool, fun i y => ((y, ()), ())⟩,
  ⟨.exit 0, ⟨[], [], [], []⟩, simpl_goodValues_l0x1, Unit, fun i y => ((), ())⟩]
def impl_goodValues_l0K {R : Type} (a0 : List Int) (a1 : Int) (rc : Int → Option R) (fin : (Bool ⊕ Unit) → Option R) (a2 : Int) : Option R :=
  cond (decide (a2 < a1))
  ((lat a0 a2).bind fun e1 =>
    cond (decide (e1 < (-1000000)))
    (fin (.inl false))
    (cond (decide (e1 > 1000000))
      (fin (.inl false))
      (rc (IntKind.i64.wrap (a2 + 1)))))
  (fin (.inr ()))
def impl_goodValues_l0F (a0 : List Int) (a1 : Int) (r : Int → Option (Bool ⊕ Unit)) (x : Int) : Option (Bool ⊕ Unit) := impl_goodValues_l0K a0 a1 (fun a2 => r a2) some x
theorem impl_goodValues_l0c (a0 : List Int) (a1 : Int) (x : Int) : Ct fun r => impl_goodValues_l0F a0 a1 r x := by
  unfold impl_goodValues_l0F impl_goodValues_l0K
  repeat' (first | exact Ct.const | exact Ct.call | refine Ct.cond ?_ ?_ | refine Ct.bind ?_ fun _ => ?_ | refine Ct.sum (fun _ => ?_) fun _ => ?_)
def impl_goodValues_l0 (a0 : List Int) (a1 : Int) (a2 : Int) : Option (Bool ⊕ Unit) := lim (impl_goodValues_l0F a0 a1) a2
theorem impl_goodValues_l0_eq (a0 : List Int) (a1 : Int) (a2 : Int) : impl_goodValues_l0 a0 a1 a2 = impl_goodValues_l0K a0 a1 (impl_goodValues_l0 a0 a1) some a2 := lim_eq (impl_goodValues_l0c a0 a1) a2
theorem impl_goodValues_l0p {R : Type} (a0 : List Int) (a1 : Int) {rc : Int → Option (Bool ⊕ Unit)} {rc' : Int → Option R} {fin : (Bool ⊕ Unit) → Option R} (hr : ∀ a2, Par fin (rc a2) (rc' a2)) (a2 : Int) : Par fin (impl_goodValues_l0K a0 a1 rc some a2) (impl_goodValues_l0K a0 a1 rc' fin a2) := by
  unfold impl_goodValues_l0K
  repeat' (first | exact .fin | exact .none | exact hr _ | refine .cond ?_ ?_ | refine .bind fun _ => ?_ | refine .sum (fun _ => ?_) fun _ => ?_)
def Limpl_goodValues_l0 : Loop := mkL ⟨[13, 14, 15], [], [], []⟩ simpl_goodValues_l0 ximpl_goodValues_l0 (fun (x : ((List Int) × Int × Int × Unit) × (Unit)) => (x.1.1, x.1.2.1)) fun (x : ((List Int) × Int × Int × Unit) × (Unit)) => impl_goodValues_l0 x.1.1 x.1.2.1 x.1.2.2.1
def impl_goodValuesK {R : Type} (fin : Bool → Option R) (x0 : List Int) : Option R :=
  cond (decide ((x0.length : Int) < 1))
  (fin false)
  (cond (decide ((x0.length : Int) > 120))
    (fin false)
    ((impl_goodValues_l0 x0 (x0.length : Int) 0).bind fun y2 =>
      sumO y2 (fun y3 =>
      fin y3)
      (fun y4 =>
      fin true)))
def impl_goodValues (x0 : List Int) : Option (Bool) := impl_goodValuesK some x0
theorem p131 {R : Type} (fin : Bool → Option R) (x0 : List Int) : Par fin (impl_goodValuesK some x0) (impl_goodValuesK fin x0) := by
  unfold impl_goodValuesK
  repeat' (first | exact .fin | exact .none | refine .cond ?_ ?_ | refine .bind fun _ => ?_ | refine .sum (fun _ => ?_) fun _ => ?_)
def or131 : Ora := { lo := addL 4 (Limpl_goodValues_l0) lo0, fin := [] }
theorem impl_goodValues_l0e (a0 : List Int) (a1 : Int) (k : Nat) (a2 : Int) : loopC Try.prog EL131 or131 ((loopsIn (codeOf Try.f131)).getD 0 .skip) (Limpl_goodValues_l0).h (Limpl_goodValues_l0).ho Try.f131.ntmps (k + 1) (simpl_goodValues_l0.out ((a0, (a1, (a2, ()))), ())) =
    impl_goodValues_l0K a0 a1 (fun a2 => loopC Try.prog EL131 or131 ((loopsIn (codeOf Try.f131)).getD 0 .skip) (Limpl_goodValues_l0).h (Limpl_goodValues_l0).ho Try.f131.ntmps k (simpl_goodValues_l0.out ((a0, (a1, (a2, ()))), ()))) (fun y => some (XS.out ximpl_goodValues_l0 (a0, a1) y)) a2 := by kernel_rfl
theorem impl_goodValues_l0o : LoopOk Try.prog EL131 or131 Try.f131.ntmps ((loopsIn (codeOf Try.f131)).getD 0 .skip) (Limpl_goodValues_l0) :=
  loop_lim (hs := simpl_goodValues_l0) (xs := ximpl_goodValues_l0) (ι := fun (x : ((List Int) × Int × Int × Unit) × (Unit)) => (x.1.1, x.1.2.1)) (φ := fun (x : ((List Int) × Int × Int × Unit) × (Unit)) => x.1.2.2.1) (ψ := fun (i : (List Int) × Int) (v : Int) => ((i.1, (i.2, (v, ()))), ())) (F := fun (i : (List Int) × Int) => impl_goodValues_l0F i.1 i.2) (fun _ => rfl) fun i k hk v => Par.of_eq (impl_goodValues_l0e i.1 i.2 k v) (impl_goodValues_l0p i.1 i.2 (fun a2 => hk a2) v)
def c131 : Callee := mkC [.one (.ro (.slice (.int .i64)))] 1 [.one (.ro .bool)] fun x => impl_goodValues x
theorem e131 (x : PK.dens [.one (.ro (.slice (.int .i64)))]) : evalFn Try.prog EL131 or131 Try.f131 (PK.outs [.one (.ro (.slice (.int .i64)))] x) =
    impl_goodValuesK (fun y => some (tupOf ((PK.outs [.one (.ro .bool)] y).take 1), (PK.outs [.one (.ro .bool)] y).drop 1)) x := by kernel_rfl
theorem o131 : LoOk Try.prog EL131 or131 Try.f131.ntmps (loopsIn (codeOf Try.f131)) :=
  LoOk.mk (m := 1) (by kernel_rfl) fun i hi => match i, hi with
    | 0, _ => ⟨Limpl_goodValues_l0, by kernel_rfl, impl_goodValues_l0o⟩
    | i + 1, hi => absurd hi (by omega)
theorem k131 : CalleeOk Try.prog 131 c131 := callee_mk Try.func131 (code := codeOf Try.f131) (by kernel_rfl) vL131 mixed o131 fun x y h => (e131 x).trans (p131 _ x y h)

/-- impl.areValued -/
def EL113 : Nat → Option Callee := addE 131 c131 (addE 130 c130 env0)
theorem vL113 : EnvOk Try.prog EL113 := (EnvOk.nil.add Try.func130 rfl (by kernel_rfl) k130).add Try.func131 rfl (by kernel_rfl) k131
def impl_areValuedK {R : Type} (fin : Bool → Option R) (x0 : List (List Int)) (x1 : List Int) : Option R :=
  (impl_AreArcs x0).bind fun y1 =>
  cond (y1)
  ((impl_goodValues x1).bind fun y2 =>
    cond (y2)
    (fin ((x1.length : Int) == (x0.length : Int)))
    (fin false))
  (fin false)
def impl_areValued (x0 : List (List Int)) (x1 : List Int) : Option (Bool) := impl_areValuedK some x0 x1
theorem p113 {R : Type} (fin : Bool → Option R) (x0 : List (List Int)) (x1 : List Int) : Par fin (impl_areValuedK some x0 x1) (impl_areValuedK fin x0 x1) := by
  unfold impl_areValuedK
  repeat' (first | exact .fin | exact .none | refine .cond ?_ ?_ | refine .bind fun _ => ?_ | refine .sum (fun _ => ?_) fun _ => ?_)
def c113 : Callee := mkC [.one (.ro (.slice (.slice (.int .i64)))), .one (.ro (.slice (.int .i64)))] 1 [.one (.ro .bool)] fun x => impl_areValued x.1 x.2
theorem e113 (x : PK.dens [.one (.ro (.slice (.slice (.int .i64)))), .one (.ro (.slice (.int .i64)))]) : evalFn Try.prog EL113 or0 Try.f113 (PK.outs [.one (.ro (.slice (.slice (.int .i64)))), .one (.ro (.slice (.int .i64)))] x) =
    impl_areValuedK (fun y => some (tupOf ((PK.outs [.one (.ro .bool)] y).take 1), (PK.outs [.one (.ro .bool)] y).drop 1)) x.1 x.2 := by kernel_rfl
theorem k113 : CalleeOk Try.prog 113 c113 := callee_mk Try.func113 (code := codeOf Try.f113) (by kernel_rfl) vL113 mixed (LoOk.nil (by kernel_rfl)) fun x y h => (e113 x).trans (p113 _ x.1 x.2 y h)

/-- impl.IsJob -/
def EL70 : Nat → Option Callee := addE 113 c113 env0
theorem vL70 : EnvOk Try.prog EL70 := EnvOk.nil.add Try.func113 rfl (by kernel_rfl) k113
def simpl_IsJob_l0 : LS := ⟨[(1, .one (.fix (.ptr 0 0))), (21, .one (.dat (.slice (.int .i64)))), (22, .one (.dat (.int .i64))), (23, .one (.dat (.int .i64)))], [.box [.dat (.slice (.slice (.int .i64))), .dat (.slice (.int .i64)), .dat (.slice (.int .i64)), .dat (.int .i64), .dat (.int .i64), .dat (.int .i64), .dat (.int .i64), .dat (.int .i64)]], []⟩
def simpl_IsJob_l0x0 : LS := ⟨[(2, .one (.dat .bool))], [], []⟩
def simpl_IsJob_l0x1 : LS := ⟨[(1, .one (.fix (.ptr 0 0)))], [.box [.dat (.slice (.slice (.int .i64))), .dat (.slice (.int .i64)), .dat (.slice (.int .i64)), .dat (.int .i64), .dat (.int .i64), .dat (.int .i64), .dat (.int .i64), .dat (.int .i64)]], []⟩
def ximpl_IsJob_l0 : List (XS ((List Int) × Int × (List (List Int)) × (List Int) × (List Int) × Int × Int × Int × Int × Int)) := [⟨.ret, ⟨[2], [], [], []⟩, simpl_IsJob_l0x0, Bool, fun i y => ((y, ()), ())⟩,
  ⟨.exit 0, ⟨[1], [.slot 1], [], []⟩, simpl_IsJob_l0x1, Unit, fun i y => (((), ()), ((i.2.2.1, (i.2.2.2.1, (i.2.2.2.2.1, (i.2.2.2.2.2.1, (i.2.2.2.2.2.2.1, (i.2.2.2.2.2.2.2.1, (i.2.2.2.2.2.2.2.2.1, (i.2.2.2.2.2.2.2.2.2, ())))))))), ()))⟩]
def impl_IsJob_l0K {R : Type} (a0 : List Int) (a1 : Int) (rc : Int → Option R) (fin : (Bool ⊕ Unit) → Option R) (a2 : Int) : Option R :=
  cond (decide (a2 < a1))
  ((lat a0 a2).bind fun e1 =>
    cond (decide (e1 < 0))
    (fin (.inl false))
    (cond (decide (e1 > 10000))
      (fin (.inl false))
      (rc (IntKind.i64.wrap (a2 + 1)))))
  (fin (.inr ()))
def impl_IsJob_l0F (a0 : List Int) (a1 : Int) (r : Int → Option (Bool ⊕ Unit)) (x : Int) : Option (Bool ⊕ Unit) := impl_IsJob_l0K a0 a1 (fun a2 => r a2) some x
theorem impl_IsJob_l0c (a0 : List Int) (a1 : Int) (x : Int) : Ct fun r => impl_IsJob_l0F a0 a1 r x := by
  unfold impl_IsJob_l0F impl_IsJob_l0K
  repeat' (first | exact Ct.const | exact Ct.call | refine Ct.cond ?_ ?_ | refine Ct.bind ?_ fun _ => ?_ | refine Ct.sum (fun _ => ?_) fun _ => ?_)
def impl_IsJob_l0 (a0 : List Int) (a1 : Int) (a2 : Int) : Option (Bool ⊕ Unit) := lim (impl_IsJob_l0F a0 a1) a2
theorem impl_IsJob_l0_eq (a0 : List Int) (a1 : Int) (a2 : Int) : impl_IsJob_l0 a0 a1 a2 = impl_IsJob_l0K a0 a1 (impl_IsJob_l0 a0 a1) some a2 := lim_eq (impl_IsJob_l0c a0 a1) a2
theorem impl_IsJob_l0p {R : Type} (a0 : List Int) (a1 : Int) {rc : Int → Option (Bool ⊕ Unit)} {rc' : Int → Option R} {fin : (Bool ⊕ Unit) → Option R} (hr : ∀ a2, Par fin (rc a2) (rc' a2)) (a2 : Int) : Par fin (impl_IsJob_l0K a0 a1 rc some a2) (impl_IsJob_l0K a0 a1 rc' fin a2) := by
  unfold impl_IsJob_l0K
  repeat' (first | exact .fin | exact .none | exact hr _ | refine .cond ?_ ?_ | refine .bind fun _ => ?_ | refine .sum (fun _ => ?_) fun _ => ?_)
def Limpl_IsJob_l0 : Loop := mkL ⟨[1, 21, 22, 23], [.slot 1], [], []⟩ simpl_IsJob_l0 ximpl_IsJob_l0 (fun (x : (Unit × (List Int) × Int × Int × Unit) × (((List (List Int)) × (List Int) × (List Int) × Int × Int × Int × Int × Int × Unit) × Unit)) => (x.1.2.1, (x.1.2.2.1, (x.2.1.1, (x.2.1.2.1, (x.2.1.2.2.1, (x.2.1.2.2.2.1, (x.2.1.2.2.2.2.1, (x.2.1.2.2.2.2.2.1, (x.2.1.2.2.2.2.2.2.1, x.2.1.2.2.2.2.2.2.2.1)))))))))) fun (x : (Unit × (List Int) × Int × Int × Unit) × (((List (List Int)) × (List Int) × (List Int) × Int × Int × Int × Int × Int × Unit) × Unit)) => impl_IsJob_l0 x.1.2.1 x.1.2.2.1 x.1.2.2.2.1
def impl_IsJobK {R : Type} (fin : Bool → Option R) (x0 : DJob) : Option R :=
  (impl_areValued x0.1 x0.2.2.1).bind fun y1 =>
  cond (!y1)
  (fin false)
  (cond ((x0.2.1.length : Int) != (x0.1.length : Int))
    (fin false)
    ((impl_IsJob_l0 x0.2.1 (x0.2.1.length : Int) 0).bind fun y3 =>
      sumO y3 (fun y4 =>
      fin y4)
      (fun y5 =>
      cond (decide (x0.2.2.2.1.1 ≥ 0))
        (cond (decide (x0.2.2.2.1.1 ≤ 1000000))
          (cond (decide (x0.2.2.2.1.2.1 ≥ 0))
            (cond (decide (x0.2.2.2.1.2.1 ≤ 1000000))
              (cond (decide (x0.2.2.2.2.1 ≥ 1))
                (cond (decide (x0.2.2.2.2.1 ≤ 6))
                  (cond (decide (x0.2.2.2.2.2.1 ≥ 1))
                    (cond (decide (x0.2.2.2.2.2.1 ≤ x0.2.2.2.2.2.2.1))
                      (fin (decide (x0.2.2.2.2.2.2.1 ≤ 20)))
                      (fin false))
                    (fin false))
                  (fin false))
                (fin false))
              (fin false))
            (fin false))
          (fin false))
        (fin false))))
def impl_IsJob (x0 : DJob) : Option (Bool) := impl_IsJobK some x0
theorem p70 {R : Type} (fin : Bool → Option R) (x0 : DJob) : Par fin (impl_IsJobK some x0) (impl_IsJobK fin x0) := by
  unfold impl_IsJobK
  repeat' (first | exact .fin | exact .none | refine .cond ?_ ?_ | refine .bind fun _ => ?_ | refine .sum (fun _ => ?_) fun _ => ?_)
def or70 : Ora := { lo := addL 4 (Limpl_IsJob_l0) lo0, fin := [] }
theorem impl_IsJob_l0e (a0 : List Int) (a1 : Int) (a3 : List (List Int)) (a4 : List Int) (a5 : List Int) (a6 : Int) (a7 : Int) (a8 : Int) (a9 : Int) (a10 : Int) (k : Nat) (a2 : Int) : loopC Try.prog EL70 or70 ((loopsIn (codeOf Try.f70)).getD 0 .skip) (Limpl_IsJob_l0).h (Limpl_IsJob_l0).ho Try.f70.ntmps (k + 1) (simpl_IsJob_l0.out (((), (a0, (a1, (a2, ())))), ((a3, (a4, (a5, (a6, (a7, (a8, (a9, (a10, ())))))))), ()))) =
    impl_IsJob_l0K a0 a1 (fun a2 => loopC Try.prog EL70 or70 ((loopsIn (codeOf Try.f70)).getD 0 .skip) (Limpl_IsJob_l0).h (Limpl_IsJob_l0).ho Try.f70.ntmps k (simpl_IsJob_l0.out (((), (a0, (a1, (a2, ())))), ((a3, (a4, (a5, (a6, (a7, (a8, (a9, (a10, ())))))))), ())))) (fun y => some (XS.out ximpl_IsJob_l0 (a0, (a1, (a3, (a4, (a5, (a6, (a7, (a8, (a9, a10))))))))) y)) a2 := by kernel_rfl
theorem impl_IsJob_l0o : LoopOk Try.prog EL70 or70 Try.f70.ntmps ((loopsIn (codeOf Try.f70)).getD 0 .skip) (Limpl_IsJob_l0) :=
  loop_lim (hs := simpl_IsJob_l0) (xs := ximpl_IsJob_l0) (ι := fun (x : (Unit × (List Int) × Int × Int × Unit) × (((List (List Int)) × (List Int) × (List Int) × Int × Int × Int × Int × Int × Unit) × Unit)) => (x.1.2.1, (x.1.2.2.1, (x.2.1.1, (x.2.1.2.1, (x.2.1.2.2.1, (x.2.1.2.2.2.1, (x.2.1.2.2.2.2.1, (x.2.1.2.2.2.2.2.1, (x.2.1.2.2.2.2.2.2.1, x.2.1.2.2.2.2.2.2.2.1)))))))))) (φ := fun (x : (Unit × (List Int) × Int × Int × Unit) × (((List (List Int)) × (List Int) × (List Int) × Int × Int × Int × Int × Int × Unit) × Unit)) => x.1.2.2.2.1) (ψ := fun (i : (List Int) × Int × (List (List Int)) × (List Int) × (List Int) × Int × Int × Int × Int × Int) (v : Int) => (((), (i.1, (i.2.1, (v, ())))), ((i.2.2.1, (i.2.2.2.1, (i.2.2.2.2.1, (i.2.2.2.2.2.1, (i.2.2.2.2.2.2.1, (i.2.2.2.2.2.2.2.1, (i.2.2.2.2.2.2.2.2.1, (i.2.2.2.2.2.2.2.2.2, ())))))))), ()))) (F := fun (i : (List Int) × Int × (List (List Int)) × (List Int) × (List Int) × Int × Int × Int × Int × Int) => impl_IsJob_l0F i.1 i.2.1) (fun _ => rfl) fun i k hk v => Par.of_eq (impl_IsJob_l0e i.1 i.2.1 i.2.2.1 i.2.2.2.1 i.2.2.2.2.1 i.2.2.2.2.2.1 i.2.2.2.2.2.2.1 i.2.2.2.2.2.2.2.1 i.2.2.2.2.2.2.2.2.1 i.2.2.2.2.2.2.2.2.2 k v) (impl_IsJob_l0p i.1 i.2.1 (fun a2 => hk a2) v)
def c70 : Callee := mkC [.agg [.ro TJob]] 1 [.one (.ro .bool)] fun x => impl_IsJob x
theorem e70 (x : PK.dens [.agg [.ro TJob]]) : evalFn Try.prog EL70 or70 Try.f70 (PK.outs [.agg [.ro TJob]] x) =
    impl_IsJobK (fun y => some (tupOf ((PK.outs [.one (.ro .bool)] y).take 1), (PK.outs [.one (.ro .bool)] y).drop 1)) x := by kernel_rfl
theorem o70 : LoOk Try.prog EL70 or70 Try.f70.ntmps (loopsIn (codeOf Try.f70)) :=
  LoOk.mk (m := 1) (by kernel_rfl) fun i hi => match i, hi with
    | 0, _ => ⟨Limpl_IsJob_l0, by kernel_rfl, impl_IsJob_l0o⟩
    | i + 1, hi => absurd hi (by omega)
theorem k70 : CalleeOk Try.prog 70 c70 := callee_mk Try.func70 (code := codeOf Try.f70) (by kernel_rfl) vL70 mixed o70 fun x y h => (e70 x).trans (p70 _ x y h)

/-- impl.isPlan -/
def EL78 : Nat → Option Callee := env0
theorem vL78 : EnvOk Try.prog EL78 := EnvOk.nil
def simpl_isPlan_l0 : LS := ⟨[(2, .one (.fix (.ptr 0 0))), (22, .one (.dat (.slice (.int .i64)))), (23, .one (.dat (.int .i64))), (24, .one (.dat (.int .i64)))], [.box [.dat (.slice (.slice (.int .i64))), .dat (.slice (.int .i64)), .dat (.slice (.int .i64)), .dat (.int .i64), .dat (.int .i64), .dat (.int .i64), .dat (.int .i64), .dat (.int .i64)]], []⟩
def simpl_isPlan_l0x0 : LS := ⟨[(4, .one (.dat .bool))], [], []⟩
def simpl_isPlan_l0x1 : LS := ⟨[], [], []⟩
def ximpl_isPlan_l0 : List (XS ((List Int) × Int × (List (List Int)) × (List Int) × (List Int) × Int × Int × Int × Int × Int)) := [⟨.ret, ⟨[4], [], [], []⟩, simpl_isPlan_l0x0, Bool, fun i y => ((y, ()), ())⟩,
  ⟨.exit 0, ⟨[], [], [], []⟩, simpl_isPlan_l0x1, Unit, fun i y => ((), ())⟩]
def impl_isPlan_l0K {R : Type} (a0 : List Int) (a1 : Int) (a8 : Int) (rc : Int → Option R) (fin : (Bool ⊕ Unit) → Option R) (a2 : Int) : Option R :=
  cond (decide (a2 < a1))
  ((lat a0 a2).bind fun e1 =>
    cond (decide (e1 < (-1)))
    (fin (.inl false))
    (cond (decide (e1 ≥ a8))
      (fin (.inl false))
      (rc (IntKind.i64.wrap (a2 + 1)))))
  (fin (.inr ()))
def impl_isPlan_l0F (a0 : List Int) (a1 : Int) (a8 : Int) (r : Int → Option (Bool ⊕ Unit)) (x : Int) : Option (Bool ⊕ Unit) := impl_isPlan_l0K a0 a1 a8 (fun a2 => r a2) some x
theorem impl_isPlan_l0c (a0 : List Int) (a1 : Int) (a8 : Int) (x : Int) : Ct fun r => impl_isPlan_l0F a0 a1 a8 r x := by
  unfold impl_isPlan_l0F impl_isPlan_l0K
  repeat' (first | exact Ct.const | exact Ct.call | refine Ct.cond ?_ ?_ | refine Ct.bind ?_ fun _ => ?_ | refine Ct.sum (fun _ => ?_) fun _ => ?_)
def impl_isPlan_l0 (a0 : List Int) (a1 : Int) (a8 : Int) (a2 : Int) : Option (Bool ⊕ Unit) := lim (impl_isPlan_l0F a0 a1 a8) a2
theorem impl_isPlan_l0_eq (a0 : List Int) (a1 : Int) (a8 : Int) (a2 : Int) : impl_isPlan_l0 a0 a1 a8 a2 = impl_isPlan_l0K a0 a1 a8 (impl_isPlan_l0 a0 a1 a8) some a2 := lim_eq (impl_isPlan_l0c a0 a1 a8) a2
theorem impl_isPlan_l0p {R : Type} (a0 : List Int) (a1 : Int) (a8 : Int) {rc : Int → Option (Bool ⊕ Unit)} {rc' : Int → Option R} {fin : (Bool ⊕ Unit) → Option R} (hr : ∀ a2, Par fin (rc a2) (rc' a2)) (a2 : Int) : Par fin (impl_isPlan_l0K a0 a1 a8 rc some a2) (impl_isPlan_l0K a0 a1 a8 rc' fin a2) := by
  unfold impl_isPlan_l0K
  repeat' (first | exact .fin | exact .none | exact hr _ | refine .cond ?_ ?_ | refine .bind fun _ => ?_ | refine .sum (fun _ => ?_) fun _ => ?_)
def Limpl_isPlan_l0 : Loop := mkL ⟨[2, 22, 23, 24], [.slot 2], [], []⟩ simpl_isPlan_l0 ximpl_isPlan_l0 (fun (x : (Unit × (List Int) × Int × Int × Unit) × (((List (List Int)) × (List Int) × (List Int) × Int × Int × Int × Int × Int × Unit) × Unit)) => (x.1.2.1, (x.1.2.2.1, (x.2.1.1, (x.2.1.2.1, (x.2.1.2.2.1, (x.2.1.2.2.2.1, (x.2.1.2.2.2.2.1, (x.2.1.2.2.2.2.2.1, (x.2.1.2.2.2.2.2.2.1, x.2.1.2.2.2.2.2.2.2.1)))))))))) fun (x : (Unit × (List Int) × Int × Int × Unit) × (((List (List Int)) × (List Int) × (List Int) × Int × Int × Int × Int × Int × Unit) × Unit)) => impl_isPlan_l0 x.1.2.1 x.1.2.2.1 x.2.1.2.2.2.2.2.1 x.1.2.2.2.1
def impl_isPlanK {R : Type} (fin : Bool → Option R) (x0 : DJob) (x1 : DPlan) : Option R :=
  cond (x1.1 != x0.2.2.2.2.1)
  (fin false)
  (cond ((x1.2.1.length : Int) != (x0.1.length : Int))
    (fin false)
    ((impl_isPlan_l0 x1.2.1 (x1.2.1.length : Int) x0.2.2.2.2.1 0).bind fun y2 =>
      sumO y2 (fun y3 =>
      fin y3)
      (fun y4 =>
      fin true)))
def impl_isPlan (x0 : DJob) (x1 : DPlan) : Option (Bool) := impl_isPlanK some x0 x1
theorem p78 {R : Type} (fin : Bool → Option R) (x0 : DJob) (x1 : DPlan) : Par fin (impl_isPlanK some x0 x1) (impl_isPlanK fin x0 x1) := by
  unfold impl_isPlanK
  repeat' (first | exact .fin | exact .none | refine .cond ?_ ?_ | refine .bind fun _ => ?_ | refine .sum (fun _ => ?_) fun _ => ?_)
def or78 : Ora := { lo := addL 4 (Limpl_isPlan_l0) lo0, fin := [] }
theorem impl_isPlan_l0e (a0 : List Int) (a1 : Int) (a3 : List (List Int)) (a4 : List Int) (a5 : List Int) (a6 : Int) (a7 : Int) (a8 : Int) (a9 : Int) (a10 : Int) (k : Nat) (a2 : Int) : loopC Try.prog EL78 or78 ((loopsIn (codeOf Try.f78)).getD 0 .skip) (Limpl_isPlan_l0).h (Limpl_isPlan_l0).ho Try.f78.ntmps (k + 1) (simpl_isPlan_l0.out (((), (a0, (a1, (a2, ())))), ((a3, (a4, (a5, (a6, (a7, (a8, (a9, (a10, ())))))))), ()))) =
    impl_isPlan_l0K a0 a1 a8 (fun a2 => loopC Try.prog EL78 or78 ((loopsIn (codeOf Try.f78)).getD 0 .skip) (Limpl_isPlan_l0).h (Limpl_isPlan_l0).ho Try.f78.ntmps k (simpl_isPlan_l0.out (((), (a0, (a1, (a2, ())))), ((a3, (a4, (a5, (a6, (a7, (a8, (a9, (a10, ())))))))), ())))) (fun y => some (XS.out ximpl_isPlan_l0 (a0, (a1, (a3, (a4, (a5, (a6, (a7, (a8, (a9, a10))))))))) y)) a2 := by kernel_rfl
theorem impl_isPlan_l0o : LoopOk Try.prog EL78 or78 Try.f78.ntmps ((loopsIn (codeOf Try.f78)).getD 0 .skip) (Limpl_isPlan_l0) :=
  loop_lim (hs := simpl_isPlan_l0) (xs := ximpl_isPlan_l0) (ι := fun (x : (Unit × (List Int) × Int × Int × Unit) × (((List (List Int)) × (List Int) × (List Int) × Int × Int × Int × Int × Int × Unit) × Unit)) => (x.1.2.1, (x.1.2.2.1, (x.2.1.1, (x.2.1.2.1, (x.2.1.2.2.1, (x.2.1.2.2.2.1, (x.2.1.2.2.2.2.1, (x.2.1.2.2.2.2.2.1, (x.2.1.2.2.2.2.2.2.1, x.2.1.2.2.2.2.2.2.2.1)))))))))) (φ := fun (x : (Unit × (List Int) × Int × Int × Unit) × (((List (List Int)) × (List Int) × (List Int) × Int × Int × Int × Int × Int × Unit) × Unit)) => x.1.2.2.2.1) (ψ := fun (i : (List Int) × Int × (List (List Int)) × (List Int) × (List Int) × Int × Int × Int × Int × Int) (v : Int) => (((), (i.1, (i.2.1, (v, ())))), ((i.2.2.1, (i.2.2.2.1, (i.2.2.2.2.1, (i.2.2.2.2.2.1, (i.2.2.2.2.2.2.1, (i.2.2.2.2.2.2.2.1, (i.2.2.2.2.2.2.2.2.1, (i.2.2.2.2.2.2.2.2.2, ())))))))), ()))) (F := fun (i : (List Int) × Int × (List (List Int)) × (List Int) × (List Int) × Int × Int × Int × Int × Int) => impl_isPlan_l0F i.1 i.2.1 i.2.2.2.2.2.2.2.1) (fun _ => rfl) fun i k hk v => Par.of_eq (impl_isPlan_l0e i.1 i.2.1 i.2.2.1 i.2.2.2.1 i.2.2.2.2.1 i.2.2.2.2.2.1 i.2.2.2.2.2.2.1 i.2.2.2.2.2.2.2.1 i.2.2.2.2.2.2.2.2.1 i.2.2.2.2.2.2.2.2.2 k v) (impl_isPlan_l0p i.1 i.2.1 i.2.2.2.2.2.2.2.1 (fun a2 => hk a2) v)
def c78 : Callee := mkC [.agg [.ro TJob], .agg [.ro TPlan]] 1 [.one (.ro .bool)] fun x => impl_isPlan x.1 x.2
theorem e78 (x : PK.dens [.agg [.ro TJob], .agg [.ro TPlan]]) : evalFn Try.prog EL78 or78 Try.f78 (PK.outs [.agg [.ro TJob], .agg [.ro TPlan]] x) =
    impl_isPlanK (fun y => some (tupOf ((PK.outs [.one (.ro .bool)] y).take 1), (PK.outs [.one (.ro .bool)] y).drop 1)) x.1 x.2 := by kernel_rfl
theorem o78 : LoOk Try.prog EL78 or78 Try.f78.ntmps (loopsIn (codeOf Try.f78)) :=
  LoOk.mk (m := 1) (by kernel_rfl) fun i hi => match i, hi with
    | 0, _ => ⟨Limpl_isPlan_l0, by kernel_rfl, impl_isPlan_l0o⟩
    | i + 1, hi => absurd hi (by omega)
theorem k78 : CalleeOk Try.prog 78 c78 := callee_mk Try.func78 (code := codeOf Try.f78) (by kernel_rfl) vL78 mixed o78 fun x y h => (e78 x).trans (p78 _ x.1 x.2 y h)

/-- spec.l1In -/
def EL75 : Nat → Option Callee := env0
theorem vL75 : EnvOk Try.prog EL75 := EnvOk.nil
def spec_l1InK {R : Type} (fin : Bool → Option R) (x0 : Int) (x1 : Int) (x2 : Int) : Option R :=
  cond (decide (x0 ≥ x1))
  (fin (decide (x0 ≤ x2)))
  (fin false)
def spec_l1In (x0 : Int) (x1 : Int) (x2 : Int) : Option (Bool) := spec_l1InK some x0 x1 x2
theorem p75 {R : Type} (fin : Bool → Option R) (x0 : Int) (x1 : Int) (x2 : Int) : Par fin (spec_l1InK some x0 x1 x2) (spec_l1InK fin x0 x1 x2) := by
  unfold spec_l1InK
  repeat' (first | exact .fin | exact .none | refine .cond ?_ ?_ | refine .bind fun _ => ?_ | refine .sum (fun _ => ?_) fun _ => ?_)
def c75 : Callee := mkC [.one (.ro (.int .i64)), .one (.ro (.int .i64)), .one (.ro (.int .i64))] 1 [.one (.ro .bool)] fun x => spec_l1In x.1 x.2.1 x.2.2
theorem e75 (x : PK.dens [.one (.ro (.int .i64)), .one (.ro (.int .i64)), .one (.ro (.int .i64))]) : evalFn Try.prog EL75 or0 Try.f75 (PK.outs [.one (.ro (.int .i64)), .one (.ro (.int .i64)), .one (.ro (.int .i64))] x) =
    spec_l1InK (fun y => some (tupOf ((PK.outs [.one (.ro .bool)] y).take 1), (PK.outs [.one (.ro .bool)] y).drop 1)) x.1 x.2.1 x.2.2 := by kernel_rfl
theorem k75 : CalleeOk Try.prog 75 c75 := callee_mk Try.func75 (code := codeOf Try.f75) (by kernel_rfl) vL75 mixed (LoOk.nil (by kernel_rfl)) fun x y h => (e75 x).trans (p75 _ x.1 x.2.1 x.2.2 y h)

/-- spec.l1Rising -/
def EL129 : Nat → Option Callee := addE 75 c75 env0
theorem vL129 : EnvOk Try.prog EL129 := EnvOk.nil.add Try.func75 rfl (by kernel_rfl) k75
def sspec_l1Rising_l0 : LS := ⟨[(0, .one (.dat (.slice (.int .i64)))), (1, .one (.dat (.int .i64))), (2, .one (.dat (.int .i64))), (9, .one (.dat (.slice (.int .i64)))), (10, .one (.dat (.int .i64))), (11, .one (.dat (.int .i64)))], [], []⟩
def sspec_l1Rising_l0x0 : LS := ⟨[(6, .one (.dat .bool))], [], []⟩
def sspec_l1Rising_l0x1 : LS := ⟨[], [], []⟩
def xspec_l1Rising_l0 : List (XS ((List Int) × Int × Int × (List Int) × Int)) := [⟨.ret, ⟨[6], [], [], []⟩, sspec_l1Rising_l0x0, Bool, fun i y => ((y, ()), ())⟩,
  ⟨.exit 0, ⟨[], [], [], []⟩, sspec_l1Rising_l0x1, Unit, fun i y => ((), ())⟩]
def spec_l1Rising_l0K {R : Type} (a0 : List Int) (a1 : Int) (a2 : Int) (a3 : List Int) (a4 : Int) (rc : Int → Option R) (fin : (Bool ⊕ Unit) → Option R) (a5 : Int) : Option R :=
  cond (decide (a5 < a4))
  ((lat a3 a5).bind fun e1 =>
    (spec_l1In e1 a1 a2).bind fun y2 =>
    cond (!y2)
    (fin (.inl false))
    (cond (decide (a5 > 0))
      ((lat a0 (IntKind.i64.wrap (a5 - 1))).bind fun e3 =>
        cond (decide (e3 ≥ e1))
        (fin (.inl false))
        (rc (IntKind.i64.wrap (a5 + 1))))
      (rc (IntKind.i64.wrap (a5 + 1)))))
  (fin (.inr ()))
def spec_l1Rising_l0F (a0 : List Int) (a1 : Int) (a2 : Int) (a3 : List Int) (a4 : Int) (r : Int → Option (Bool ⊕ Unit)) (x : Int) : Option (Bool ⊕ Unit) := spec_l1Rising_l0K a0 a1 a2 a3 a4 (fun a5 => r a5) some x
theorem spec_l1Rising_l0c (a0 : List Int) (a1 : Int) (a2 : Int) (a3 : List Int) (a4 : Int) (x : Int) : Ct fun r => spec_l1Rising_l0F a0 a1 a2 a3 a4 r x := by
  unfold spec_l1Rising_l0F spec_l1Rising_l0K
  repeat' (first | exact Ct.const | exact Ct.call | refine Ct.cond ?_ ?_ | refine Ct.bind ?_ fun _ => ?_ | refine Ct.sum (fun _ => ?_) fun _ => ?_)
def spec_l1Rising_l0 (a0 : List Int) (a1 : Int) (a2 : Int) (a3 : List Int) (a4 : Int) (a5 : Int) : Option (Bool ⊕ Unit) := lim (spec_l1Rising_l0F a0 a1 a2 a3 a4) a5
theorem spec_l1Rising_l0_eq (a0 : List Int) (a1 : Int) (a2 : Int) (a3 : List Int) (a4 : Int) (a5 : Int) : spec_l1Rising_l0 a0 a1 a2 a3 a4 a5 = spec_l1Rising_l0K a0 a1 a2 a3 a4 (spec_l1Rising_l0 a0 a1 a2 a3 a4) some a5 := lim_eq (spec_l1Rising_l0c a0 a1 a2 a3 a4) a5
theorem spec_l1Rising_l0p {R : Type} (a0 : List Int) (a1 : Int) (a2 : Int) (a3 : List Int) (a4 : Int) {rc : Int → Option (Bool ⊕ Unit)} {rc' : Int → Option R} {fin : (Bool ⊕ Unit) → Option R} (hr : ∀ a5, Par fin (rc a5) (rc' a5)) (a5 : Int) : Par fin (spec_l1Rising_l0K a0 a1 a2 a3 a4 rc some a5) (spec_l1Rising_l0K a0 a1 a2 a3 a4 rc' fin a5) := by
  unfold spec_l1Rising_l0K
  repeat' (first | exact .fin | exact .none | exact hr _ | refine .cond ?_ ?_ | refine .bind fun _ => ?_ | refine .sum (fun _ => ?_) fun _ => ?_)
def Lspec_l1Rising_l0 : Loop := mkL ⟨[0, 1, 2, 9, 10, 11], [], [], []⟩ sspec_l1Rising_l0 xspec_l1Rising_l0 (fun (x : ((List Int) × Int × Int × (List Int) × Int × Int × Unit) × (Unit)) => (x.1.1, (x.1.2.1, (x.1.2.2.1, (x.1.2.2.2.1, x.1.2.2.2.2.1))))) fun (x : ((List Int) × Int × Int × (List Int) × Int × Int × Unit) × (Unit)) => spec_l1Rising_l0 x.1.1 x.1.2.1 x.1.2.2.1 x.1.2.2.2.1 x.1.2.2.2.2.1 x.1.2.2.2.2.2.1
def spec_l1RisingK {R : Type} (fin : Bool → Option R) (x0 : List Int) (x1 : Int) (x2 : Int) : Option R :=
  (spec_l1Rising_l0 x0 x1 x2 x0 (x0.length : Int) 0).bind fun y4 =>
  sumO y4 (fun y5 =>
  fin y5)
  (fun y6 =>
  fin true)
def spec_l1Rising (x0 : List Int) (x1 : Int) (x2 : Int) : Option (Bool) := spec_l1RisingK some x0 x1 x2
theorem p129 {R : Type} (fin : Bool → Option R) (x0 : List Int) (x1 : Int) (x2 : Int) : Par fin (spec_l1RisingK some x0 x1 x2) (spec_l1RisingK fin x0 x1 x2) := by
  unfold spec_l1RisingK
  repeat' (first | exact .fin | exact .none | refine .cond ?_ ?_ | refine .bind fun _ => ?_ | refine .sum (fun _ => ?_) fun _ => ?_)
def or129 : Ora := { lo := addL 2 (Lspec_l1Rising_l0) lo0, fin := [] }
theorem spec_l1Rising_l0e (a0 : List Int) (a1 : Int) (a2 : Int) (a3 : List Int) (a4 : Int) (k : Nat) (a5 : Int) : loopC Try.prog EL129 or129 ((loopsIn (codeOf Try.f129)).getD 0 .skip) (Lspec_l1Rising_l0).h (Lspec_l1Rising_l0).ho Try.f129.ntmps (k + 1) (sspec_l1Rising_l0.out ((a0, (a1, (a2, (a3, (a4, (a5, ())))))), ())) =
    spec_l1Rising_l0K a0 a1 a2 a3 a4 (fun a5 => loopC Try.prog EL129 or129 ((loopsIn (codeOf Try.f129)).getD 0 .skip) (Lspec_l1Rising_l0).h (Lspec_l1Rising_l0).ho Try.f129.ntmps k (sspec_l1Rising_l0.out ((a0, (a1, (a2, (a3, (a4, (a5, ())))))), ()))) (fun y => some (XS.out xspec_l1Rising_l0 (a0, (a1, (a2, (a3, a4)))) y)) a5 := by kernel_rfl
theorem spec_l1Rising_l0o : LoopOk Try.prog EL129 or129 Try.f129.ntmps ((loopsIn (codeOf Try.f129)).getD 0 .skip) (Lspec_l1Rising_l0) :=
  loop_lim (hs := sspec_l1Rising_l0) (xs := xspec_l1Rising_l0) (ι := fun (x : ((List Int) × Int × Int × (List Int) × Int × Int × Unit) × (Unit)) => (x.1.1, (x.1.2.1, (x.1.2.2.1, (x.1.2.2.2.1, x.1.2.2.2.2.1))))) (φ := fun (x : ((List Int) × Int × Int × (List Int) × Int × Int × Unit) × (Unit)) => x.1.2.2.2.2.2.1) (ψ := fun (i : (List Int) × Int × Int × (List Int) × Int) (v : Int) => ((i.1, (i.2.1, (i.2.2.1, (i.2.2.2.1, (i.2.2.2.2, (v, ())))))), ())) (F := fun (i : (List Int) × Int × Int × (List Int) × Int) => spec_l1Rising_l0F i.1 i.2.1 i.2.2.1 i.2.2.2.1 i.2.2.2.2) (fun _ => rfl) fun i k hk v => Par.of_eq (spec_l1Rising_l0e i.1 i.2.1 i.2.2.1 i.2.2.2.1 i.2.2.2.2 k v) (spec_l1Rising_l0p i.1 i.2.1 i.2.2.1 i.2.2.2.1 i.2.2.2.2 (fun a5 => hk a5) v)
def c129 : Callee := mkC [.one (.ro (.slice (.int .i64))), .one (.ro (.int .i64)), .one (.ro (.int .i64))] 1 [.one (.ro .bool)] fun x => spec_l1Rising x.1 x.2.1 x.2.2
theorem e129 (x : PK.dens [.one (.ro (.slice (.int .i64))), .one (.ro (.int .i64)), .one (.ro (.int .i64))]) : evalFn Try.prog EL129 or129 Try.f129 (PK.outs [.one (.ro (.slice (.int .i64))), .one (.ro (.int .i64)), .one (.ro (.int .i64))] x) =
    spec_l1RisingK (fun y => some (tupOf ((PK.outs [.one (.ro .bool)] y).take 1), (PK.outs [.one (.ro .bool)] y).drop 1)) x.1 x.2.1 x.2.2 := by kernel_rfl
theorem o129 : LoOk Try.prog EL129 or129 Try.f129.ntmps (loopsIn (codeOf Try.f129)) :=
  LoOk.mk (m := 1) (by kernel_rfl) fun i hi => match i, hi with
    | 0, _ => ⟨Lspec_l1Rising_l0, by kernel_rfl, spec_l1Rising_l0o⟩
    | i + 1, hi => absurd hi (by omega)
theorem k129 : CalleeOk Try.prog 129 c129 := callee_mk Try.func129 (code := codeOf Try.f129) (by kernel_rfl) vL129 mixed o129 fun x y h => (e129 x).trans (p129 _ x.1 x.2.1 x.2.2 y h)

/-- spec.clArcs -/
def EL112 : Nat → Option Callee := addE 75 c75 (addE 129 c129 env0)
theorem vL112 : EnvOk Try.prog EL112 := (EnvOk.nil.add Try.func129 rfl (by kernel_rfl) k129).add Try.func75 rfl (by kernel_rfl) k75
def sspec_clArcs_l0 : LS := ⟨[(0, .one (.dat (.slice (.slice (.int .i64))))), (5, .one (.dat (.slice (.slice (.int .i64))))), (6, .one (.dat (.int .i64))), (7, .one (.dat (.int .i64)))], [], []⟩
def sspec_clArcs_l0x0 : LS := ⟨[(2, .one (.dat .bool))], [], []⟩
def sspec_clArcs_l0x1 : LS := ⟨[(0, .one (.dat (.slice (.slice (.int .i64)))))], [], []⟩
def xspec_clArcs_l0 : List (XS ((List (List Int)) × (List (List Int)) × Int)) := [⟨.ret, ⟨[2], [], [], []⟩, sspec_clArcs_l0x0, Bool, fun i y => ((y, ()), ())⟩,
  ⟨.exit 0, ⟨[0], [], [], []⟩, sspec_clArcs_l0x1, Unit, fun i y => ((i.1, ()), ())⟩]
def spec_clArcs_l0K {R : Type} (a1 : List (List Int)) (a2 : Int) (rc : Int → Option R) (fin : (Bool ⊕ Unit) → Option R) (a3 : Int) : Option R :=
  cond (decide (a3 < a2))
  ((lat a1 a3).bind fun e1 =>
    (spec_l1Rising e1 0 (IntKind.i64.wrap (a3 - 1))).bind fun y2 =>
    cond (!y2)
    (fin (.inl false))
    (rc (IntKind.i64.wrap (a3 + 1))))
  (fin (.inr ()))
def spec_clArcs_l0F (a1 : List (List Int)) (a2 : Int) (r : Int → Option (Bool ⊕ Unit)) (x : Int) : Option (Bool ⊕ Unit) := spec_clArcs_l0K a1 a2 (fun a3 => r a3) some x
theorem spec_clArcs_l0c (a1 : List (List Int)) (a2 : Int) (x : Int) : Ct fun r => spec_clArcs_l0F a1 a2 r x := by
  unfold spec_clArcs_l0F spec_clArcs_l0K
  repeat' (first | exact Ct.const | exact Ct.call | refine Ct.cond ?_ ?_ | refine Ct.bind ?_ fun _ => ?_ | refine Ct.sum (fun _ => ?_) fun _ => ?_)
def spec_clArcs_l0 (a1 : List (List Int)) (a2 : Int) (a3 : Int) : Option (Bool ⊕ Unit) := lim (spec_clArcs_l0F a1 a2) a3
theorem spec_clArcs_l0_eq (a1 : List (List Int)) (a2 : Int) (a3 : Int) : spec_clArcs_l0 a1 a2 a3 = spec_clArcs_l0K a1 a2 (spec_clArcs_l0 a1 a2) some a3 := lim_eq (spec_clArcs_l0c a1 a2) a3
theorem spec_clArcs_l0p {R : Type} (a1 : List (List Int)) (a2 : Int) {rc : Int → Option (Bool ⊕ Unit)} {rc' : Int → Option R} {fin : (Bool ⊕ Unit) → Option R} (hr : ∀ a3, Par fin (rc a3) (rc' a3)) (a3 : Int) : Par fin (spec_clArcs_l0K a1 a2 rc some a3) (spec_clArcs_l0K a1 a2 rc' fin a3) := by
  unfold spec_clArcs_l0K
  repeat' (first | exact .fin | exact .none | exact hr _ | refine .cond ?_ ?_ | refine .bind fun _ => ?_ | refine .sum (fun _ => ?_) fun _ => ?_)
def Lspec_clArcs_l0 : Loop := mkL ⟨[0, 5, 6, 7], [], [], []⟩ sspec_clArcs_l0 xspec_clArcs_l0 (fun (x : ((List (List Int)) × (List (List Int)) × Int × Int × Unit) × (Unit)) => (x.1.1, (x.1.2.1, x.1.2.2.1))) fun (x : ((List (List Int)) × (List (List Int)) × Int × Int × Unit) × (Unit)) => spec_clArcs_l0 x.1.2.1 x.1.2.2.1 x.1.2.2.2.1
def spec_clArcsK {R : Type} (fin : Bool → Option R) (x0 : List (List Int)) : Option R :=
  (spec_clArcs_l0 x0 (x0.length : Int) 0).bind fun y3 =>
  sumO y3 (fun y4 =>
  fin y4)
  (fun y5 =>
  (spec_l1In (x0.length : Int) 1 120).bind fun y6 =>
    fin y6)
def spec_clArcs (x0 : List (List Int)) : Option (Bool) := spec_clArcsK some x0
theorem p112 {R : Type} (fin : Bool → Option R) (x0 : List (List Int)) : Par fin (spec_clArcsK some x0) (spec_clArcsK fin x0) := by
  unfold spec_clArcsK
  repeat' (first | exact .fin | exact .none | refine .cond ?_ ?_ | refine .bind fun _ => ?_ | refine .sum (fun _ => ?_) fun _ => ?_)
def or112 : Ora := { lo := addL 2 (Lspec_clArcs_l0) lo0, fin := [] }
theorem spec_clArcs_l0e (a0 : List (List Int)) (a1 : List (List Int)) (a2 : Int) (k : Nat) (a3 : Int) : loopC Try.prog EL112 or112 ((loopsIn (codeOf Try.f112)).getD 0 .skip) (Lspec_clArcs_l0).h (Lspec_clArcs_l0).ho Try.f112.ntmps (k + 1) (sspec_clArcs_l0.out ((a0, (a1, (a2, (a3, ())))), ())) =
    spec_clArcs_l0K a1 a2 (fun a3 => loopC Try.prog EL112 or112 ((loopsIn (codeOf Try.f112)).getD 0 .skip) (Lspec_clArcs_l0).h (Lspec_clArcs_l0).ho Try.f112.ntmps k (sspec_clArcs_l0.out ((a0, (a1, (a2, (a3, ())))), ()))) (fun y => some (XS.out xspec_clArcs_l0 (a0, (a1, a2)) y)) a3 := by kernel_rfl
theorem spec_clArcs_l0o : LoopOk Try.prog EL112 or112 Try.f112.ntmps ((loopsIn (codeOf Try.f112)).getD 0 .skip) (Lspec_clArcs_l0) :=
  loop_lim (hs := sspec_clArcs_l0) (xs := xspec_clArcs_l0) (ι := fun (x : ((List (List Int)) × (List (List Int)) × Int × Int × Unit) × (Unit)) => (x.1.1, (x.1.2.1, x.1.2.2.1))) (φ := fun (x : ((List (List Int)) × (List (List Int)) × Int × Int × Unit) × (Unit)) => x.1.2.2.2.1) (ψ := fun (i : (List (List Int)) × (List (List Int)) × Int) (v : Int) => ((i.1, (i.2.1, (i.2.2, (v, ())))), ())) (F := fun (i : (List (List Int)) × (List (List Int)) × Int) => spec_clArcs_l0F i.2.1 i.2.2) (fun _ => rfl) fun i k hk v => Par.of_eq (spec_clArcs_l0e i.1 i.2.1 i.2.2 k v) (spec_clArcs_l0p i.2.1 i.2.2 (fun a3 => hk a3) v)
def c112 : Callee := mkC [.one (.ro (.slice (.slice (.int .i64))))] 1 [.one (.ro .bool)] fun x => spec_clArcs x
theorem e112 (x : PK.dens [.one (.ro (.slice (.slice (.int .i64))))]) : evalFn Try.prog EL112 or112 Try.f112 (PK.outs [.one (.ro (.slice (.slice (.int .i64))))] x) =
    spec_clArcsK (fun y => some (tupOf ((PK.outs [.one (.ro .bool)] y).take 1), (PK.outs [.one (.ro .bool)] y).drop 1)) x := by kernel_rfl
theorem o112 : LoOk Try.prog EL112 or112 Try.f112.ntmps (loopsIn (codeOf Try.f112)) :=
  LoOk.mk (m := 1) (by kernel_rfl) fun i hi => match i, hi with
    | 0, _ => ⟨Lspec_clArcs_l0, by kernel_rfl, spec_clArcs_l0o⟩
    | i + 1, hi => absurd hi (by omega)
theorem k112 : CalleeOk Try.prog 112 c112 := callee_mk Try.func112 (code := codeOf Try.f112) (by kernel_rfl) vL112 mixed o112 fun x y h => (e112 x).trans (p112 _ x y h)

/-- spec.l1All -/
def EL98 : Nat → Option Callee := addE 75 c75 env0
theorem vL98 : EnvOk Try.prog EL98 := EnvOk.nil.add Try.func75 rfl (by kernel_rfl) k75
def sspec_l1All_l0 : LS := ⟨[(1, .one (.dat (.int .i64))), (2, .one (.dat (.int .i64))), (9, .one (.dat (.slice (.int .i64)))), (10, .one (.dat (.int .i64))), (11, .one (.dat (.int .i64)))], [], []⟩
def sspec_l1All_l0x0 : LS := ⟨[(6, .one (.dat .bool))], [], []⟩
def sspec_l1All_l0x1 : LS := ⟨[], [], []⟩
def xspec_l1All_l0 : List (XS (Int × Int × (List Int) × Int)) := [⟨.ret, ⟨[6], [], [], []⟩, sspec_l1All_l0x0, Bool, fun i y => ((y, ()), ())⟩,
  ⟨.exit 0, ⟨[], [], [], []⟩, sspec_l1All_l0x1, Unit, fun i y => ((), ())⟩]
def spec_l1All_l0K {R : Type} (a0 : Int) (a1 : Int) (a2 : List Int) (a3 : Int) (rc : Int → Option R) (fin : (Bool ⊕ Unit) → Option R) (a4 : Int) : Option R :=
  cond (decide (a4 < a3))
  ((lat a2 a4).bind fun e1 =>
    (spec_l1In e1 a0 a1).bind fun y2 =>
    cond (!y2)
    (fin (.inl false))
    (rc (IntKind.i64.wrap (a4 + 1))))
  (fin (.inr ()))
def spec_l1All_l0F (a0 : Int) (a1 : Int) (a2 : List Int) (a3 : Int) (r : Int → Option (Bool ⊕ Unit)) (x : Int) : Option (Bool ⊕ Unit) := spec_l1All_l0K a0 a1 a2 a3 (fun a4 => r a4) some x
theorem spec_l1All_l0c (a0 : Int) (a1 : Int) (a2 : List Int) (a3 : Int) (x : Int) : Ct fun r => spec_l1All_l0F a0 a1 a2 a3 r x := by
  unfold spec_l1All_l0F spec_l1All_l0K
  repeat' (first | exact Ct.const | exact Ct.call | refine Ct.cond ?_ ?_ | refine Ct.bind ?_ fun _ => ?_ | refine Ct.sum (fun _ => ?_) fun _ => ?_)
def spec_l1All_l0 (a0 : Int) (a1 : Int) (a2 : List Int) (a3 : Int) (a4 : Int) : Option (Bool ⊕ Unit) := lim (spec_l1All_l0F a0 a1 a2 a3) a4
theorem spec_l1All_l0_eq (a0 : Int) (a1 : Int) (a2 : List Int) (a3 : Int) (a4 : Int) : spec_l1All_l0 a0 a1 a2 a3 a4 = spec_l1All_l0K a0 a1 a2 a3 (spec_l1All_l0 a0 a1 a2 a3) some a4 := lim_eq (spec_l1All_l0c a0 a1 a2 a3) a4
theorem spec_l1All_l0p {R : Type} (a0 : Int) (a1 : Int) (a2 : List Int) (a3 : Int) {rc : Int → Option (Bool ⊕ Unit)} {rc' : Int → Option R} {fin : (Bool ⊕ Unit) → Option R} (hr : ∀ a4, Par fin (rc a4) (rc' a4)) (a4 : Int) : Par fin (spec_l1All_l0K a0 a1 a2 a3 rc some a4) (spec_l1All_l0K a0 a1 a2 a3 rc' fin a4) := by
  unfold spec_l1All_l0K
  repeat' (first | exact .fin | exact .none | exact hr _ | refine .cond ?_ ?_ | refine .bind fun _ => ?_ | refine .sum (fun _ => ?_) fun _ => ?_)
def Lspec_l1All_l0 : Loop := mkL ⟨[1, 2, 9, 10, 11], [], [], []⟩ sspec_l1All_l0 xspec_l1All_l0 (fun (x : (Int × Int × (List Int) × Int × Int × Unit) × (Unit)) => (x.1.1, (x.1.2.1, (x.1.2.2.1, x.1.2.2.2.1)))) fun (x : (Int × Int × (List Int) × Int × Int × Unit) × (Unit)) => spec_l1All_l0 x.1.1 x.1.2.1 x.1.2.2.1 x.1.2.2.2.1 x.1.2.2.2.2.1
def spec_l1AllK {R : Type} (fin : Bool → Option R) (x0 : List Int) (x1 : Int) (x2 : Int) : Option R :=
  (spec_l1All_l0 x1 x2 x0 (x0.length : Int) 0).bind fun y3 =>
  sumO y3 (fun y4 =>
  fin y4)
  (fun y5 =>
  fin true)
def spec_l1All (x0 : List Int) (x1 : Int) (x2 : Int) : Option (Bool) := spec_l1AllK some x0 x1 x2
theorem p98 {R : Type} (fin : Bool → Option R) (x0 : List Int) (x1 : Int) (x2 : Int) : Par fin (spec_l1AllK some x0 x1 x2) (spec_l1AllK fin x0 x1 x2) := by
  unfold spec_l1AllK
  repeat' (first | exact .fin | exact .none | refine .cond ?_ ?_ | refine .bind fun _ => ?_ | refine .sum (fun _ => ?_) fun _ => ?_)
def or98 : Ora := { lo := addL 2 (Lspec_l1All_l0) lo0, fin := [] }
theorem spec_l1All_l0e (a0 : Int) (a1 : Int) (a2 : List Int) (a3 : Int) (k : Nat) (a4 : Int) : loopC Try.prog EL98 or98 ((loopsIn (codeOf Try.f98)).getD 0 .skip) (Lspec_l1All_l0).h (Lspec_l1All_l0).ho Try.f98.ntmps (k + 1) (sspec_l1All_l0.out ((a0, (a1, (a2, (a3, (a4, ()))))), ())) =
    spec_l1All_l0K a0 a1 a2 a3 (fun a4 => loopC Try.prog EL98 or98 ((loopsIn (codeOf Try.f98)).getD 0 .skip) (Lspec_l1All_l0).h (Lspec_l1All_l0).ho Try.f98.ntmps k (sspec_l1All_l0.out ((a0, (a1, (a2, (a3, (a4, ()))))), ()))) (fun y => some (XS.out xspec_l1All_l0 (a0, (a1, (a2, a3))) y)) a4 := by kernel_rfl
theorem spec_l1All_l0o : LoopOk Try.prog EL98 or98 Try.f98.ntmps ((loopsIn (codeOf Try.f98)).getD 0 .skip) (Lspec_l1All_l0) :=
  loop_lim (hs := sspec_l1All_l0) (xs := xspec_l1All_l0) (ι := fun (x : (Int × Int × (List Int) × Int × Int × Unit) × (Unit)) => (x.1.1, (x.1.2.1, (x.1.2.2.1, x.1.2.2.2.1)))) (φ := fun (x : (Int × Int × (List Int) × Int × Int × Unit) × (Unit)) => x.1.2.2.2.2.1) (ψ := fun (i : Int × Int × (List Int) × Int) (v : Int) => ((i.1, (i.2.1, (i.2.2.1, (i.2.2.2, (v, ()))))), ())) (F := fun (i : Int × Int × (List Int) × Int) => spec_l1All_l0F i.1 i.2.1 i.2.2.1 i.2.2.2) (fun _ => rfl) fun i k hk v => Par.of_eq (spec_l1All_l0e i.1 i.2.1 i.2.2.1 i.2.2.2 k v) (spec_l1All_l0p i.1 i.2.1 i.2.2.1 i.2.2.2 (fun a4 => hk a4) v)
def c98 : Callee := mkC [.one (.ro (.slice (.int .i64))), .one (.ro (.int .i64)), .one (.ro (.int .i64))] 1 [.one (.ro .bool)] fun x => spec_l1All x.1 x.2.1 x.2.2
theorem e98 (x : PK.dens [.one (.ro (.slice (.int .i64))), .one (.ro (.int .i64)), .one (.ro (.int .i64))]) : evalFn Try.prog EL98 or98 Try.f98 (PK.outs [.one (.ro (.slice (.int .i64))), .one (.ro (.int .i64)), .one (.ro (.int .i64))] x) =
    spec_l1AllK (fun y => some (tupOf ((PK.outs [.one (.ro .bool)] y).take 1), (PK.outs [.one (.ro .bool)] y).drop 1)) x.1 x.2.1 x.2.2 := by kernel_rfl
theorem o98 : LoOk Try.prog EL98 or98 Try.f98.ntmps (loopsIn (codeOf Try.f98)) :=
  LoOk.mk (m := 1) (by kernel_rfl) fun i hi => match i, hi with
    | 0, _ => ⟨Lspec_l1All_l0, by kernel_rfl, spec_l1All_l0o⟩
    | i + 1, hi => absurd hi (by omega)
theorem k98 : CalleeOk Try.prog 98 c98 := callee_mk Try.func98 (code := codeOf Try.f98) (by kernel_rfl) vL98 mixed o98 fun x y h => (e98 x).trans (p98 _ x.1 x.2.1 x.2.2 y h)

/-- spec.plJob -/
def EL66 : Nat → Option Callee := addE 75 c75 (addE 98 c98 (addE 112 c112 env0))
theorem vL66 : EnvOk Try.prog EL66 := ((EnvOk.nil.add Try.func112 rfl (by kernel_rfl) k112).add Try.func98 rfl (by kernel_rfl) k98).add Try.func75 rfl (by kernel_rfl) k75
def spec_plJobK {R : Type} (fin : Bool → Option R) (x0 : DJob) : Option R :=
  (spec_clArcs x0.1).bind fun y1 =>
  cond (!y1)
  (fin false)
  (cond ((x0.2.1.length : Int) != (x0.1.length : Int))
    (fin false)
    (cond ((x0.2.2.1.length : Int) != (x0.1.length : Int))
      (fin false)
      ((spec_l1All x0.2.1 0 10000).bind fun y2 =>
        cond (!y2)
        (fin false)
        ((spec_l1All x0.2.2.1 (-1000000) 1000000).bind fun y3 =>
          cond (!y3)
          (fin false)
          ((spec_l1In x0.2.2.2.1.1 0 1000000).bind fun y4 =>
            cond (y4)
            ((spec_l1In x0.2.2.2.1.2.1 0 1000000).bind fun y5 =>
              cond (y5)
              ((spec_l1In x0.2.2.2.2.1 1 6).bind fun y6 =>
                cond (y6)
                ((spec_l1In x0.2.2.2.2.2.2.1 1 20).bind fun y7 =>
                  cond (y7)
                  ((spec_l1In x0.2.2.2.2.2.1 1 x0.2.2.2.2.2.2.1).bind fun y8 =>
                    fin y8)
                  (fin false))
                (fin false))
              (fin false))
            (fin false))))))
def spec_plJob (x0 : DJob) : Option (Bool) := spec_plJobK some x0
theorem p66 {R : Type} (fin : Bool → Option R) (x0 : DJob) : Par fin (spec_plJobK some x0) (spec_plJobK fin x0) := by
  unfold spec_plJobK
  repeat' (first | exact .fin | exact .none | refine .cond ?_ ?_ | refine .bind fun _ => ?_ | refine .sum (fun _ => ?_) fun _ => ?_)
def c66 : Callee := mkC [.agg [.ro TJob]] 1 [.one (.ro .bool)] fun x => spec_plJob x
theorem e66 (x : PK.dens [.agg [.ro TJob]]) : evalFn Try.prog EL66 or0 Try.f66 (PK.outs [.agg [.ro TJob]] x) =
    spec_plJobK (fun y => some (tupOf ((PK.outs [.one (.ro .bool)] y).take 1), (PK.outs [.one (.ro .bool)] y).drop 1)) x := by kernel_rfl
theorem k66 : CalleeOk Try.prog 66 c66 := callee_mk Try.func66 (code := codeOf Try.f66) (by kernel_rfl) vL66 mixed (LoOk.nil (by kernel_rfl)) fun x y h => (e66 x).trans (p66 _ x y h)

/-- spec.plGood -/
def EL90 : Nat → Option Callee := addE 98 c98 env0
theorem vL90 : EnvOk Try.prog EL90 := EnvOk.nil.add Try.func98 rfl (by kernel_rfl) k98
def spec_plGoodK {R : Type} (fin : Bool → Option R) (x0 : DJob) (x1 : DPlan) : Option R :=
  cond (x1.1 == x0.2.2.2.2.1)
  (cond ((x1.2.1.length : Int) == (x0.1.length : Int))
    ((spec_l1All x1.2.1 (-1) (IntKind.i64.wrap (x0.2.2.2.2.1 - 1))).bind fun y1 =>
      fin y1)
    (fin false))
  (fin false)
def spec_plGood (x0 : DJob) (x1 : DPlan) : Option (Bool) := spec_plGoodK some x0 x1
theorem p90 {R : Type} (fin : Bool → Option R) (x0 : DJob) (x1 : DPlan) : Par fin (spec_plGoodK some x0 x1) (spec_plGoodK fin x0 x1) := by
  unfold spec_plGoodK
  repeat' (first | exact .fin | exact .none | refine .cond ?_ ?_ | refine .bind fun _ => ?_ | refine .sum (fun _ => ?_) fun _ => ?_)
def c90 : Callee := mkC [.agg [.ro TJob], .agg [.ro TPlan]] 1 [.one (.ro .bool)] fun x => spec_plGood x.1 x.2
theorem e90 (x : PK.dens [.agg [.ro TJob], .agg [.ro TPlan]]) : evalFn Try.prog EL90 or0 Try.f90 (PK.outs [.agg [.ro TJob], .agg [.ro TPlan]] x) =
    spec_plGoodK (fun y => some (tupOf ((PK.outs [.one (.ro .bool)] y).take 1), (PK.outs [.one (.ro .bool)] y).drop 1)) x.1 x.2 := by kernel_rfl
theorem k90 : CalleeOk Try.prog 90 c90 := callee_mk Try.func90 (code := codeOf Try.f90) (by kernel_rfl) vL90 mixed (LoOk.nil (by kernel_rfl)) fun x y h => (e90 x).trans (p90 _ x.1 x.2 y h)

/-- spec.plBoth -/
def EL74 : Nat → Option Callee := addE 90 c90 (addE 66 c66 env0)
theorem vL74 : EnvOk Try.prog EL74 := (EnvOk.nil.add Try.func66 rfl (by kernel_rfl) k66).add Try.func90 rfl (by kernel_rfl) k90
def spec_plBothK {R : Type} (fin : Bool → Option R) (x0 : DJob) (x1 : DPlan) : Option R :=
  (spec_plJob x0).bind fun y1 =>
  cond (y1)
  ((spec_plGood x0 x1).bind fun y2 =>
    fin y2)
  (fin false)
def spec_plBoth (x0 : DJob) (x1 : DPlan) : Option (Bool) := spec_plBothK some x0 x1
theorem p74 {R : Type} (fin : Bool → Option R) (x0 : DJob) (x1 : DPlan) : Par fin (spec_plBothK some x0 x1) (spec_plBothK fin x0 x1) := by
  unfold spec_plBothK
  repeat' (first | exact .fin | exact .none | refine .cond ?_ ?_ | refine .bind fun _ => ?_ | refine .sum (fun _ => ?_) fun _ => ?_)
def c74 : Callee := mkC [.agg [.ro TJob], .agg [.ro TPlan]] 1 [.one (.ro .bool)] fun x => spec_plBoth x.1 x.2
theorem e74 (x : PK.dens [.agg [.ro TJob], .agg [.ro TPlan]]) : evalFn Try.prog EL74 or0 Try.f74 (PK.outs [.agg [.ro TJob], .agg [.ro TPlan]] x) =
    spec_plBothK (fun y => some (tupOf ((PK.outs [.one (.ro .bool)] y).take 1), (PK.outs [.one (.ro .bool)] y).drop 1)) x.1 x.2 := by kernel_rfl
theorem k74 : CalleeOk Try.prog 74 c74 := callee_mk Try.func74 (code := codeOf Try.f74) (by kernel_rfl) vL74 mixed (LoOk.nil (by kernel_rfl)) fun x y h => (e74 x).trans (p74 _ x.1 x.2 y h)
end
end Go.OAI
