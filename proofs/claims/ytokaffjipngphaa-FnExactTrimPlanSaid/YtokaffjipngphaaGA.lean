/- Contracts: GA. -/
import Derived.Test.YtokaffjipngphaaK3
import Derived.Test.YtokaffjipngphaaProg
namespace Go.OAI
open Go.Proofs
set_option linter.unusedVariables false
noncomputable section

@[reducible] def TEdge : Ty := .pair (.int .i64) (.pair (.int .i64) (.pair (.int .i64) .unit))
abbrev DEdge : Type := Int × Int × Int × Unit
@[reducible] def TLimits : Ty := .pair (.int .i64) (.pair (.int .i64) .unit)
abbrev DLimits : Type := Int × Int × Unit
@[reducible] def TJob : Ty := .pair (.slice (.slice (.int .i64))) (.pair (.slice (.int .i64)) (.pair (.slice (.int .i64)) (.pair TLimits (.pair (.int .i64) (.pair (.int .i64) (.pair (.int .i64) .unit))))))
abbrev DJob : Type := (List (List Int)) × (List Int) × (List Int) × DLimits × Int × Int × Int × Unit
@[reducible] def TPlan : Ty := .pair (.int .i64) (.pair (.slice (.int .i64)) .unit)
abbrev DPlan : Type := Int × (List Int) × Unit
def or0 : Ora := { lo := fun _ => none }
theorem mixed : Try.prog.follows .mixedOrders = true := by kernel_rfl

/-- laws.szIntS -/
def EL46 : Nat → Option Callee := env0
theorem vL46 : EnvOk Try.prog EL46 := EnvOk.nil
def laws_szIntSK {R : Type} (fin : Int → Option R) (x0 : List Int) (x1 : Int) : Option R :=
  cond (decide ((IntKind.i64.wrap (x1 - (x0.length : Int))) < 0))
  (fin (-1))
  (fin (IntKind.i64.wrap (x1 - (x0.length : Int))))
def laws_szIntS (x0 : List Int) (x1 : Int) : Option (Int) := laws_szIntSK some x0 x1
theorem p46 {R : Type} (fin : Int → Option R) (x0 : List Int) (x1 : Int) : Par fin (laws_szIntSK some x0 x1) (laws_szIntSK fin x0 x1) := by
  unfold laws_szIntSK
  repeat' (first | exact .fin | exact .none | refine .cond ?_ ?_ | refine .bind fun _ => ?_ | refine .sum (fun _ => ?_) fun _ => ?_)
def c46 : Callee := mkC [.one (.ro (.slice (.int .i64))), .one (.ro (.int .i64))] 1 [.one (.ro (.int .i64))] fun x => laws_szIntS x.1 x.2
theorem e46 (x : PK.dens [.one (.ro (.slice (.int .i64))), .one (.ro (.int .i64))]) : evalFn Try.prog EL46 or0 Try.f46 (PK.outs [.one (.ro (.slice (.int .i64))), .one (.ro (.int .i64))] x) =
    laws_szIntSK (fun y => some (tupOf ((PK.outs [.one (.ro (.int .i64))] y).take 1), (PK.outs [.one (.ro (.int .i64))] y).drop 1)) x.1 x.2 := by kernel_rfl
theorem k46 : CalleeOk Try.prog 46 c46 := callee_mk Try.func46 (code := codeOf Try.f46) (by kernel_rfl) vL46 mixed (LoOk.nil (by kernel_rfl)) fun x y h => (e46 x).trans (p46 _ x.1 x.2 y h)

/-- laws.szIntSS -/
def EL31 : Nat → Option Callee := addE 46 c46 env0
theorem vL31 : EnvOk Try.prog EL31 := EnvOk.nil.add Try.func46 rfl (by kernel_rfl) k46
def slaws_szIntSS_l0 : LS := ⟨[(0, .one (.dat (.slice (.slice (.int .i64))))), (1, .one (.dat (.int .i64))), (5, .one (.dat (.int .i64)))], [], []⟩
def slaws_szIntSS_l0x0 : LS := ⟨[(4, .one (.dat (.int .i64)))], [], []⟩
def slaws_szIntSS_l0x1 : LS := ⟨[(1, .one (.dat (.int .i64)))], [], []⟩
def xlaws_szIntSS_l0 : List (XS (List (List Int))) := [⟨.ret, ⟨[4], [], [], []⟩, slaws_szIntSS_l0x0, Int, fun i y => ((y, ()), ())⟩,
  ⟨.exit 0, ⟨[1], [], [], []⟩, slaws_szIntSS_l0x1, Int, fun i y => ((y, ()), ())⟩]
def laws_szIntSS_l0K {R : Type} (a0 : List (List Int)) (rc : Int → Int → Option R) (fin : (Int ⊕ Int) → Option R) (a1 : Int) (a2 : Int) : Option R :=
  cond (decide (a2 < (a0.length : Int)))
  ((lat a0 a2).bind fun e1 =>
    (laws_szIntS e1 a1).bind fun y2 =>
    cond (decide (y2 < 0))
    (fin (.inl (-1)))
    (rc y2 (IntKind.i64.wrap (a2 + 1))))
  (fin (.inr a1))
def laws_szIntSS_l0F (a0 : List (List Int)) (r : (Int × Int) → Option (Int ⊕ Int)) (x : Int × Int) : Option (Int ⊕ Int) := laws_szIntSS_l0K a0 (fun a1 a2 => r (a1, a2)) some x.1 x.2
theorem laws_szIntSS_l0c (a0 : List (List Int)) (x : Int × Int) : Ct fun r => laws_szIntSS_l0F a0 r x := by
  unfold laws_szIntSS_l0F laws_szIntSS_l0K
  repeat' (first | exact Ct.const | exact Ct.call | refine Ct.cond ?_ ?_ | refine Ct.bind ?_ fun _ => ?_ | refine Ct.sum (fun _ => ?_) fun _ => ?_)
def laws_szIntSS_l0 (a0 : List (List Int)) (a1 : Int) (a2 : Int) : Option (Int ⊕ Int) := lim (laws_szIntSS_l0F a0) (a1, a2)
theorem laws_szIntSS_l0_eq (a0 : List (List Int)) (a1 : Int) (a2 : Int) : laws_szIntSS_l0 a0 a1 a2 = laws_szIntSS_l0K a0 (laws_szIntSS_l0 a0) some a1 a2 := lim_eq (laws_szIntSS_l0c a0) (a1, a2)
theorem laws_szIntSS_l0p {R : Type} (a0 : List (List Int)) {rc : Int → Int → Option (Int ⊕ Int)} {rc' : Int → Int → Option R} {fin : (Int ⊕ Int) → Option R} (hr : ∀ a1 a2, Par fin (rc a1 a2) (rc' a1 a2)) (a1 : Int) (a2 : Int) : Par fin (laws_szIntSS_l0K a0 rc some a1 a2) (laws_szIntSS_l0K a0 rc' fin a1 a2) := by
  unfold laws_szIntSS_l0K
  repeat' (first | exact .fin | exact .none | exact hr _ _ | refine .cond ?_ ?_ | refine .bind fun _ => ?_ | refine .sum (fun _ => ?_) fun _ => ?_)
def Llaws_szIntSS_l0 : Loop := mkL ⟨[0, 1, 5], [], [], []⟩ slaws_szIntSS_l0 xlaws_szIntSS_l0 (fun (x : ((List (List Int)) × Int × Int × Unit) × (Unit)) => x.1.1) fun (x : ((List (List Int)) × Int × Int × Unit) × (Unit)) => laws_szIntSS_l0 x.1.1 x.1.2.1 x.1.2.2.1
def laws_szIntSSK {R : Type} (fin : Int → Option R) (x0 : List (List Int)) (x1 : Int) : Option R :=
  cond (decide ((IntKind.i64.wrap (x1 - (x0.length : Int))) < 0))
  (fin (-1))
  ((laws_szIntSS_l0 x0 (IntKind.i64.wrap (x1 - (x0.length : Int))) 0).bind fun y3 =>
    sumO y3 (fun y4 =>
    fin y4)
    (fun y5 =>
    fin y5))
def laws_szIntSS (x0 : List (List Int)) (x1 : Int) : Option (Int) := laws_szIntSSK some x0 x1
theorem p31 {R : Type} (fin : Int → Option R) (x0 : List (List Int)) (x1 : Int) : Par fin (laws_szIntSSK some x0 x1) (laws_szIntSSK fin x0 x1) := by
  unfold laws_szIntSSK
  repeat' (first | exact .fin | exact .none | refine .cond ?_ ?_ | refine .bind fun _ => ?_ | refine .sum (fun _ => ?_) fun _ => ?_)
def or31 : Ora := { lo := addL 5 (Llaws_szIntSS_l0) lo0, fin := [] }
theorem laws_szIntSS_l0e (a0 : List (List Int)) (k : Nat) (a1 : Int) (a2 : Int) : loopC Try.prog EL31 or31 ((loopsIn (codeOf Try.f31)).getD 0 .skip) (Llaws_szIntSS_l0).h (Llaws_szIntSS_l0).ho Try.f31.ntmps (k + 1) (slaws_szIntSS_l0.out ((a0, (a1, (a2, ()))), ())) =
    laws_szIntSS_l0K a0 (fun a1 a2 => loopC Try.prog EL31 or31 ((loopsIn (codeOf Try.f31)).getD 0 .skip) (Llaws_szIntSS_l0).h (Llaws_szIntSS_l0).ho Try.f31.ntmps k (slaws_szIntSS_l0.out ((a0, (a1, (a2, ()))), ()))) (fun y => some (XS.out xlaws_szIntSS_l0 a0 y)) a1 a2 := by kernel_rfl
theorem laws_szIntSS_l0o : LoopOk Try.prog EL31 or31 Try.f31.ntmps ((loopsIn (codeOf Try.f31)).getD 0 .skip) (Llaws_szIntSS_l0) :=
  loop_lim (hs := slaws_szIntSS_l0) (xs := xlaws_szIntSS_l0) (ι := fun (x : ((List (List Int)) × Int × Int × Unit) × (Unit)) => x.1.1) (φ := fun (x : ((List (List Int)) × Int × Int × Unit) × (Unit)) => (x.1.2.1, x.1.2.2.1)) (ψ := fun (i : List (List Int)) (v : Int × Int) => ((i, (v.1, (v.2, ()))), ())) (F := fun (i : List (List Int)) => laws_szIntSS_l0F i) (fun _ => rfl) fun i k hk v => Par.of_eq (laws_szIntSS_l0e i k v.1 v.2) (laws_szIntSS_l0p i (fun a1 a2 => hk (a1, a2)) v.1 v.2)
def c31 : Callee := mkC [.one (.ro (.slice (.slice (.int .i64)))), .one (.ro (.int .i64))] 1 [.one (.ro (.int .i64))] fun x => laws_szIntSS x.1 x.2
theorem e31 (x : PK.dens [.one (.ro (.slice (.slice (.int .i64)))), .one (.ro (.int .i64))]) : evalFn Try.prog EL31 or31 Try.f31 (PK.outs [.one (.ro (.slice (.slice (.int .i64)))), .one (.ro (.int .i64))] x) =
    laws_szIntSSK (fun y => some (tupOf ((PK.outs [.one (.ro (.int .i64))] y).take 1), (PK.outs [.one (.ro (.int .i64))] y).drop 1)) x.1 x.2 := by kernel_rfl
theorem o31 : LoOk Try.prog EL31 or31 Try.f31.ntmps (loopsIn (codeOf Try.f31)) :=
  LoOk.mk (m := 1) (by kernel_rfl) fun i hi => match i, hi with
    | 0, _ => ⟨Llaws_szIntSS_l0, by kernel_rfl, laws_szIntSS_l0o⟩
    | i + 1, hi => absurd hi (by omega)
theorem k31 : CalleeOk Try.prog 31 c31 := callee_mk Try.func31 (code := codeOf Try.f31) (by kernel_rfl) vL31 mixed o31 fun x y h => (e31 x).trans (p31 _ x.1 x.2 y h)

/-- laws.szJob -/
def EL12 : Nat → Option Callee := addE 46 c46 (addE 31 c31 env0)
theorem vL12 : EnvOk Try.prog EL12 := (EnvOk.nil.add Try.func31 rfl (by kernel_rfl) k31).add Try.func46 rfl (by kernel_rfl) k46
def laws_szJobK {R : Type} (fin : Int → Option R) (x0 : DJob) (x1 : Int) : Option R :=
  (laws_szIntSS x0.1 x1).bind fun y1 =>
  cond (decide (y1 < 0))
  (fin (-1))
  ((laws_szIntS x0.2.1 y1).bind fun y2 =>
    cond (decide (y2 < 0))
    (fin (-1))
    ((laws_szIntS x0.2.2.1 y2).bind fun y3 =>
      cond (decide (y3 < 0))
      (fin (-1))
      (fin y3)))
def laws_szJob (x0 : DJob) (x1 : Int) : Option (Int) := laws_szJobK some x0 x1
theorem p12 {R : Type} (fin : Int → Option R) (x0 : DJob) (x1 : Int) : Par fin (laws_szJobK some x0 x1) (laws_szJobK fin x0 x1) := by
  unfold laws_szJobK
  repeat' (first | exact .fin | exact .none | refine .cond ?_ ?_ | refine .bind fun _ => ?_ | refine .sum (fun _ => ?_) fun _ => ?_)
def c12 : Callee := mkC [.agg [.ro TJob], .one (.ro (.int .i64))] 1 [.one (.ro (.int .i64))] fun x => laws_szJob x.1 x.2
theorem e12 (x : PK.dens [.agg [.ro TJob], .one (.ro (.int .i64))]) : evalFn Try.prog EL12 or0 Try.f12 (PK.outs [.agg [.ro TJob], .one (.ro (.int .i64))] x) =
    laws_szJobK (fun y => some (tupOf ((PK.outs [.one (.ro (.int .i64))] y).take 1), (PK.outs [.one (.ro (.int .i64))] y).drop 1)) x.1 x.2 := by kernel_rfl
theorem k12 : CalleeOk Try.prog 12 c12 := callee_mk Try.func12 (code := codeOf Try.f12) (by kernel_rfl) vL12 mixed (LoOk.nil (by kernel_rfl)) fun x y h => (e12 x).trans (p12 _ x.1 x.2 y h)

/-- laws.szPlan -/
def EL38 : Nat → Option Callee := addE 46 c46 env0
theorem vL38 : EnvOk Try.prog EL38 := EnvOk.nil.add Try.func46 rfl (by kernel_rfl) k46
def laws_szPlanK {R : Type} (fin : Int → Option R) (x0 : DPlan) (x1 : Int) : Option R :=
  (laws_szIntS x0.2.1 x1).bind fun y1 =>
  cond (decide (y1 < 0))
  (fin (-1))
  (fin y1)
def laws_szPlan (x0 : DPlan) (x1 : Int) : Option (Int) := laws_szPlanK some x0 x1
theorem p38 {R : Type} (fin : Int → Option R) (x0 : DPlan) (x1 : Int) : Par fin (laws_szPlanK some x0 x1) (laws_szPlanK fin x0 x1) := by
  unfold laws_szPlanK
  repeat' (first | exact .fin | exact .none | refine .cond ?_ ?_ | refine .bind fun _ => ?_ | refine .sum (fun _ => ?_) fun _ => ?_)
def c38 : Callee := mkC [.agg [.ro TPlan], .one (.ro (.int .i64))] 1 [.one (.ro (.int .i64))] fun x => laws_szPlan x.1 x.2
theorem e38 (x : PK.dens [.agg [.ro TPlan], .one (.ro (.int .i64))]) : evalFn Try.prog EL38 or0 Try.f38 (PK.outs [.agg [.ro TPlan], .one (.ro (.int .i64))] x) =
    laws_szPlanK (fun y => some (tupOf ((PK.outs [.one (.ro (.int .i64))] y).take 1), (PK.outs [.one (.ro (.int .i64))] y).drop 1)) x.1 x.2 := by kernel_rfl
theorem k38 : CalleeOk Try.prog 38 c38 := callee_mk Try.func38 (code := codeOf Try.f38) (by kernel_rfl) vL38 mixed (LoOk.nil (by kernel_rfl)) fun x y h => (e38 x).trans (p38 _ x.1 x.2 y h)

/-- laws.toIntS -/
def EL18 : Nat → Option Callee := env0
theorem vL18 : EnvOk Try.prog EL18 := EnvOk.nil
def slaws_toIntS_l0 : LS := ⟨[(0, .one (.dat (.slice (.int .i64)))), (3, .one (.fix (.sref 0))), (4, .one (.dat (.int .i64)))], [.sl (.int .i64)], []⟩
def slaws_toIntS_l0x0 : LS := ⟨[(3, .one (.fix (.sref 0)))], [.sl (.int .i64)], []⟩
def xlaws_toIntS_l0 : List (XS (List Int)) := [⟨.exit 0, ⟨[3], [.slot 3], [], []⟩, slaws_toIntS_l0x0, List Int, fun i y => (((), ()), (y, ()))⟩]
def laws_toIntS_l0K {R : Type} (a0 : List Int) (rc : Int → List Int → Option R) (fin : List Int → Option R) (a1 : Int) (a2 : List Int) : Option R :=
  cond (decide (a1 < (a0.length : Int)))
  ((lat a0 a1).bind fun e1 =>
    cond (decide ((0 : Int) ≤ a1) && decide (a1 < (a2.length : Int)))
    ((some (a2.set (0 + a1.toNat) e1)).bind fun v2 =>
      rc (IntKind.i64.wrap (a1 + 1)) v2)
    (none))
  (fin a2)
def laws_toIntS_l0F (a0 : List Int) (r : (Int × (List Int)) → Option (List Int)) (x : Int × (List Int)) : Option (List Int) := laws_toIntS_l0K a0 (fun a1 a2 => r (a1, a2)) some x.1 x.2
theorem laws_toIntS_l0c (a0 : List Int) (x : Int × (List Int)) : Ct fun r => laws_toIntS_l0F a0 r x := by
  unfold laws_toIntS_l0F laws_toIntS_l0K
  repeat' (first | exact Ct.const | exact Ct.call | refine Ct.cond ?_ ?_ | refine Ct.bind ?_ fun _ => ?_ | refine Ct.sum (fun _ => ?_) fun _ => ?_)
def laws_toIntS_l0 (a0 : List Int) (a1 : Int) (a2 : List Int) : Option (List Int) := lim (laws_toIntS_l0F a0) (a1, a2)
theorem laws_toIntS_l0_eq (a0 : List Int) (a1 : Int) (a2 : List Int) : laws_toIntS_l0 a0 a1 a2 = laws_toIntS_l0K a0 (laws_toIntS_l0 a0) some a1 a2 := lim_eq (laws_toIntS_l0c a0) (a1, a2)
theorem laws_toIntS_l0p {R : Type} (a0 : List Int) {rc : Int → List Int → Option (List Int)} {rc' : Int → List Int → Option R} {fin : List Int → Option R} (hr : ∀ a1 a2, Par fin (rc a1 a2) (rc' a1 a2)) (a1 : Int) (a2 : List Int) : Par fin (laws_toIntS_l0K a0 rc some a1 a2) (laws_toIntS_l0K a0 rc' fin a1 a2) := by
  unfold laws_toIntS_l0K
  repeat' (first | exact .fin | exact .none | exact hr _ _ | refine .cond ?_ ?_ | refine .bind fun _ => ?_ | refine .sum (fun _ => ?_) fun _ => ?_)
def Llaws_toIntS_l0 : Loop := mkL ⟨[0, 3, 4], [.slot 3], [], []⟩ slaws_toIntS_l0 xlaws_toIntS_l0 (fun (x : ((List Int) × Unit × Int × Unit) × ((List Int) × Unit)) => x.1.1) fun (x : ((List Int) × Unit × Int × Unit) × ((List Int) × Unit)) => laws_toIntS_l0 x.1.1 x.1.2.2.1 x.2.1
def laws_toIntSK {R : Type} (fin : List Int → Option R) (x0 : List Int) : Option R :=
  cond (decide ((0 : Int) ≤ (x0.length : Int)) && (decide ((x0.length : Int) ≤ (x0.length : Int)) && decide ((x0.length : Int) ≤ 1099511627776)))
  ((some ((List.replicate ((x0.length : Int).toNat) 0 : List Int))).bind fun v1 =>
    (laws_toIntS_l0 x0 0 v1).bind fun y4 =>
    fin y4)
  (none)
def laws_toIntS (x0 : List Int) : Option (List Int) := laws_toIntSK some x0
theorem p18 {R : Type} (fin : List Int → Option R) (x0 : List Int) : Par fin (laws_toIntSK some x0) (laws_toIntSK fin x0) := by
  unfold laws_toIntSK
  repeat' (first | exact .fin | exact .none | refine .cond ?_ ?_ | refine .bind fun _ => ?_ | refine .sum (fun _ => ?_) fun _ => ?_)
def or18 : Ora := { lo := addL 3 (Llaws_toIntS_l0) lo0, fin := [] }
theorem laws_toIntS_l0e (a0 : List Int) (k : Nat) (a1 : Int) (a2 : List Int) : loopC Try.prog EL18 or18 ((loopsIn (codeOf Try.f18)).getD 0 .skip) (Llaws_toIntS_l0).h (Llaws_toIntS_l0).ho Try.f18.ntmps (k + 1) (slaws_toIntS_l0.out ((a0, ((), (a1, ()))), (a2, ()))) =
    laws_toIntS_l0K a0 (fun a1 a2 => loopC Try.prog EL18 or18 ((loopsIn (codeOf Try.f18)).getD 0 .skip) (Llaws_toIntS_l0).h (Llaws_toIntS_l0).ho Try.f18.ntmps k (slaws_toIntS_l0.out ((a0, ((), (a1, ()))), (a2, ())))) (fun y => some (XS.out xlaws_toIntS_l0 a0 y)) a1 a2 := by kernel_rfl
theorem laws_toIntS_l0o : LoopOk Try.prog EL18 or18 Try.f18.ntmps ((loopsIn (codeOf Try.f18)).getD 0 .skip) (Llaws_toIntS_l0) :=
  loop_lim (hs := slaws_toIntS_l0) (xs := xlaws_toIntS_l0) (ι := fun (x : ((List Int) × Unit × Int × Unit) × ((List Int) × Unit)) => x.1.1) (φ := fun (x : ((List Int) × Unit × Int × Unit) × ((List Int) × Unit)) => (x.1.2.2.1, x.2.1)) (ψ := fun (i : List Int) (v : Int × (List Int)) => ((i, ((), (v.1, ()))), (v.2, ()))) (F := fun (i : List Int) => laws_toIntS_l0F i) (fun _ => rfl) fun i k hk v => Par.of_eq (laws_toIntS_l0e i k v.1 v.2) (laws_toIntS_l0p i (fun a1 a2 => hk (a1, a2)) v.1 v.2)
def c18 : Callee := mkC [.one (.ro (.slice (.int .i64)))] 1 [.one (.sl (.int .i64))] fun x => laws_toIntS x
theorem e18 (x : PK.dens [.one (.ro (.slice (.int .i64)))]) : evalFn Try.prog EL18 or18 Try.f18 (PK.outs [.one (.ro (.slice (.int .i64)))] x) =
    laws_toIntSK (fun y => some (tupOf ((PK.outs [.one (.sl (.int .i64))] y).take 1), (PK.outs [.one (.sl (.int .i64))] y).drop 1)) x := by kernel_rfl
theorem o18 : LoOk Try.prog EL18 or18 Try.f18.ntmps (loopsIn (codeOf Try.f18)) :=
  LoOk.mk (m := 1) (by kernel_rfl) fun i hi => match i, hi with
    | 0, _ => ⟨Llaws_toIntS_l0, by kernel_rfl, laws_toIntS_l0o⟩
    | i + 1, hi => absurd hi (by omega)
theorem k18 : CalleeOk Try.prog 18 c18 := callee_mk Try.func18 (code := codeOf Try.f18) (by kernel_rfl) vL18 mixed o18 fun x y h => (e18 x).trans (p18 _ x y h)

/-- laws.toIntSS -/
def EL33 : Nat → Option Callee := addE 18 c18 env0
theorem vL33 : EnvOk Try.prog EL33 := EnvOk.nil.add Try.func18 rfl (by kernel_rfl) k18
def slaws_toIntSS_l0 : LS := ⟨[(0, .one (.dat (.slice (.slice (.int .i64))))), (3, .one (.fix (.sref 0))), (4, .one (.dat (.int .i64)))], [.mat (.int .i64)], []⟩
def slaws_toIntSS_l0x0 : LS := ⟨[(3, .one (.fix (.sref 0)))], [.mat (.int .i64)], []⟩
def xlaws_toIntSS_l0 : List (XS (List (List Int))) := [⟨.exit 0, ⟨[3], [.slot 3], [], []⟩, slaws_toIntSS_l0x0, List (List Int), fun i y => (((), ()), (y, ()))⟩]
def laws_toIntSS_l0K {R : Type} (a0 : List (List Int)) (rc : Int → List (List Int) → Option R) (fin : List (List Int) → Option R) (a1 : Int) (a2 : List (List Int)) : Option R :=
  cond (decide (a1 < (a0.length : Int)))
  ((lat a0 a1).bind fun e1 =>
    (laws_toIntS e1).bind fun y2 =>
    cond (decide ((0 : Int) ≤ a1) && decide (a1 < (a2.length : Int)))
    ((some (a2.set (0 + a1.toNat) y2)).bind fun v3 =>
      rc (IntKind.i64.wrap (a1 + 1)) v3)
    (none))
  (fin a2)
def laws_toIntSS_l0F (a0 : List (List Int)) (r : (Int × (List (List Int))) → Option (List (List Int))) (x : Int × (List (List Int))) : Option (List (List Int)) := laws_toIntSS_l0K a0 (fun a1 a2 => r (a1, a2)) some x.1 x.2
theorem laws_toIntSS_l0c (a0 : List (List Int)) (x : Int × (List (List Int))) : Ct fun r => laws_toIntSS_l0F a0 r x := by
  unfold laws_toIntSS_l0F laws_toIntSS_l0K
  repeat' (first | exact Ct.const | exact Ct.call | refine Ct.cond ?_ ?_ | refine Ct.bind ?_ fun _ => ?_ | refine Ct.sum (fun _ => ?_) fun _ => ?_)
def laws_toIntSS_l0 (a0 : List (List Int)) (a1 : Int) (a2 : List (List Int)) : Option (List (List Int)) := lim (laws_toIntSS_l0F a0) (a1, a2)
theorem laws_toIntSS_l0_eq (a0 : List (List Int)) (a1 : Int) (a2 : List (List Int)) : laws_toIntSS_l0 a0 a1 a2 = laws_toIntSS_l0K a0 (laws_toIntSS_l0 a0) some a1 a2 := lim_eq (laws_toIntSS_l0c a0) (a1, a2)
theorem laws_toIntSS_l0p {R : Type} (a0 : List (List Int)) {rc : Int → List (List Int) → Option (List (List Int))} {rc' : Int → List (List Int) → Option R} {fin : List (List Int) → Option R} (hr : ∀ a1 a2, Par fin (rc a1 a2) (rc' a1 a2)) (a1 : Int) (a2 : List (List Int)) : Par fin (laws_toIntSS_l0K a0 rc some a1 a2) (laws_toIntSS_l0K a0 rc' fin a1 a2) := by
  unfold laws_toIntSS_l0K
  repeat' (first | exact .fin | exact .none | exact hr _ _ | refine .cond ?_ ?_ | refine .bind fun _ => ?_ | refine .sum (fun _ => ?_) fun _ => ?_)
def Llaws_toIntSS_l0 : Loop := mkL ⟨[0, 3, 4], [.slot 3], [], []⟩ slaws_toIntSS_l0 xlaws_toIntSS_l0 (fun (x : ((List (List Int)) × Unit × Int × Unit) × ((List (List Int)) × Unit)) => x.1.1) fun (x : ((List (List Int)) × Unit × Int × Unit) × ((List (List Int)) × Unit)) => laws_toIntSS_l0 x.1.1 x.1.2.2.1 x.2.1
def laws_toIntSSK {R : Type} (fin : List (List Int) → Option R) (x0 : List (List Int)) : Option R :=
  cond (decide ((0 : Int) ≤ (x0.length : Int)) && (decide ((x0.length : Int) ≤ (x0.length : Int)) && decide ((x0.length : Int) ≤ 1099511627776)))
  ((some ((List.replicate ((x0.length : Int).toNat) [] : List (List Int)))).bind fun v1 =>
    (laws_toIntSS_l0 x0 0 v1).bind fun y5 =>
    fin y5)
  (none)
def laws_toIntSS (x0 : List (List Int)) : Option (List (List Int)) := laws_toIntSSK some x0
theorem p33 {R : Type} (fin : List (List Int) → Option R) (x0 : List (List Int)) : Par fin (laws_toIntSSK some x0) (laws_toIntSSK fin x0) := by
  unfold laws_toIntSSK
  repeat' (first | exact .fin | exact .none | refine .cond ?_ ?_ | refine .bind fun _ => ?_ | refine .sum (fun _ => ?_) fun _ => ?_)
def or33 : Ora := { lo := addL 3 (Llaws_toIntSS_l0) lo0, fin := [] }
theorem laws_toIntSS_l0e (a0 : List (List Int)) (k : Nat) (a1 : Int) (a2 : List (List Int)) : loopC Try.prog EL33 or33 ((loopsIn (codeOf Try.f33)).getD 0 .skip) (Llaws_toIntSS_l0).h (Llaws_toIntSS_l0).ho Try.f33.ntmps (k + 1) (slaws_toIntSS_l0.out ((a0, ((), (a1, ()))), (a2, ()))) =
    laws_toIntSS_l0K a0 (fun a1 a2 => loopC Try.prog EL33 or33 ((loopsIn (codeOf Try.f33)).getD 0 .skip) (Llaws_toIntSS_l0).h (Llaws_toIntSS_l0).ho Try.f33.ntmps k (slaws_toIntSS_l0.out ((a0, ((), (a1, ()))), (a2, ())))) (fun y => some (XS.out xlaws_toIntSS_l0 a0 y)) a1 a2 := by kernel_rfl
theorem laws_toIntSS_l0o : LoopOk Try.prog EL33 or33 Try.f33.ntmps ((loopsIn (codeOf Try.f33)).getD 0 .skip) (Llaws_toIntSS_l0) :=
  loop_lim (hs := slaws_toIntSS_l0) (xs := xlaws_toIntSS_l0) (ι := fun (x : ((List (List Int)) × Unit × Int × Unit) × ((List (List Int)) × Unit)) => x.1.1) (φ := fun (x : ((List (List Int)) × Unit × Int × Unit) × ((List (List Int)) × Unit)) => (x.1.2.2.1, x.2.1)) (ψ := fun (i : List (List Int)) (v : Int × (List (List Int))) => ((i, ((), (v.1, ()))), (v.2, ()))) (F := fun (i : List (List Int)) => laws_toIntSS_l0F i) (fun _ => rfl) fun i k hk v => Par.of_eq (laws_toIntSS_l0e i k v.1 v.2) (laws_toIntSS_l0p i (fun a1 a2 => hk (a1, a2)) v.1 v.2)
def c33 : Callee := mkC [.one (.ro (.slice (.slice (.int .i64))))] 1 [.one (.mat (.int .i64))] fun x => laws_toIntSS x
theorem e33 (x : PK.dens [.one (.ro (.slice (.slice (.int .i64))))]) : evalFn Try.prog EL33 or33 Try.f33 (PK.outs [.one (.ro (.slice (.slice (.int .i64))))] x) =
    laws_toIntSSK (fun y => some (tupOf ((PK.outs [.one (.mat (.int .i64))] y).take 1), (PK.outs [.one (.mat (.int .i64))] y).drop 1)) x := by kernel_rfl
theorem o33 : LoOk Try.prog EL33 or33 Try.f33.ntmps (loopsIn (codeOf Try.f33)) :=
  LoOk.mk (m := 1) (by kernel_rfl) fun i hi => match i, hi with
    | 0, _ => ⟨Llaws_toIntSS_l0, by kernel_rfl, laws_toIntSS_l0o⟩
    | i + 1, hi => absurd hi (by omega)
theorem k33 : CalleeOk Try.prog 33 c33 := callee_mk Try.func33 (code := codeOf Try.f33) (by kernel_rfl) vL33 mixed o33 fun x y h => (e33 x).trans (p33 _ x y h)

/-- laws.toLimits -/
def EL51 : Nat → Option Callee := env0
theorem vL51 : EnvOk Try.prog EL51 := EnvOk.nil
def laws_toLimitsK {R : Type} (fin : DLimits → Option R) (x0 : DLimits) : Option R :=
  fin x0
def laws_toLimits (x0 : DLimits) : Option (DLimits) := laws_toLimitsK some x0
theorem p51 {R : Type} (fin : DLimits → Option R) (x0 : DLimits) : Par fin (laws_toLimitsK some x0) (laws_toLimitsK fin x0) := by
  unfold laws_toLimitsK
  repeat' (first | exact .fin | exact .none | refine .cond ?_ ?_ | refine .bind fun _ => ?_ | refine .sum (fun _ => ?_) fun _ => ?_)
def c51 : Callee := mkC [.agg [.ro TLimits]] 1 [.agg [.ro TLimits]] fun x => laws_toLimits x
theorem e51 (x : PK.dens [.agg [.ro TLimits]]) : evalFn Try.prog EL51 or0 Try.f51 (PK.outs [.agg [.ro TLimits]] x) =
    laws_toLimitsK (fun y => some (tupOf ((PK.outs [.agg [.ro TLimits]] y).take 1), (PK.outs [.agg [.ro TLimits]] y).drop 1)) x := by kernel_rfl
theorem k51 : CalleeOk Try.prog 51 c51 := callee_mk Try.func51 (code := codeOf Try.f51) (by kernel_rfl) vL51 mixed (LoOk.nil (by kernel_rfl)) fun x y h => (e51 x).trans (p51 _ x y h)

/-- laws.toJob -/
def EL14 : Nat → Option Callee := addE 51 c51 (addE 18 c18 (addE 33 c33 env0))
theorem vL14 : EnvOk Try.prog EL14 := ((EnvOk.nil.add Try.func33 rfl (by kernel_rfl) k33).add Try.func18 rfl (by kernel_rfl) k18).add Try.func51 rfl (by kernel_rfl) k51
def laws_toJobK {R : Type} (fin : (List (List Int)) × (List Int) × (List Int) × Int × Int × Int × Int × Int → Option R) (x0 : DJob) : Option R :=
  (laws_toIntSS x0.1).bind fun y1 =>
  (laws_toIntS x0.2.1).bind fun y2 =>
  (laws_toIntS x0.2.2.1).bind fun y3 =>
  (laws_toLimits x0.2.2.2.1).bind fun y4 =>
  fin (y1, (y2, (y3, (y4.1, (y4.2.1, (x0.2.2.2.2.1, (x0.2.2.2.2.2.1, x0.2.2.2.2.2.2.1)))))))
def laws_toJob (x0 : DJob) : Option ((List (List Int)) × (List Int) × (List Int) × Int × Int × Int × Int × Int) := laws_toJobK some x0
theorem p14 {R : Type} (fin : (List (List Int)) × (List Int) × (List Int) × Int × Int × Int × Int × Int → Option R) (x0 : DJob) : Par fin (laws_toJobK some x0) (laws_toJobK fin x0) := by
  unfold laws_toJobK
  repeat' (first | exact .fin | exact .none | refine .cond ?_ ?_ | refine .bind fun _ => ?_ | refine .sum (fun _ => ?_) fun _ => ?_)
def c14 : Callee := mkC [.agg [.ro TJob]] 1 [.agg [.mat (.int .i64), .sl (.int .i64), .sl (.int .i64), .ro (.int .i64), .ro (.int .i64), .ro (.int .i64), .ro (.int .i64), .ro (.int .i64)]] fun x => laws_toJob x
theorem e14 (x : PK.dens [.agg [.ro TJob]]) : evalFn Try.prog EL14 or0 Try.f14 (PK.outs [.agg [.ro TJob]] x) =
    laws_toJobK (fun y => some (tupOf ((PK.outs [.agg [.mat (.int .i64), .sl (.int .i64), .sl (.int .i64), .ro (.int .i64), .ro (.int .i64), .ro (.int .i64), .ro (.int .i64), .ro (.int .i64)]] y).take 1), (PK.outs [.agg [.mat (.int .i64), .sl (.int .i64), .sl (.int .i64), .ro (.int .i64), .ro (.int .i64), .ro (.int .i64), .ro (.int .i64), .ro (.int .i64)]] y).drop 1)) x := by kernel_rfl
theorem k14 : CalleeOk Try.prog 14 c14 := callee_mk Try.func14 (code := codeOf Try.f14) (by kernel_rfl) vL14 mixed (LoOk.nil (by kernel_rfl)) fun x y h => (e14 x).trans (p14 _ x y h)

/-- laws.toPlan -/
def EL40 : Nat → Option Callee := addE 18 c18 env0
theorem vL40 : EnvOk Try.prog EL40 := EnvOk.nil.add Try.func18 rfl (by kernel_rfl) k18
def laws_toPlanK {R : Type} (fin : Int × (List Int) → Option R) (x0 : DPlan) : Option R :=
  (laws_toIntS x0.2.1).bind fun y1 =>
  fin (x0.1, y1)
def laws_toPlan (x0 : DPlan) : Option (Int × (List Int)) := laws_toPlanK some x0
theorem p40 {R : Type} (fin : Int × (List Int) → Option R) (x0 : DPlan) : Par fin (laws_toPlanK some x0) (laws_toPlanK fin x0) := by
  unfold laws_toPlanK
  repeat' (first | exact .fin | exact .none | refine .cond ?_ ?_ | refine .bind fun _ => ?_ | refine .sum (fun _ => ?_) fun _ => ?_)
def c40 : Callee := mkC [.agg [.ro TPlan]] 1 [.agg [.ro (.int .i64), .sl (.int .i64)]] fun x => laws_toPlan x
theorem e40 (x : PK.dens [.agg [.ro TPlan]]) : evalFn Try.prog EL40 or0 Try.f40 (PK.outs [.agg [.ro TPlan]] x) =
    laws_toPlanK (fun y => some (tupOf ((PK.outs [.agg [.ro (.int .i64), .sl (.int .i64)]] y).take 1), (PK.outs [.agg [.ro (.int .i64), .sl (.int .i64)]] y).drop 1)) x := by kernel_rfl
theorem k40 : CalleeOk Try.prog 40 c40 := callee_mk Try.func40 (code := codeOf Try.f40) (by kernel_rfl) vL40 mixed (LoOk.nil (by kernel_rfl)) fun x y h => (e40 x).trans (p40 _ x y h)

/-- laws.eqIntS -/
def EL21 : Nat → Option Callee := env0
theorem vL21 : EnvOk Try.prog EL21 := EnvOk.nil
def slaws_eqIntS_l0 : LS := ⟨[(0, .one (.dat (.slice (.int .i64)))), (1, .one (.dat (.slice (.int .i64)))), (5, .one (.dat (.int .i64)))], [], []⟩
def slaws_eqIntS_l0x0 : LS := ⟨[(4, .one (.dat .bool))], [], []⟩
def slaws_eqIntS_l0x1 : LS := ⟨[], [], []⟩
def xlaws_eqIntS_l0 : List (XS ((List Int) × (List Int))) := [⟨.ret, ⟨[4], [], [], []⟩, slaws_eqIntS_l0x0, Bool, fun i y => ((y, ()), ())⟩,
  ⟨.exit 0, ⟨[], [], [], []⟩, slaws_eqIntS_l0x1, Unit, fun i y => ((), ())⟩]
def laws_eqIntS_l0K {R : Type} (a0 : List Int) (a1 : List Int) (rc : Int → Option R) (fin : (Bool ⊕ Unit) → Option R) (a2 : Int) : Option R :=
  cond (decide (a2 < (a0.length : Int)))
  ((lat a0 a2).bind fun e1 =>
    (lat a1 a2).bind fun e2 =>
    cond (e1 != e2)
    (fin (.inl false))
    (rc (IntKind.i64.wrap (a2 + 1))))
  (fin (.inr ()))
def laws_eqIntS_l0F (a0 : List Int) (a1 : List Int) (r : Int → Option (Bool ⊕ Unit)) (x : Int) : Option (Bool ⊕ Unit) := laws_eqIntS_l0K a0 a1 (fun a2 => r a2) some x
theorem laws_eqIntS_l0c (a0 : List Int) (a1 : List Int) (x : Int) : Ct fun r => laws_eqIntS_l0F a0 a1 r x := by
  unfold laws_eqIntS_l0F laws_eqIntS_l0K
  repeat' (first | exact Ct.const | exact Ct.call | refine Ct.cond ?_ ?_ | refine Ct.bind ?_ fun _ => ?_ | refine Ct.sum (fun _ => ?_) fun _ => ?_)
def laws_eqIntS_l0 (a0 : List Int) (a1 : List Int) (a2 : Int) : Option (Bool ⊕ Unit) := lim (laws_eqIntS_l0F a0 a1) a2
theorem laws_eqIntS_l0_eq (a0 : List Int) (a1 : List Int) (a2 : Int) : laws_eqIntS_l0 a0 a1 a2 = laws_eqIntS_l0K a0 a1 (laws_eqIntS_l0 a0 a1) some a2 := lim_eq (laws_eqIntS_l0c a0 a1) a2
theorem laws_eqIntS_l0p {R : Type} (a0 : List Int) (a1 : List Int) {rc : Int → Option (Bool ⊕ Unit)} {rc' : Int → Option R} {fin : (Bool ⊕ Unit) → Option R} (hr : ∀ a2, Par fin (rc a2) (rc' a2)) (a2 : Int) : Par fin (laws_eqIntS_l0K a0 a1 rc some a2) (laws_eqIntS_l0K a0 a1 rc' fin a2) := by
  unfold laws_eqIntS_l0K
  repeat' (first | exact .fin | exact .none | exact hr _ | refine .cond ?_ ?_ | refine .bind fun _ => ?_ | refine .sum (fun _ => ?_) fun _ => ?_)
def Llaws_eqIntS_l0 : Loop := mkL ⟨[0, 1, 5], [], [], []⟩ slaws_eqIntS_l0 xlaws_eqIntS_l0 (fun (x : ((List Int) × (List Int) × Int × Unit) × (Unit)) => (x.1.1, x.1.2.1)) fun (x : ((List Int) × (List Int) × Int × Unit) × (Unit)) => laws_eqIntS_l0 x.1.1 x.1.2.1 x.1.2.2.1
def laws_eqIntSK {R : Type} (fin : Bool → Option R) (x0 : List Int) (x1 : List Int) : Option R :=
  cond ((x0.length : Int) != (x1.length : Int))
  (fin false)
  ((laws_eqIntS_l0 x0 x1 0).bind fun y3 =>
    sumO y3 (fun y4 =>
    fin y4)
    (fun y5 =>
    fin true))
def laws_eqIntS (x0 : List Int) (x1 : List Int) : Option (Bool) := laws_eqIntSK some x0 x1
theorem p21 {R : Type} (fin : Bool → Option R) (x0 : List Int) (x1 : List Int) : Par fin (laws_eqIntSK some x0 x1) (laws_eqIntSK fin x0 x1) := by
  unfold laws_eqIntSK
  repeat' (first | exact .fin | exact .none | refine .cond ?_ ?_ | refine .bind fun _ => ?_ | refine .sum (fun _ => ?_) fun _ => ?_)
def or21 : Ora := { lo := addL 4 (Llaws_eqIntS_l0) lo0, fin := [] }
theorem laws_eqIntS_l0e (a0 : List Int) (a1 : List Int) (k : Nat) (a2 : Int) : loopC Try.prog EL21 or21 ((loopsIn (codeOf Try.f21)).getD 0 .skip) (Llaws_eqIntS_l0).h (Llaws_eqIntS_l0).ho Try.f21.ntmps (k + 1) (slaws_eqIntS_l0.out ((a0, (a1, (a2, ()))), ())) =
    laws_eqIntS_l0K a0 a1 (fun a2 => loopC Try.prog EL21 or21 ((loopsIn (codeOf Try.f21)).getD 0 .skip) (Llaws_eqIntS_l0).h (Llaws_eqIntS_l0).ho Try.f21.ntmps k (slaws_eqIntS_l0.out ((a0, (a1, (a2, ()))), ()))) (fun y => some (XS.out xlaws_eqIntS_l0 (a0, a1) y)) a2 := by kernel_rfl
theorem laws_eqIntS_l0o : LoopOk Try.prog EL21 or21 Try.f21.ntmps ((loopsIn (codeOf Try.f21)).getD 0 .skip) (Llaws_eqIntS_l0) :=
  loop_lim (hs := slaws_eqIntS_l0) (xs := xlaws_eqIntS_l0) (ι := fun (x : ((List Int) × (List Int) × Int × Unit) × (Unit)) => (x.1.1, x.1.2.1)) (φ := fun (x : ((List Int) × (List Int) × Int × Unit) × (Unit)) => x.1.2.2.1) (ψ := fun (i : (List Int) × (List Int)) (v : Int) => ((i.1, (i.2, (v, ()))), ())) (F := fun (i : (List Int) × (List Int)) => laws_eqIntS_l0F i.1 i.2) (fun _ => rfl) fun i k hk v => Par.of_eq (laws_eqIntS_l0e i.1 i.2 k v) (laws_eqIntS_l0p i.1 i.2 (fun a2 => hk a2) v)
def c21 : Callee := mkC [.one (.ro (.slice (.int .i64))), .one (.ro (.slice (.int .i64)))] 1 [.one (.ro .bool)] fun x => laws_eqIntS x.1 x.2
theorem e21 (x : PK.dens [.one (.ro (.slice (.int .i64))), .one (.ro (.slice (.int .i64)))]) : evalFn Try.prog EL21 or21 Try.f21 (PK.outs [.one (.ro (.slice (.int .i64))), .one (.ro (.slice (.int .i64)))] x) =
    laws_eqIntSK (fun y => some (tupOf ((PK.outs [.one (.ro .bool)] y).take 1), (PK.outs [.one (.ro .bool)] y).drop 1)) x.1 x.2 := by kernel_rfl
theorem o21 : LoOk Try.prog EL21 or21 Try.f21.ntmps (loopsIn (codeOf Try.f21)) :=
  LoOk.mk (m := 1) (by kernel_rfl) fun i hi => match i, hi with
    | 0, _ => ⟨Llaws_eqIntS_l0, by kernel_rfl, laws_eqIntS_l0o⟩
    | i + 1, hi => absurd hi (by omega)
theorem k21 : CalleeOk Try.prog 21 c21 := callee_mk Try.func21 (code := codeOf Try.f21) (by kernel_rfl) vL21 mixed o21 fun x y h => (e21 x).trans (p21 _ x.1 x.2 y h)

/-- laws.eqIntSS -/
def EL35 : Nat → Option Callee := addE 21 c21 env0
theorem vL35 : EnvOk Try.prog EL35 := EnvOk.nil.add Try.func21 rfl (by kernel_rfl) k21
def slaws_eqIntSS_l0 : LS := ⟨[(0, .one (.dat (.slice (.slice (.int .i64))))), (1, .one (.dat (.slice (.slice (.int .i64))))), (5, .one (.dat (.int .i64)))], [], []⟩
def slaws_eqIntSS_l0x0 : LS := ⟨[(4, .one (.dat .bool))], [], []⟩
def slaws_eqIntSS_l0x1 : LS := ⟨[], [], []⟩
def xlaws_eqIntSS_l0 : List (XS ((List (List Int)) × (List (List Int)))) := [⟨.ret, ⟨[4], [], [], []⟩, slaws_eqIntSS_l0x0, Bool, fun i y => ((y, ()), ())⟩,
  ⟨.exit 0, ⟨[], [], [], []⟩, slaws_eqIntSS_l0x1, Unit, fun i y => ((), ())⟩]
def laws_eqIntSS_l0K {R : Type} (a0 : List (List Int)) (a1 : List (List Int)) (rc : Int → Option R) (fin : (Bool ⊕ Unit) → Option R) (a2 : Int) : Option R :=
  cond (decide (a2 < (a0.length : Int)))
  ((lat a0 a2).bind fun e1 =>
    (lat a1 a2).bind fun e2 =>
    (laws_eqIntS e1 e2).bind fun y3 =>
    cond (!y3)
    (fin (.inl false))
    (rc (IntKind.i64.wrap (a2 + 1))))
  (fin (.inr ()))
def laws_eqIntSS_l0F (a0 : List (List Int)) (a1 : List (List Int)) (r : Int → Option (Bool ⊕ Unit)) (x : Int) : Option (Bool ⊕ Unit) := laws_eqIntSS_l0K a0 a1 (fun a2 => r a2) some x
theorem laws_eqIntSS_l0c (a0 : List (List Int)) (a1 : List (List Int)) (x : Int) : Ct fun r => laws_eqIntSS_l0F a0 a1 r x := by
  unfold laws_eqIntSS_l0F laws_eqIntSS_l0K
  repeat' (first | exact Ct.const | exact Ct.call | refine Ct.cond ?_ ?_ | refine Ct.bind ?_ fun _ => ?_ | refine Ct.sum (fun _ => ?_) fun _ => ?_)
def laws_eqIntSS_l0 (a0 : List (List Int)) (a1 : List (List Int)) (a2 : Int) : Option (Bool ⊕ Unit) := lim (laws_eqIntSS_l0F a0 a1) a2
theorem laws_eqIntSS_l0_eq (a0 : List (List Int)) (a1 : List (List Int)) (a2 : Int) : laws_eqIntSS_l0 a0 a1 a2 = laws_eqIntSS_l0K a0 a1 (laws_eqIntSS_l0 a0 a1) some a2 := lim_eq (laws_eqIntSS_l0c a0 a1) a2
theorem laws_eqIntSS_l0p {R : Type} (a0 : List (List Int)) (a1 : List (List Int)) {rc : Int → Option (Bool ⊕ Unit)} {rc' : Int → Option R} {fin : (Bool ⊕ Unit) → Option R} (hr : ∀ a2, Par fin (rc a2) (rc' a2)) (a2 : Int) : Par fin (laws_eqIntSS_l0K a0 a1 rc some a2) (laws_eqIntSS_l0K a0 a1 rc' fin a2) := by
  unfold laws_eqIntSS_l0K
  repeat' (first | exact .fin | exact .none | exact hr _ | refine .cond ?_ ?_ | refine .bind fun _ => ?_ | refine .sum (fun _ => ?_) fun _ => ?_)
def Llaws_eqIntSS_l0 : Loop := mkL ⟨[0, 1, 5], [], [], []⟩ slaws_eqIntSS_l0 xlaws_eqIntSS_l0 (fun (x : ((List (List Int)) × (List (List Int)) × Int × Unit) × (Unit)) => (x.1.1, x.1.2.1)) fun (x : ((List (List Int)) × (List (List Int)) × Int × Unit) × (Unit)) => laws_eqIntSS_l0 x.1.1 x.1.2.1 x.1.2.2.1
def laws_eqIntSSK {R : Type} (fin : Bool → Option R) (x0 : List (List Int)) (x1 : List (List Int)) : Option R :=
  cond ((x0.length : Int) != (x1.length : Int))
  (fin false)
  ((laws_eqIntSS_l0 x0 x1 0).bind fun y4 =>
    sumO y4 (fun y5 =>
    fin y5)
    (fun y6 =>
    fin true))
def laws_eqIntSS (x0 : List (List Int)) (x1 : List (List Int)) : Option (Bool) := laws_eqIntSSK some x0 x1
theorem p35 {R : Type} (fin : Bool → Option R) (x0 : List (List Int)) (x1 : List (List Int)) : Par fin (laws_eqIntSSK some x0 x1) (laws_eqIntSSK fin x0 x1) := by
  unfold laws_eqIntSSK
  repeat' (first | exact .fin | exact .none | refine .cond ?_ ?_ | refine .bind fun _ => ?_ | refine .sum (fun _ => ?_) fun _ => ?_)
def or35 : Ora := { lo := addL 4 (Llaws_eqIntSS_l0) lo0, fin := [] }
theorem laws_eqIntSS_l0e (a0 : List (List Int)) (a1 : List (List Int)) (k : Nat) (a2 : Int) : loopC Try.prog EL35 or35 ((loopsIn (codeOf Try.f35)).getD 0 .skip) (Llaws_eqIntSS_l0).h (Llaws_eqIntSS_l0).ho Try.f35.ntmps (k + 1) (slaws_eqIntSS_l0.out ((a0, (a1, (a2, ()))), ())) =
    laws_eqIntSS_l0K a0 a1 (fun a2 => loopC Try.prog EL35 or35 ((loopsIn (codeOf Try.f35)).getD 0 .skip) (Llaws_eqIntSS_l0).h (Llaws_eqIntSS_l0).ho Try.f35.ntmps k (slaws_eqIntSS_l0.out ((a0, (a1, (a2, ()))), ()))) (fun y => some (XS.out xlaws_eqIntSS_l0 (a0, a1) y)) a2 := by kernel_rfl
theorem laws_eqIntSS_l0o : LoopOk Try.prog EL35 or35 Try.f35.ntmps ((loopsIn (codeOf Try.f35)).getD 0 .skip) (Llaws_eqIntSS_l0) :=
  loop_lim (hs := slaws_eqIntSS_l0) (xs := xlaws_eqIntSS_l0) (ι := fun (x : ((List (List Int)) × (List (List Int)) × Int × Unit) × (Unit)) => (x.1.1, x.1.2.1)) (φ := fun (x : ((List (List Int)) × (List (List Int)) × Int × Unit) × (Unit)) => x.1.2.2.1) (ψ := fun (i : (List (List Int)) × (List (List Int))) (v : Int) => ((i.1, (i.2, (v, ()))), ())) (F := fun (i : (List (List Int)) × (List (List Int))) => laws_eqIntSS_l0F i.1 i.2) (fun _ => rfl) fun i k hk v => Par.of_eq (laws_eqIntSS_l0e i.1 i.2 k v) (laws_eqIntSS_l0p i.1 i.2 (fun a2 => hk a2) v)
def c35 : Callee := mkC [.one (.ro (.slice (.slice (.int .i64)))), .one (.ro (.slice (.slice (.int .i64))))] 1 [.one (.ro .bool)] fun x => laws_eqIntSS x.1 x.2
theorem e35 (x : PK.dens [.one (.ro (.slice (.slice (.int .i64)))), .one (.ro (.slice (.slice (.int .i64))))]) : evalFn Try.prog EL35 or35 Try.f35 (PK.outs [.one (.ro (.slice (.slice (.int .i64)))), .one (.ro (.slice (.slice (.int .i64))))] x) =
    laws_eqIntSSK (fun y => some (tupOf ((PK.outs [.one (.ro .bool)] y).take 1), (PK.outs [.one (.ro .bool)] y).drop 1)) x.1 x.2 := by kernel_rfl
theorem o35 : LoOk Try.prog EL35 or35 Try.f35.ntmps (loopsIn (codeOf Try.f35)) :=
  LoOk.mk (m := 1) (by kernel_rfl) fun i hi => match i, hi with
    | 0, _ => ⟨Llaws_eqIntSS_l0, by kernel_rfl, laws_eqIntSS_l0o⟩
    | i + 1, hi => absurd hi (by omega)
theorem k35 : CalleeOk Try.prog 35 c35 := callee_mk Try.func35 (code := codeOf Try.f35) (by kernel_rfl) vL35 mixed o35 fun x y h => (e35 x).trans (p35 _ x.1 x.2 y h)

/-- laws.eqLimits -/
def EL55 : Nat → Option Callee := env0
theorem vL55 : EnvOk Try.prog EL55 := EnvOk.nil
def laws_eqLimitsK {R : Type} (fin : Bool → Option R) (x0 : DLimits) (x1 : DLimits) : Option R :=
  cond (x0.1 != x1.1)
  (fin false)
  (cond (x0.2.1 != x1.2.1)
    (fin false)
    (fin true))
def laws_eqLimits (x0 : DLimits) (x1 : DLimits) : Option (Bool) := laws_eqLimitsK some x0 x1
theorem p55 {R : Type} (fin : Bool → Option R) (x0 : DLimits) (x1 : DLimits) : Par fin (laws_eqLimitsK some x0 x1) (laws_eqLimitsK fin x0 x1) := by
  unfold laws_eqLimitsK
  repeat' (first | exact .fin | exact .none | refine .cond ?_ ?_ | refine .bind fun _ => ?_ | refine .sum (fun _ => ?_) fun _ => ?_)
def c55 : Callee := mkC [.agg [.ro TLimits], .agg [.ro TLimits]] 1 [.one (.ro .bool)] fun x => laws_eqLimits x.1 x.2
theorem e55 (x : PK.dens [.agg [.ro TLimits], .agg [.ro TLimits]]) : evalFn Try.prog EL55 or0 Try.f55 (PK.outs [.agg [.ro TLimits], .agg [.ro TLimits]] x) =
    laws_eqLimitsK (fun y => some (tupOf ((PK.outs [.one (.ro .bool)] y).take 1), (PK.outs [.one (.ro .bool)] y).drop 1)) x.1 x.2 := by kernel_rfl
theorem k55 : CalleeOk Try.prog 55 c55 := callee_mk Try.func55 (code := codeOf Try.f55) (by kernel_rfl) vL55 mixed (LoOk.nil (by kernel_rfl)) fun x y h => (e55 x).trans (p55 _ x.1 x.2 y h)

/-- laws.eqJob -/
def EL16 : Nat → Option Callee := addE 55 c55 (addE 21 c21 (addE 35 c35 env0))
theorem vL16 : EnvOk Try.prog EL16 := ((EnvOk.nil.add Try.func35 rfl (by kernel_rfl) k35).add Try.func21 rfl (by kernel_rfl) k21).add Try.func55 rfl (by kernel_rfl) k55
def laws_eqJobK {R : Type} (fin : Bool → Option R) (x0 : DJob) (x1 : DJob) : Option R :=
  (laws_eqIntSS x0.1 x1.1).bind fun y1 =>
  cond (!y1)
  (fin false)
  ((laws_eqIntS x0.2.1 x1.2.1).bind fun y2 =>
    cond (!y2)
    (fin false)
    ((laws_eqIntS x0.2.2.1 x1.2.2.1).bind fun y3 =>
      cond (!y3)
      (fin false)
      ((laws_eqLimits x0.2.2.2.1 x1.2.2.2.1).bind fun y4 =>
        cond (!y4)
        (fin false)
        (cond (x0.2.2.2.2.1 != x1.2.2.2.2.1)
          (fin false)
          (cond (x0.2.2.2.2.2.1 != x1.2.2.2.2.2.1)
            (fin false)
            (cond (x0.2.2.2.2.2.2.1 != x1.2.2.2.2.2.2.1)
              (fin false)
              (fin true)))))))
def laws_eqJob (x0 : DJob) (x1 : DJob) : Option (Bool) := laws_eqJobK some x0 x1
theorem p16 {R : Type} (fin : Bool → Option R) (x0 : DJob) (x1 : DJob) : Par fin (laws_eqJobK some x0 x1) (laws_eqJobK fin x0 x1) := by
  unfold laws_eqJobK
  repeat' (first | exact .fin | exact .none | refine .cond ?_ ?_ | refine .bind fun _ => ?_ | refine .sum (fun _ => ?_) fun _ => ?_)
def c16 : Callee := mkC [.agg [.ro TJob], .agg [.ro TJob]] 1 [.one (.ro .bool)] fun x => laws_eqJob x.1 x.2
theorem e16 (x : PK.dens [.agg [.ro TJob], .agg [.ro TJob]]) : evalFn Try.prog EL16 or0 Try.f16 (PK.outs [.agg [.ro TJob], .agg [.ro TJob]] x) =
    laws_eqJobK (fun y => some (tupOf ((PK.outs [.one (.ro .bool)] y).take 1), (PK.outs [.one (.ro .bool)] y).drop 1)) x.1 x.2 := by kernel_rfl
theorem k16 : CalleeOk Try.prog 16 c16 := callee_mk Try.func16 (code := codeOf Try.f16) (by kernel_rfl) vL16 mixed (LoOk.nil (by kernel_rfl)) fun x y h => (e16 x).trans (p16 _ x.1 x.2 y h)

/-- laws.eqPlan -/
def EL20 : Nat → Option Callee := addE 21 c21 env0
theorem vL20 : EnvOk Try.prog EL20 := EnvOk.nil.add Try.func21 rfl (by kernel_rfl) k21
def laws_eqPlanK {R : Type} (fin : Bool → Option R) (x0 : DPlan) (x1 : DPlan) : Option R :=
  cond (x0.1 != x1.1)
  (fin false)
  ((laws_eqIntS x0.2.1 x1.2.1).bind fun y1 =>
    cond (!y1)
    (fin false)
    (fin true))
def laws_eqPlan (x0 : DPlan) (x1 : DPlan) : Option (Bool) := laws_eqPlanK some x0 x1
theorem p20 {R : Type} (fin : Bool → Option R) (x0 : DPlan) (x1 : DPlan) : Par fin (laws_eqPlanK some x0 x1) (laws_eqPlanK fin x0 x1) := by
  unfold laws_eqPlanK
  repeat' (first | exact .fin | exact .none | refine .cond ?_ ?_ | refine .bind fun _ => ?_ | refine .sum (fun _ => ?_) fun _ => ?_)
def c20 : Callee := mkC [.agg [.ro TPlan], .agg [.ro TPlan]] 1 [.one (.ro .bool)] fun x => laws_eqPlan x.1 x.2
theorem e20 (x : PK.dens [.agg [.ro TPlan], .agg [.ro TPlan]]) : evalFn Try.prog EL20 or0 Try.f20 (PK.outs [.agg [.ro TPlan], .agg [.ro TPlan]] x) =
    laws_eqPlanK (fun y => some (tupOf ((PK.outs [.one (.ro .bool)] y).take 1), (PK.outs [.one (.ro .bool)] y).drop 1)) x.1 x.2 := by kernel_rfl
theorem k20 : CalleeOk Try.prog 20 c20 := callee_mk Try.func20 (code := codeOf Try.f20) (by kernel_rfl) vL20 mixed (LoOk.nil (by kernel_rfl)) fun x y h => (e20 x).trans (p20 _ x.1 x.2 y h)

/-- laws.markIntS -/
def EL23 : Nat → Option Callee := env0
theorem vL23 : EnvOk Try.prog EL23 := EnvOk.nil
def slaws_markIntS_l0 : LS := ⟨[(0, .one (.fix (.sref 0))), (1, .one (.dat (.int .i64))), (5, .one (.dat (.int .i64)))], [.sl (.int .i64)], [0]⟩
def slaws_markIntS_l0x0 : LS := ⟨[(0, .one (.fix (.sref 0))), (1, .one (.dat (.int .i64)))], [.sl (.int .i64)], [0]⟩
def xlaws_markIntS_l0 : List (XS (Unit)) := [⟨.exit 0, ⟨[0, 1], [.slot 0], [0], []⟩, slaws_markIntS_l0x0, Int × (List Int), fun i y => (((), (y.1, ())), (y.2, ()))⟩]
def laws_markIntS_l0K {R : Type} (rc : Int → Int → List Int → Option R) (fin : Int × (List Int) → Option R) (a0 : Int) (a1 : Int) (a2 : List Int) : Option R :=
  cond (decide (a1 < (a2.length : Int)))
  (cond (decide ((0 : Int) ≤ a1) && decide (a1 < (a2.length : Int)))
    ((some (a2.set (0 + a1.toNat) a0)).bind fun v1 =>
      rc (IntKind.i64.wrap (a0 + 1)) (IntKind.i64.wrap (a1 + 1)) v1)
    (none))
  (fin (a0, a2))
def laws_markIntS_l0F (r : (Int × Int × (List Int)) → Option (Int × (List Int))) (x : Int × Int × (List Int)) : Option (Int × (List Int)) := laws_markIntS_l0K (fun a0 a1 a2 => r (a0, (a1, a2))) some x.1 x.2.1 x.2.2
theorem laws_markIntS_l0c (x : Int × Int × (List Int)) : Ct fun r => laws_markIntS_l0F r x := by
  unfold laws_markIntS_l0F laws_markIntS_l0K
  repeat' (first | exact Ct.const | exact Ct.call | refine Ct.cond ?_ ?_ | refine Ct.bind ?_ fun _ => ?_ | refine Ct.sum (fun _ => ?_) fun _ => ?_)
def laws_markIntS_l0 (a0 : Int) (a1 : Int) (a2 : List Int) : Option (Int × (List Int)) := lim (laws_markIntS_l0F) (a0, (a1, a2))
theorem laws_markIntS_l0_eq (a0 : Int) (a1 : Int) (a2 : List Int) : laws_markIntS_l0 a0 a1 a2 = laws_markIntS_l0K (laws_markIntS_l0) some a0 a1 a2 := lim_eq (laws_markIntS_l0c) (a0, (a1, a2))
theorem laws_markIntS_l0p {R : Type} {rc : Int → Int → List Int → Option (Int × (List Int))} {rc' : Int → Int → List Int → Option R} {fin : Int × (List Int) → Option R} (hr : ∀ a0 a1 a2, Par fin (rc a0 a1 a2) (rc' a0 a1 a2)) (a0 : Int) (a1 : Int) (a2 : List Int) : Par fin (laws_markIntS_l0K rc some a0 a1 a2) (laws_markIntS_l0K rc' fin a0 a1 a2) := by
  unfold laws_markIntS_l0K
  repeat' (first | exact .fin | exact .none | exact hr _ _ _ | refine .cond ?_ ?_ | refine .bind fun _ => ?_ | refine .sum (fun _ => ?_) fun _ => ?_)
def Llaws_markIntS_l0 : Loop := mkL ⟨[0, 1, 5], [.slot 0], [0], []⟩ slaws_markIntS_l0 xlaws_markIntS_l0 (fun (x : (Unit × Int × Int × Unit) × ((List Int) × Unit)) => ()) fun (x : (Unit × Int × Int × Unit) × ((List Int) × Unit)) => laws_markIntS_l0 x.1.2.1 x.1.2.2.1 x.2.1
def laws_markIntSK {R : Type} (fin : Int × (List Int) → Option R) (x0 : List Int) (x1 : Int) : Option R :=
  (laws_markIntS_l0 x1 0 x0).bind fun y2 =>
  fin y2
def laws_markIntS (x0 : List Int) (x1 : Int) : Option (Int × (List Int)) := laws_markIntSK some x0 x1
theorem p23 {R : Type} (fin : Int × (List Int) → Option R) (x0 : List Int) (x1 : Int) : Par fin (laws_markIntSK some x0 x1) (laws_markIntSK fin x0 x1) := by
  unfold laws_markIntSK
  repeat' (first | exact .fin | exact .none | refine .cond ?_ ?_ | refine .bind fun _ => ?_ | refine .sum (fun _ => ?_) fun _ => ?_)
def or23 : Ora := { lo := addL 2 (Llaws_markIntS_l0) lo0, fin := [] }
theorem laws_markIntS_l0e (k : Nat) (a0 : Int) (a1 : Int) (a2 : List Int) : loopC Try.prog EL23 or23 ((loopsIn (codeOf Try.f23)).getD 0 .skip) (Llaws_markIntS_l0).h (Llaws_markIntS_l0).ho Try.f23.ntmps (k + 1) (slaws_markIntS_l0.out (((), (a0, (a1, ()))), (a2, ()))) =
    laws_markIntS_l0K (fun a0 a1 a2 => loopC Try.prog EL23 or23 ((loopsIn (codeOf Try.f23)).getD 0 .skip) (Llaws_markIntS_l0).h (Llaws_markIntS_l0).ho Try.f23.ntmps k (slaws_markIntS_l0.out (((), (a0, (a1, ()))), (a2, ())))) (fun y => some (XS.out xlaws_markIntS_l0 () y)) a0 a1 a2 := by kernel_rfl
theorem laws_markIntS_l0o : LoopOk Try.prog EL23 or23 Try.f23.ntmps ((loopsIn (codeOf Try.f23)).getD 0 .skip) (Llaws_markIntS_l0) :=
  loop_lim (hs := slaws_markIntS_l0) (xs := xlaws_markIntS_l0) (ι := fun (x : (Unit × Int × Int × Unit) × ((List Int) × Unit)) => ()) (φ := fun (x : (Unit × Int × Int × Unit) × ((List Int) × Unit)) => (x.1.2.1, (x.1.2.2.1, x.2.1))) (ψ := fun (i : Unit) (v : Int × Int × (List Int)) => (((), (v.1, (v.2.1, ()))), (v.2.2, ()))) (F := fun (i : Unit) => laws_markIntS_l0F) (fun _ => rfl) fun i k hk v => Par.of_eq (laws_markIntS_l0e k v.1 v.2.1 v.2.2) (laws_markIntS_l0p (fun a0 a1 a2 => hk (a0, (a1, a2))) v.1 v.2.1 v.2.2)
def c23 : Callee := mkC [.one (.sl (.int .i64)), .one (.ro (.int .i64))] 1 [.one (.ro (.int .i64)), .one (.sl (.int .i64))] fun x => laws_markIntS x.1 x.2
theorem e23 (x : PK.dens [.one (.sl (.int .i64)), .one (.ro (.int .i64))]) : evalFn Try.prog EL23 or23 Try.f23 (PK.outs [.one (.sl (.int .i64)), .one (.ro (.int .i64))] x) =
    laws_markIntSK (fun y => some (tupOf ((PK.outs [.one (.ro (.int .i64)), .one (.sl (.int .i64))] y).take 1), (PK.outs [.one (.ro (.int .i64)), .one (.sl (.int .i64))] y).drop 1)) x.1 x.2 := by kernel_rfl
theorem o23 : LoOk Try.prog EL23 or23 Try.f23.ntmps (loopsIn (codeOf Try.f23)) :=
  LoOk.mk (m := 1) (by kernel_rfl) fun i hi => match i, hi with
    | 0, _ => ⟨Llaws_markIntS_l0, by kernel_rfl, laws_markIntS_l0o⟩
    | i + 1, hi => absurd hi (by omega)
theorem k23 : CalleeOk Try.prog 23 c23 := callee_mk Try.func23 (code := codeOf Try.f23) (by kernel_rfl) vL23 mixed o23 fun x y h => (e23 x).trans (p23 _ x.1 x.2 y h)

/-- laws.markIntSS -/
def EL60 : Nat → Option Callee := addE 23 c23 env0
theorem vL60 : EnvOk Try.prog EL60 := EnvOk.nil.add Try.func23 rfl (by kernel_rfl) k23
def slaws_markIntSS_l0 : LS := ⟨[(0, .one (.fix (.sref 0))), (1, .one (.dat (.int .i64))), (5, .one (.dat (.int .i64)))], [.mat (.int .i64)], [0]⟩
def slaws_markIntSS_l0x0 : LS := ⟨[(0, .one (.fix (.sref 0))), (1, .one (.dat (.int .i64)))], [.mat (.int .i64)], [0]⟩
def xlaws_markIntSS_l0 : List (XS (Unit)) := [⟨.exit 0, ⟨[0, 1], [.slot 0], [0], []⟩, slaws_markIntSS_l0x0, Int × (List (List Int)), fun i y => (((), (y.1, ())), (y.2, ()))⟩]
def laws_markIntSS_l0K {R : Type} (rc : Int → Int → List (List Int) → Option R) (fin : Int × (List (List Int)) → Option R) (a0 : Int) (a1 : Int) (a2 : List (List Int)) : Option R :=
  cond (decide (a1 < (a2.length : Int)))
  (cond (decide ((0 : Int) ≤ a1) && decide (a1 < (a2.length : Int)))
    ((laws_markIntS (a2.getD (0 + a1.toNat) []) a0).bind fun y1 =>
      rc y1.1 (IntKind.i64.wrap (a1 + 1)) (a2.set (0 + a1.toNat) y1.2))
    (none))
  (fin (a0, a2))
def laws_markIntSS_l0F (r : (Int × Int × (List (List Int))) → Option (Int × (List (List Int)))) (x : Int × Int × (List (List Int))) : Option (Int × (List (List Int))) := laws_markIntSS_l0K (fun a0 a1 a2 => r (a0, (a1, a2))) some x.1 x.2.1 x.2.2
theorem laws_markIntSS_l0c (x : Int × Int × (List (List Int))) : Ct fun r => laws_markIntSS_l0F r x := by
  unfold laws_markIntSS_l0F laws_markIntSS_l0K
  repeat' (first | exact Ct.const | exact Ct.call | refine Ct.cond ?_ ?_ | refine Ct.bind ?_ fun _ => ?_ | refine Ct.sum (fun _ => ?_) fun _ => ?_)
def laws_markIntSS_l0 (a0 : Int) (a1 : Int) (a2 : List (List Int)) : Option (Int × (List (List Int))) := lim (laws_markIntSS_l0F) (a0, (a1, a2))
theorem laws_markIntSS_l0_eq (a0 : Int) (a1 : Int) (a2 : List (List Int)) : laws_markIntSS_l0 a0 a1 a2 = laws_markIntSS_l0K (laws_markIntSS_l0) some a0 a1 a2 := lim_eq (laws_markIntSS_l0c) (a0, (a1, a2))
theorem laws_markIntSS_l0p {R : Type} {rc : Int → Int → List (List Int) → Option (Int × (List (List Int)))} {rc' : Int → Int → List (List Int) → Option R} {fin : Int × (List (List Int)) → Option R} (hr : ∀ a0 a1 a2, Par fin (rc a0 a1 a2) (rc' a0 a1 a2)) (a0 : Int) (a1 : Int) (a2 : List (List Int)) : Par fin (laws_markIntSS_l0K rc some a0 a1 a2) (laws_markIntSS_l0K rc' fin a0 a1 a2) := by
  unfold laws_markIntSS_l0K
  repeat' (first | exact .fin | exact .none | exact hr _ _ _ | refine .cond ?_ ?_ | refine .bind fun _ => ?_ | refine .sum (fun _ => ?_) fun _ => ?_)
def Llaws_markIntSS_l0 : Loop := mkL ⟨[0, 1, 5], [.slot 0], [0], []⟩ slaws_markIntSS_l0 xlaws_markIntSS_l0 (fun (x : (Unit × Int × Int × Unit) × ((List (List Int)) × Unit)) => ()) fun (x : (Unit × Int × Int × Unit) × ((List (List Int)) × Unit)) => laws_markIntSS_l0 x.1.2.1 x.1.2.2.1 x.2.1
def laws_markIntSSK {R : Type} (fin : Int × (List (List Int)) → Option R) (x0 : List (List Int)) (x1 : Int) : Option R :=
  (laws_markIntSS_l0 x1 0 x0).bind fun y2 =>
  fin y2
def laws_markIntSS (x0 : List (List Int)) (x1 : Int) : Option (Int × (List (List Int))) := laws_markIntSSK some x0 x1
theorem p60 {R : Type} (fin : Int × (List (List Int)) → Option R) (x0 : List (List Int)) (x1 : Int) : Par fin (laws_markIntSSK some x0 x1) (laws_markIntSSK fin x0 x1) := by
  unfold laws_markIntSSK
  repeat' (first | exact .fin | exact .none | refine .cond ?_ ?_ | refine .bind fun _ => ?_ | refine .sum (fun _ => ?_) fun _ => ?_)
def or60 : Ora := { lo := addL 2 (Llaws_markIntSS_l0) lo0, fin := [] }
theorem laws_markIntSS_l0e (k : Nat) (a0 : Int) (a1 : Int) (a2 : List (List Int)) : loopC Try.prog EL60 or60 ((loopsIn (codeOf Try.f60)).getD 0 .skip) (Llaws_markIntSS_l0).h (Llaws_markIntSS_l0).ho Try.f60.ntmps (k + 1) (slaws_markIntSS_l0.out (((), (a0, (a1, ()))), (a2, ()))) =
    laws_markIntSS_l0K (fun a0 a1 a2 => loopC Try.prog EL60 or60 ((loopsIn (codeOf Try.f60)).getD 0 .skip) (Llaws_markIntSS_l0).h (Llaws_markIntSS_l0).ho Try.f60.ntmps k (slaws_markIntSS_l0.out (((), (a0, (a1, ()))), (a2, ())))) (fun y => some (XS.out xlaws_markIntSS_l0 () y)) a0 a1 a2 := by kernel_rfl
theorem laws_markIntSS_l0o : LoopOk Try.prog EL60 or60 Try.f60.ntmps ((loopsIn (codeOf Try.f60)).getD 0 .skip) (Llaws_markIntSS_l0) :=
  loop_lim (hs := slaws_markIntSS_l0) (xs := xlaws_markIntSS_l0) (ι := fun (x : (Unit × Int × Int × Unit) × ((List (List Int)) × Unit)) => ()) (φ := fun (x : (Unit × Int × Int × Unit) × ((List (List Int)) × Unit)) => (x.1.2.1, (x.1.2.2.1, x.2.1))) (ψ := fun (i : Unit) (v : Int × Int × (List (List Int))) => (((), (v.1, (v.2.1, ()))), (v.2.2, ()))) (F := fun (i : Unit) => laws_markIntSS_l0F) (fun _ => rfl) fun i k hk v => Par.of_eq (laws_markIntSS_l0e k v.1 v.2.1 v.2.2) (laws_markIntSS_l0p (fun a0 a1 a2 => hk (a0, (a1, a2))) v.1 v.2.1 v.2.2)
def c60 : Callee := mkC [.one (.mat (.int .i64)), .one (.ro (.int .i64))] 1 [.one (.ro (.int .i64)), .one (.mat (.int .i64))] fun x => laws_markIntSS x.1 x.2
theorem e60 (x : PK.dens [.one (.mat (.int .i64)), .one (.ro (.int .i64))]) : evalFn Try.prog EL60 or60 Try.f60 (PK.outs [.one (.mat (.int .i64)), .one (.ro (.int .i64))] x) =
    laws_markIntSSK (fun y => some (tupOf ((PK.outs [.one (.ro (.int .i64)), .one (.mat (.int .i64))] y).take 1), (PK.outs [.one (.ro (.int .i64)), .one (.mat (.int .i64))] y).drop 1)) x.1 x.2 := by kernel_rfl
theorem o60 : LoOk Try.prog EL60 or60 Try.f60.ntmps (loopsIn (codeOf Try.f60)) :=
  LoOk.mk (m := 1) (by kernel_rfl) fun i hi => match i, hi with
    | 0, _ => ⟨Llaws_markIntSS_l0, by kernel_rfl, laws_markIntSS_l0o⟩
    | i + 1, hi => absurd hi (by omega)
theorem k60 : CalleeOk Try.prog 60 c60 := callee_mk Try.func60 (code := codeOf Try.f60) (by kernel_rfl) vL60 mixed o60 fun x y h => (e60 x).trans (p60 _ x.1 x.2 y h)

/-- laws.markJob -/
def EL22 : Nat → Option Callee := addE 23 c23 (addE 60 c60 env0)
theorem vL22 : EnvOk Try.prog EL22 := (EnvOk.nil.add Try.func60 rfl (by kernel_rfl) k60).add Try.func23 rfl (by kernel_rfl) k23
def laws_markJobK {R : Type} (fin : Int × Unit → Option R) (x0 : (List (List Int)) × (List Int) × (List Int) × Int × Int × Int × Int × Int) (x1 : Int) : Option R :=
  (laws_markIntSS x0.1 x1).bind fun y1 =>
  (laws_markIntS x0.2.1 y1.1).bind fun y2 =>
  (laws_markIntS x0.2.2.1 y2.1).bind fun y3 =>
  fin (y3.1, ())
def laws_markJob (x0 : (List (List Int)) × (List Int) × (List Int) × Int × Int × Int × Int × Int) (x1 : Int) : Option (Int × Unit) := laws_markJobK some x0 x1
theorem p22 {R : Type} (fin : Int × Unit → Option R) (x0 : (List (List Int)) × (List Int) × (List Int) × Int × Int × Int × Int × Int) (x1 : Int) : Par fin (laws_markJobK some x0 x1) (laws_markJobK fin x0 x1) := by
  unfold laws_markJobK
  repeat' (first | exact .fin | exact .none | refine .cond ?_ ?_ | refine .bind fun _ => ?_ | refine .sum (fun _ => ?_) fun _ => ?_)
def c22 : Callee := mkC [.agg [.mat (.int .i64), .sl (.int .i64), .sl (.int .i64), .ro (.int .i64), .ro (.int .i64), .ro (.int .i64), .ro (.int .i64), .ro (.int .i64)], .one (.ro (.int .i64))] 1 [.one (.ro (.int .i64)), .gone] fun x => laws_markJob x.1 x.2
theorem e22 (x : PK.dens [.agg [.mat (.int .i64), .sl (.int .i64), .sl (.int .i64), .ro (.int .i64), .ro (.int .i64), .ro (.int .i64), .ro (.int .i64), .ro (.int .i64)], .one (.ro (.int .i64))]) : evalFn Try.prog EL22 or0 Try.f22 (PK.outs [.agg [.mat (.int .i64), .sl (.int .i64), .sl (.int .i64), .ro (.int .i64), .ro (.int .i64), .ro (.int .i64), .ro (.int .i64), .ro (.int .i64)], .one (.ro (.int .i64))] x) =
    laws_markJobK (fun y => some (tupOf ((PK.outs [.one (.ro (.int .i64)), .gone] y).take 1), (PK.outs [.one (.ro (.int .i64)), .gone] y).drop 1)) x.1 x.2 := by kernel_rfl
theorem k22 : CalleeOk Try.prog 22 c22 := callee_mk Try.func22 (code := codeOf Try.f22) (by kernel_rfl) vL22 mixed (LoOk.nil (by kernel_rfl)) fun x y h => (e22 x).trans (p22 _ x.1 x.2 y h)

/-- laws.markPlan -/
def EL24 : Nat → Option Callee := addE 23 c23 env0
theorem vL24 : EnvOk Try.prog EL24 := EnvOk.nil.add Try.func23 rfl (by kernel_rfl) k23
def laws_markPlanK {R : Type} (fin : Int × (Int × (List Int)) → Option R) (x0 : Int × (List Int)) (x1 : Int) : Option R :=
  (laws_markIntS x0.2 x1).bind fun y1 =>
  fin (y1.1, (x0.1, y1.2))
def laws_markPlan (x0 : Int × (List Int)) (x1 : Int) : Option (Int × (Int × (List Int))) := laws_markPlanK some x0 x1
theorem p24 {R : Type} (fin : Int × (Int × (List Int)) → Option R) (x0 : Int × (List Int)) (x1 : Int) : Par fin (laws_markPlanK some x0 x1) (laws_markPlanK fin x0 x1) := by
  unfold laws_markPlanK
  repeat' (first | exact .fin | exact .none | refine .cond ?_ ?_ | refine .bind fun _ => ?_ | refine .sum (fun _ => ?_) fun _ => ?_)
def c24 : Callee := mkC [.agg [.ro (.int .i64), .sl (.int .i64)], .one (.ro (.int .i64))] 1 [.one (.ro (.int .i64)), .agg [.ro (.int .i64), .sl (.int .i64)]] fun x => laws_markPlan x.1 x.2
theorem e24 (x : PK.dens [.agg [.ro (.int .i64), .sl (.int .i64)], .one (.ro (.int .i64))]) : evalFn Try.prog EL24 or0 Try.f24 (PK.outs [.agg [.ro (.int .i64), .sl (.int .i64)], .one (.ro (.int .i64))] x) =
    laws_markPlanK (fun y => some (tupOf ((PK.outs [.one (.ro (.int .i64)), .agg [.ro (.int .i64), .sl (.int .i64)]] y).take 1), (PK.outs [.one (.ro (.int .i64)), .agg [.ro (.int .i64), .sl (.int .i64)]] y).drop 1)) x.1 x.2 := by kernel_rfl
theorem k24 : CalleeOk Try.prog 24 c24 := callee_mk Try.func24 (code := codeOf Try.f24) (by kernel_rfl) vL24 mixed (LoOk.nil (by kernel_rfl)) fun x y h => (e24 x).trans (p24 _ x.1 x.2 y h)

/-- laws.heldIntS -/
def EL30 : Nat → Option Callee := env0
theorem vL30 : EnvOk Try.prog EL30 := EnvOk.nil
def slaws_heldIntS_l0 : LS := ⟨[(0, .one (.dat (.slice (.int .i64)))), (1, .one (.dat (.int .i64))), (5, .one (.dat (.int .i64)))], [], []⟩
def slaws_heldIntS_l0x0 : LS := ⟨[(4, .one (.dat (.int .i64)))], [], []⟩
def slaws_heldIntS_l0x1 : LS := ⟨[(1, .one (.dat (.int .i64)))], [], []⟩
def xlaws_heldIntS_l0 : List (XS (List Int)) := [⟨.ret, ⟨[4], [], [], []⟩, slaws_heldIntS_l0x0, Int, fun i y => ((y, ()), ())⟩,
  ⟨.exit 0, ⟨[1], [], [], []⟩, slaws_heldIntS_l0x1, Int, fun i y => ((y, ()), ())⟩]
def laws_heldIntS_l0K {R : Type} (a0 : List Int) (rc : Int → Int → Option R) (fin : (Int ⊕ Int) → Option R) (a1 : Int) (a2 : Int) : Option R :=
  cond (decide (a2 < (a0.length : Int)))
  ((lat a0 a2).bind fun e1 =>
    cond (e1 != a1)
    (fin (.inl (-1)))
    (rc (IntKind.i64.wrap (a1 + 1)) (IntKind.i64.wrap (a2 + 1))))
  (fin (.inr a1))
def laws_heldIntS_l0F (a0 : List Int) (r : (Int × Int) → Option (Int ⊕ Int)) (x : Int × Int) : Option (Int ⊕ Int) := laws_heldIntS_l0K a0 (fun a1 a2 => r (a1, a2)) some x.1 x.2
theorem laws_heldIntS_l0c (a0 : List Int) (x : Int × Int) : Ct fun r => laws_heldIntS_l0F a0 r x := by
  unfold laws_heldIntS_l0F laws_heldIntS_l0K
  repeat' (first | exact Ct.const | exact Ct.call | refine Ct.cond ?_ ?_ | refine Ct.bind ?_ fun _ => ?_ | refine Ct.sum (fun _ => ?_) fun _ => ?_)
def laws_heldIntS_l0 (a0 : List Int) (a1 : Int) (a2 : Int) : Option (Int ⊕ Int) := lim (laws_heldIntS_l0F a0) (a1, a2)
theorem laws_heldIntS_l0_eq (a0 : List Int) (a1 : Int) (a2 : Int) : laws_heldIntS_l0 a0 a1 a2 = laws_heldIntS_l0K a0 (laws_heldIntS_l0 a0) some a1 a2 := lim_eq (laws_heldIntS_l0c a0) (a1, a2)
theorem laws_heldIntS_l0p {R : Type} (a0 : List Int) {rc : Int → Int → Option (Int ⊕ Int)} {rc' : Int → Int → Option R} {fin : (Int ⊕ Int) → Option R} (hr : ∀ a1 a2, Par fin (rc a1 a2) (rc' a1 a2)) (a1 : Int) (a2 : Int) : Par fin (laws_heldIntS_l0K a0 rc some a1 a2) (laws_heldIntS_l0K a0 rc' fin a1 a2) := by
  unfold laws_heldIntS_l0K
  repeat' (first | exact .fin | exact .none | exact hr _ _ | refine .cond ?_ ?_ | refine .bind fun _ => ?_ | refine .sum (fun _ => ?_) fun _ => ?_)
def Llaws_heldIntS_l0 : Loop := mkL ⟨[0, 1, 5], [], [], []⟩ slaws_heldIntS_l0 xlaws_heldIntS_l0 (fun (x : ((List Int) × Int × Int × Unit) × (Unit)) => x.1.1) fun (x : ((List Int) × Int × Int × Unit) × (Unit)) => laws_heldIntS_l0 x.1.1 x.1.2.1 x.1.2.2.1
def laws_heldIntSK {R : Type} (fin : Int → Option R) (x0 : List Int) (x1 : Int) : Option R :=
  (laws_heldIntS_l0 x0 x1 0).bind fun y2 =>
  sumO y2 (fun y3 =>
  fin y3)
  (fun y4 =>
  fin y4)
def laws_heldIntS (x0 : List Int) (x1 : Int) : Option (Int) := laws_heldIntSK some x0 x1
theorem p30 {R : Type} (fin : Int → Option R) (x0 : List Int) (x1 : Int) : Par fin (laws_heldIntSK some x0 x1) (laws_heldIntSK fin x0 x1) := by
  unfold laws_heldIntSK
  repeat' (first | exact .fin | exact .none | refine .cond ?_ ?_ | refine .bind fun _ => ?_ | refine .sum (fun _ => ?_) fun _ => ?_)
def or30 : Ora := { lo := addL 2 (Llaws_heldIntS_l0) lo0, fin := [] }
theorem laws_heldIntS_l0e (a0 : List Int) (k : Nat) (a1 : Int) (a2 : Int) : loopC Try.prog EL30 or30 ((loopsIn (codeOf Try.f30)).getD 0 .skip) (Llaws_heldIntS_l0).h (Llaws_heldIntS_l0).ho Try.f30.ntmps (k + 1) (slaws_heldIntS_l0.out ((a0, (a1, (a2, ()))), ())) =
    laws_heldIntS_l0K a0 (fun a1 a2 => loopC Try.prog EL30 or30 ((loopsIn (codeOf Try.f30)).getD 0 .skip) (Llaws_heldIntS_l0).h (Llaws_heldIntS_l0).ho Try.f30.ntmps k (slaws_heldIntS_l0.out ((a0, (a1, (a2, ()))), ()))) (fun y => some (XS.out xlaws_heldIntS_l0 a0 y)) a1 a2 := by kernel_rfl
theorem laws_heldIntS_l0o : LoopOk Try.prog EL30 or30 Try.f30.ntmps ((loopsIn (codeOf Try.f30)).getD 0 .skip) (Llaws_heldIntS_l0) :=
  loop_lim (hs := slaws_heldIntS_l0) (xs := xlaws_heldIntS_l0) (ι := fun (x : ((List Int) × Int × Int × Unit) × (Unit)) => x.1.1) (φ := fun (x : ((List Int) × Int × Int × Unit) × (Unit)) => (x.1.2.1, x.1.2.2.1)) (ψ := fun (i : List Int) (v : Int × Int) => ((i, (v.1, (v.2, ()))), ())) (F := fun (i : List Int) => laws_heldIntS_l0F i) (fun _ => rfl) fun i k hk v => Par.of_eq (laws_heldIntS_l0e i k v.1 v.2) (laws_heldIntS_l0p i (fun a1 a2 => hk (a1, a2)) v.1 v.2)
def c30 : Callee := mkC [.one (.ro (.slice (.int .i64))), .one (.ro (.int .i64))] 1 [.one (.ro (.int .i64))] fun x => laws_heldIntS x.1 x.2
theorem e30 (x : PK.dens [.one (.ro (.slice (.int .i64))), .one (.ro (.int .i64))]) : evalFn Try.prog EL30 or30 Try.f30 (PK.outs [.one (.ro (.slice (.int .i64))), .one (.ro (.int .i64))] x) =
    laws_heldIntSK (fun y => some (tupOf ((PK.outs [.one (.ro (.int .i64))] y).take 1), (PK.outs [.one (.ro (.int .i64))] y).drop 1)) x.1 x.2 := by kernel_rfl
theorem o30 : LoOk Try.prog EL30 or30 Try.f30.ntmps (loopsIn (codeOf Try.f30)) :=
  LoOk.mk (m := 1) (by kernel_rfl) fun i hi => match i, hi with
    | 0, _ => ⟨Llaws_heldIntS_l0, by kernel_rfl, laws_heldIntS_l0o⟩
    | i + 1, hi => absurd hi (by omega)
theorem k30 : CalleeOk Try.prog 30 c30 := callee_mk Try.func30 (code := codeOf Try.f30) (by kernel_rfl) vL30 mixed o30 fun x y h => (e30 x).trans (p30 _ x.1 x.2 y h)

/-- laws.heldPlan -/
def EL25 : Nat → Option Callee := addE 30 c30 env0
theorem vL25 : EnvOk Try.prog EL25 := EnvOk.nil.add Try.func30 rfl (by kernel_rfl) k30
def laws_heldPlanK {R : Type} (fin : Int → Option R) (x0 : DPlan) (x1 : Int) : Option R :=
  (laws_heldIntS x0.2.1 x1).bind fun y1 =>
  cond (decide (y1 < 0))
  (fin (-1))
  (fin y1)
def laws_heldPlan (x0 : DPlan) (x1 : Int) : Option (Int) := laws_heldPlanK some x0 x1
theorem p25 {R : Type} (fin : Int → Option R) (x0 : DPlan) (x1 : Int) : Par fin (laws_heldPlanK some x0 x1) (laws_heldPlanK fin x0 x1) := by
  unfold laws_heldPlanK
  repeat' (first | exact .fin | exact .none | refine .cond ?_ ?_ | refine .bind fun _ => ?_ | refine .sum (fun _ => ?_) fun _ => ?_)
def c25 : Callee := mkC [.agg [.ro TPlan], .one (.ro (.int .i64))] 1 [.one (.ro (.int .i64))] fun x => laws_heldPlan x.1 x.2
theorem e25 (x : PK.dens [.agg [.ro TPlan], .one (.ro (.int .i64))]) : evalFn Try.prog EL25 or0 Try.f25 (PK.outs [.agg [.ro TPlan], .one (.ro (.int .i64))] x) =
    laws_heldPlanK (fun y => some (tupOf ((PK.outs [.one (.ro (.int .i64))] y).take 1), (PK.outs [.one (.ro (.int .i64))] y).drop 1)) x.1 x.2 := by kernel_rfl
theorem k25 : CalleeOk Try.prog 25 c25 := callee_mk Try.func25 (code := codeOf Try.f25) (by kernel_rfl) vL25 mixed (LoOk.nil (by kernel_rfl)) fun x y h => (e25 x).trans (p25 _ x.1 x.2 y h)

/-- impl.areBlocks -/
def EL117 : Nat → Option Callee := env0
theorem vL117 : EnvOk Try.prog EL117 := EnvOk.nil
def simpl_areBlocks_l0 : LS := ⟨[(0, .one (.dat (.slice (.int .i64)))), (1, .one (.dat (.int .i64))), (7, .one (.dat (.slice (.int .i64)))), (8, .one (.dat (.int .i64))), (9, .one (.dat (.int .i64)))], [], []⟩
def simpl_areBlocks_l0x0 : LS := ⟨[(4, .one (.dat .bool))], [], []⟩
def simpl_areBlocks_l0x1 : LS := ⟨[], [], []⟩
def ximpl_areBlocks_l0 : List (XS ((List Int) × Int × (List Int) × Int)) := [⟨.ret, ⟨[4], [], [], []⟩, simpl_areBlocks_l0x0, Bool, fun i y => ((y, ()), ())⟩,
  ⟨.exit 0, ⟨[], [], [], []⟩, simpl_areBlocks_l0x1, Unit, fun i y => ((), ())⟩]
def impl_areBlocks_l0K {R : Type} (a0 : List Int) (a1 : Int) (a2 : List Int) (a3 : Int) (rc : Int → Option R) (fin : (Bool ⊕ Unit) → Option R) (a4 : Int) : Option R :=
  cond (decide (a4 < a3))
  ((lat a2 a4).bind fun e1 =>
    cond (decide (e1 < 0))
    (fin (.inl false))
    (cond (decide (e1 ≥ a1))
      (fin (.inl false))
      (cond (decide (a4 > 0))
        ((lat a0 (IntKind.i64.wrap (a4 - 1))).bind fun e2 =>
          cond (decide (e1 ≤ e2))
          (fin (.inl false))
          (rc (IntKind.i64.wrap (a4 + 1))))
        (rc (IntKind.i64.wrap (a4 + 1))))))
  (fin (.inr ()))
def impl_areBlocks_l0F (a0 : List Int) (a1 : Int) (a2 : List Int) (a3 : Int) (r : Int → Option (Bool ⊕ Unit)) (x : Int) : Option (Bool ⊕ Unit) := impl_areBlocks_l0K a0 a1 a2 a3 (fun a4 => r a4) some x
theorem impl_areBlocks_l0c (a0 : List Int) (a1 : Int) (a2 : List Int) (a3 : Int) (x : Int) : Ct fun r => impl_areBlocks_l0F a0 a1 a2 a3 r x := by
  unfold impl_areBlocks_l0F impl_areBlocks_l0K
  repeat' (first | exact Ct.const | exact Ct.call | refine Ct.cond ?_ ?_ | refine Ct.bind ?_ fun _ => ?_ | refine Ct.sum (fun _ => ?_) fun _ => ?_)
def impl_areBlocks_l0 (a0 : List Int) (a1 : Int) (a2 : List Int) (a3 : Int) (a4 : Int) : Option (Bool ⊕ Unit) := lim (impl_areBlocks_l0F a0 a1 a2 a3) a4
theorem impl_areBlocks_l0_eq (a0 : List Int) (a1 : Int) (a2 : List Int) (a3 : Int) (a4 : Int) : impl_areBlocks_l0 a0 a1 a2 a3 a4 = impl_areBlocks_l0K a0 a1 a2 a3 (impl_areBlocks_l0 a0 a1 a2 a3) some a4 := lim_eq (impl_areBlocks_l0c a0 a1 a2 a3) a4
theorem impl_areBlocks_l0p {R : Type} (a0 : List Int) (a1 : Int) (a2 : List Int) (a3 : Int) {rc : Int → Option (Bool ⊕ Unit)} {rc' : Int → Option R} {fin : (Bool ⊕ Unit) → Option R} (hr : ∀ a4, Par fin (rc a4) (rc' a4)) (a4 : Int) : Par fin (impl_areBlocks_l0K a0 a1 a2 a3 rc some a4) (impl_areBlocks_l0K a0 a1 a2 a3 rc' fin a4) := by
  unfold impl_areBlocks_l0K
  repeat' (first | exact .fin | exact .none | exact hr _ | refine .cond ?_ ?_ | refine .bind fun _ => ?_ | refine .sum (fun _ => ?_) fun _ => ?_)
def Limpl_areBlocks_l0 : Loop := mkL ⟨[0, 1, 7, 8, 9], [], [], []⟩ simpl_areBlocks_l0 ximpl_areBlocks_l0 (fun (x : ((List Int) × Int × (List Int) × Int × Int × Unit) × (Unit)) => (x.1.1, (x.1.2.1, (x.1.2.2.1, x.1.2.2.2.1)))) fun (x : ((List Int) × Int × (List Int) × Int × Int × Unit) × (Unit)) => impl_areBlocks_l0 x.1.1 x.1.2.1 x.1.2.2.1 x.1.2.2.2.1 x.1.2.2.2.2.1
def impl_areBlocksK {R : Type} (fin : Bool → Option R) (x0 : List Int) (x1 : Int) : Option R :=
  (impl_areBlocks_l0 x0 x1 x0 (x0.length : Int) 0).bind fun y3 =>
  sumO y3 (fun y4 =>
  fin y4)
  (fun y5 =>
  fin true)
def impl_areBlocks (x0 : List Int) (x1 : Int) : Option (Bool) := impl_areBlocksK some x0 x1
theorem p117 {R : Type} (fin : Bool → Option R) (x0 : List Int) (x1 : Int) : Par fin (impl_areBlocksK some x0 x1) (impl_areBlocksK fin x0 x1) := by
  unfold impl_areBlocksK
  repeat' (first | exact .fin | exact .none | refine .cond ?_ ?_ | refine .bind fun _ => ?_ | refine .sum (fun _ => ?_) fun _ => ?_)
def or117 : Ora := { lo := addL 2 (Limpl_areBlocks_l0) lo0, fin := [] }
theorem impl_areBlocks_l0e (a0 : List Int) (a1 : Int) (a2 : List Int) (a3 : Int) (k : Nat) (a4 : Int) : loopC Try.prog EL117 or117 ((loopsIn (codeOf Try.f117)).getD 0 .skip) (Limpl_areBlocks_l0).h (Limpl_areBlocks_l0).ho Try.f117.ntmps (k + 1) (simpl_areBlocks_l0.out ((a0, (a1, (a2, (a3, (a4, ()))))), ())) =
    impl_areBlocks_l0K a0 a1 a2 a3 (fun a4 => loopC Try.prog EL117 or117 ((loopsIn (codeOf Try.f117)).getD 0 .skip) (Limpl_areBlocks_l0).h (Limpl_areBlocks_l0).ho Try.f117.ntmps k (simpl_areBlocks_l0.out ((a0, (a1, (a2, (a3, (a4, ()))))), ()))) (fun y => some (XS.out ximpl_areBlocks_l0 (a0, (a1, (a2, a3))) y)) a4 := by kernel_rfl
theorem impl_areBlocks_l0o : LoopOk Try.prog EL117 or117 Try.f117.ntmps ((loopsIn (codeOf Try.f117)).getD 0 .skip) (Limpl_areBlocks_l0) :=
  loop_lim (hs := simpl_areBlocks_l0) (xs := ximpl_areBlocks_l0) (ι := fun (x : ((List Int) × Int × (List Int) × Int × Int × Unit) × (Unit)) => (x.1.1, (x.1.2.1, (x.1.2.2.1, x.1.2.2.2.1)))) (φ := fun (x : ((List Int) × Int × (List Int) × Int × Int × Unit) × (Unit)) => x.1.2.2.2.2.1) (ψ := fun (i : (List Int) × Int × (List Int) × Int) (v : Int) => ((i.1, (i.2.1, (i.2.2.1, (i.2.2.2, (v, ()))))), ())) (F := fun (i : (List Int) × Int × (List Int) × Int) => impl_areBlocks_l0F i.1 i.2.1 i.2.2.1 i.2.2.2) (fun _ => rfl) fun i k hk v => Par.of_eq (impl_areBlocks_l0e i.1 i.2.1 i.2.2.1 i.2.2.2 k v) (impl_areBlocks_l0p i.1 i.2.1 i.2.2.1 i.2.2.2 (fun a4 => hk a4) v)
def c117 : Callee := mkC [.one (.ro (.slice (.int .i64))), .one (.ro (.int .i64))] 1 [.one (.ro .bool)] fun x => impl_areBlocks x.1 x.2
theorem e117 (x : PK.dens [.one (.ro (.slice (.int .i64))), .one (.ro (.int .i64))]) : evalFn Try.prog EL117 or117 Try.f117 (PK.outs [.one (.ro (.slice (.int .i64))), .one (.ro (.int .i64))] x) =
    impl_areBlocksK (fun y => some (tupOf ((PK.outs [.one (.ro .bool)] y).take 1), (PK.outs [.one (.ro .bool)] y).drop 1)) x.1 x.2 := by kernel_rfl
theorem o117 : LoOk Try.prog EL117 or117 Try.f117.ntmps (loopsIn (codeOf Try.f117)) :=
  LoOk.mk (m := 1) (by kernel_rfl) fun i hi => match i, hi with
    | 0, _ => ⟨Limpl_areBlocks_l0, by kernel_rfl, impl_areBlocks_l0o⟩
    | i + 1, hi => absurd hi (by omega)
theorem k117 : CalleeOk Try.prog 117 c117 := callee_mk Try.func117 (code := codeOf Try.f117) (by kernel_rfl) vL117 mixed o117 fun x y h => (e117 x).trans (p117 _ x.1 x.2 y h)

/-- impl.AreArcs -/
def EL113 : Nat → Option Callee := addE 117 c117 env0
theorem vL113 : EnvOk Try.prog EL113 := EnvOk.nil.add Try.func117 rfl (by kernel_rfl) k117
def simpl_AreArcs_l0 : LS := ⟨[(13, .one (.dat (.slice (.slice (.int .i64))))), (14, .one (.dat (.int .i64))), (15, .one (.dat (.int .i64)))], [], []⟩
def simpl_AreArcs_l0x0 : LS := ⟨[(2, .one (.dat .bool))], [], []⟩
def simpl_AreArcs_l0x1 : LS := ⟨[], [], []⟩
def ximpl_AreArcs_l0 : List (XS ((List (List Int)) × Int)) := [⟨.ret, ⟨[2], [], [], []⟩, simpl_AreArcs_l0x0, Bool, fun i y => ((y, ()), ())⟩,
  ⟨.exit 0, ⟨[], [], [], []⟩, simpl_AreArcs_l0x1, Unit, fun i y => ((), ())⟩]
def impl_AreArcs_l0K {R : Type} (a0 : List (List Int)) (a1 : Int) (rc : Int → Option R) (fin : (Bool ⊕ Unit) → Option R) (a2 : Int) : Option R :=
  cond (decide (a2 < a1))
  ((lat a0 a2).bind fun e1 =>
    (impl_areBlocks e1 a2).bind fun y2 =>
    cond (!y2)
    (fin (.inl false))
    (rc (IntKind.i64.wrap (a2 + 1))))
  (fin (.inr ()))
def impl_AreArcs_l0F (a0 : List (List Int)) (a1 : Int) (r : Int → Option (Bool ⊕ Unit)) (x : Int) : Option (Bool ⊕ Unit) := impl_AreArcs_l0K a0 a1 (fun a2 => r a2) some x
theorem impl_AreArcs_l0c (a0 : List (List Int)) (a1 : Int) (x : Int) : Ct fun r => impl_AreArcs_l0F a0 a1 r x := by
  unfold impl_AreArcs_l0F impl_AreArcs_l0K
  repeat' (first | exact Ct.const | exact Ct.call | refine Ct.cond ?_ ?_ | refine Ct.bind ?_ fun _ => ?_ | refine Ct.sum (fun _ => ?_) fun _ => ?_)
def impl_AreArcs_l0 (a0 : List (List Int)) (a1 : Int) (a2 : Int) : Option (Bool ⊕ Unit) := lim (impl_AreArcs_l0F a0 a1) a2
theorem impl_AreArcs_l0_eq (a0 : List (List Int)) (a1 : Int) (a2 : Int) : impl_AreArcs_l0 a0 a1 a2 = impl_AreArcs_l0K a0 a1 (impl_AreArcs_l0 a0 a1) some a2 := lim_eq (impl_AreArcs_l0c a0 a1) a2
theorem impl_AreArcs_l0p {R : Type} (a0 : List (List Int)) (a1 : Int) {rc : Int → Option (Bool ⊕ Unit)} {rc' : Int → Option R} {fin : (Bool ⊕ Unit) → Option R} (hr : ∀ a2, Par fin (rc a2) (rc' a2)) (a2 : Int) : Par fin (impl_AreArcs_l0K a0 a1 rc some a2) (impl_AreArcs_l0K a0 a1 rc' fin a2) := by
  unfold impl_AreArcs_l0K
  repeat' (first | exact .fin | exact .none | exact hr _ | refine .cond ?_ ?_ | refine .bind fun _ => ?_ | refine .sum (fun _ => ?_) fun _ => ?_)
def Limpl_AreArcs_l0 : Loop := mkL ⟨[13, 14, 15], [], [], []⟩ simpl_AreArcs_l0 ximpl_AreArcs_l0 (fun (x : ((List (List Int)) × Int × Int × Unit) × (Unit)) => (x.1.1, x.1.2.1)) fun (x : ((List (List Int)) × Int × Int × Unit) × (Unit)) => impl_AreArcs_l0 x.1.1 x.1.2.1 x.1.2.2.1
def impl_AreArcsK {R : Type} (fin : Bool → Option R) (x0 : List (List Int)) : Option R :=
  cond (decide ((x0.length : Int) < 1))
  (fin false)
  (cond (decide ((x0.length : Int) > 120))
    (fin false)
    ((impl_AreArcs_l0 x0 (x0.length : Int) 0).bind fun y3 =>
      sumO y3 (fun y4 =>
      fin y4)
      (fun y5 =>
      fin true)))
def impl_AreArcs (x0 : List (List Int)) : Option (Bool) := impl_AreArcsK some x0
theorem p113 {R : Type} (fin : Bool → Option R) (x0 : List (List Int)) : Par fin (impl_AreArcsK some x0) (impl_AreArcsK fin x0) := by
  unfold impl_AreArcsK
  repeat' (first | exact .fin | exact .none | refine .cond ?_ ?_ | refine .bind fun _ => ?_ | refine .sum (fun _ => ?_) fun _ => ?_)
def or113 : Ora := { lo := addL 4 (Limpl_AreArcs_l0) lo0, fin := [] }
theorem impl_AreArcs_l0e (a0 : List (List Int)) (a1 : Int) (k : Nat) (a2 : Int) : loopC Try.prog EL113 or113 ((loopsIn (codeOf Try.f113)).getD 0 .skip) (Limpl_AreArcs_l0).h (Limpl_AreArcs_l0).ho Try.f113.ntmps (k + 1) (simpl_AreArcs_l0.out ((a0, (a1, (a2, ()))), ())) =
    impl_AreArcs_l0K a0 a1 (fun a2 => loopC Try.prog EL113 or113 ((loopsIn (codeOf Try.f113)).getD 0 .skip) (Limpl_AreArcs_l0).h (Limpl_AreArcs_l0).ho Try.f113.ntmps k (simpl_AreArcs_l0.out ((a0, (a1, (a2, ()))), ()))) (fun y => some (XS.out ximpl_AreArcs_l0 (a0, a1) y)) a2 := by kernel_rfl
theorem impl_AreArcs_l0o : LoopOk Try.prog EL113 or113 Try.f113.ntmps ((loopsIn (codeOf Try.f113)).getD 0 .skip) (Limpl_AreArcs_l0) :=
  loop_lim (hs := simpl_AreArcs_l0) (xs := ximpl_AreArcs_l0) (ι := fun (x : ((List (List Int)) × Int × Int × Unit) × (Unit)) => (x.1.1, x.1.2.1)) (φ := fun (x : ((List (List Int)) × Int × Int × Unit) × (Unit)) => x.1.2.2.1) (ψ := fun (i : (List (List Int)) × Int) (v : Int) => ((i.1, (i.2, (v, ()))), ())) (F := fun (i : (List (List Int)) × Int) => impl_AreArcs_l0F i.1 i.2) (fun _ => rfl) fun i k hk v => Par.of_eq (impl_AreArcs_l0e i.1 i.2 k v) (impl_AreArcs_l0p i.1 i.2 (fun a2 => hk a2) v)
def c113 : Callee := mkC [.one (.ro (.slice (.slice (.int .i64))))] 1 [.one (.ro .bool)] fun x => impl_AreArcs x
theorem e113 (x : PK.dens [.one (.ro (.slice (.slice (.int .i64))))]) : evalFn Try.prog EL113 or113 Try.f113 (PK.outs [.one (.ro (.slice (.slice (.int .i64))))] x) =
    impl_AreArcsK (fun y => some (tupOf ((PK.outs [.one (.ro .bool)] y).take 1), (PK.outs [.one (.ro .bool)] y).drop 1)) x := by kernel_rfl
theorem o113 : LoOk Try.prog EL113 or113 Try.f113.ntmps (loopsIn (codeOf Try.f113)) :=
  LoOk.mk (m := 1) (by kernel_rfl) fun i hi => match i, hi with
    | 0, _ => ⟨Limpl_AreArcs_l0, by kernel_rfl, impl_AreArcs_l0o⟩
    | i + 1, hi => absurd hi (by omega)
theorem k113 : CalleeOk Try.prog 113 c113 := callee_mk Try.func113 (code := codeOf Try.f113) (by kernel_rfl) vL113 mixed o113 fun x y h => (e113 x).trans (p113 _ x y h)

/-- impl.goodValues -/
def EL114 : Nat → Option Callee := env0
theorem vL114 : EnvOk Try.prog EL114 := EnvOk.nil
def simpl_goodValues_l0 : LS := ⟨[(13, .one (.dat (.slice (.int .i64)))), (14, .one (.dat (.int .i64))), (15, .one (.dat (.int .i64)))], [], []⟩
def simpl_goodValues_l0x0 : LS := ⟨[(2, .one (.dat .bool))], [], []⟩
def simpl_goodValues_l0x1 : LS := ⟨[], [], []⟩
def ximpl_goodValues_l0 : List (XS ((List Int) × Int)) := [⟨.ret, ⟨[2], [], [], []⟩, simpl_goodValues_l0x0, Bool, fun i y => ((y, ()), ())⟩,
  ⟨.exit 0, ⟨[], [], [], []⟩, simpl_goodValues_l0x1, Unit, fun i y => ((), ())⟩]
def impl_goodValues_l0K {R : Type} (a0 : List Int) (a1 : Int) (rc : Int → Option R) (fin : (Bool ⊕ Unit) → Option R) (a2 : Int) : Option R :=
  cond (decide (a2 < a1))
  ((lat a0 a2).bind fun e1 =>
    cond (decide (e1 < (-1000000)))
    (fin (.inl false))
    (cond (decide (e1 > 1000000))
      (fin (.inl false))
      (rc (IntKind.i64.wrap (a2 + 1)))))
  (fin (.inr ()))
def impl_goodValues_l0F (a0 : List Int) (a1 : Int) (r : Int → Option (Bool ⊕ Unit)) (x : Int) : Option (Bool ⊕ Unit) := impl_goodValues_l0K a0 a1 (fun a2 => r a2) some x
theorem impl_goodValues_l0c (a0 : List Int) (a1 : Int) (x : Int) : Ct fun r => impl_goodValues_l0F a0 a1 r x := by
  unfold impl_goodValues_l0F impl_goodValues_l0K
  repeat' (first | exact Ct.const | exact Ct.call | refine Ct.cond ?_ ?_ | refine Ct.bind ?_ fun _ => ?_ | refine Ct.sum (fun _ => ?_) fun _ => ?_)
def impl_goodValues_l0 (a0 : List Int) (a1 : Int) (a2 : Int) : Option (Bool ⊕ Unit) := lim (impl_goodValues_l0F a0 a1) a2
theorem impl_goodValues_l0_eq (a0 : List Int) (a1 : Int) (a2 : Int) : impl_goodValues_l0 a0 a1 a2 = impl_goodValues_l0K a0 a1 (impl_goodValues_l0 a0 a1) some a2 := lim_eq (impl_goodValues_l0c a0 a1) a2
theorem impl_goodValues_l0p {R : Type} (a0 : List Int) (a1 : Int) {rc : Int → Option (Bool ⊕ Unit)} {rc' : Int → Option R} {fin : (Bool ⊕ Unit) → Option R} (hr : ∀ a2, Par fin (rc a2) (rc' a2)) (a2 : Int) : Par fin (impl_goodValues_l0K a0 a1 rc some a2) (impl_goodValues_l0K a0 a1 rc' fin a2) := by
  unfold impl_goodValues_l0K
  repeat' (first | exact .fin | exact .none | exact hr _ | refine .cond ?_ ?_ | refine .bind fun _ => ?_ | refine .sum (fun _ => ?_) fun _ => ?_)
def Limpl_goodValues_l0 : Loop := mkL ⟨[13, 14, 15], [], [], []⟩ simpl_goodValues_l0 ximpl_goodValues_l0 (fun (x : ((List Int) × Int × Int × Unit) × (Unit)) => (x.1.1, x.1.2.1)) fun (x : ((List Int) × Int × Int × Unit) × (Unit)) => impl_goodValues_l0 x.1.1 x.1.2.1 x.1.2.2.1
def impl_goodValuesK {R : Type} (fin : Bool → Option R) (x0 : List Int) : Option R :=
  cond (decide ((x0.length : Int) < 1))
  (fin false)
  (cond (decide ((x0.length : Int) > 120))
    (fin false)
    ((impl_goodValues_l0 x0 (x0.length : Int) 0).bind fun y2 =>
      sumO y2 (fun y3 =>
      fin y3)
      (fun y4 =>
      fin true)))
def impl_goodValues (x0 : List Int) : Option (Bool) := impl_goodValuesK some x0
theorem p114 {R : Type} (fin : Bool → Option R) (x0 : List Int) : Par fin (impl_goodValuesK some x0) (impl_goodValuesK fin x0) := by
  unfold impl_goodValuesK
  repeat' (first | exact .fin | exact .none | refine .cond ?_ ?_ | refine .bind fun _ => ?_ | refine .sum (fun _ => ?_) fun _ => ?_)
def or114 : Ora := { lo := addL 4 (Limpl_goodValues_l0) lo0, fin := [] }
theorem impl_goodValues_l0e (a0 : List Int) (a1 : Int) (k : Nat) (a2 : Int) : loopC Try.prog EL114 or114 ((loopsIn (codeOf Try.f114)).getD 0 .skip) (Limpl_goodValues_l0).h (Limpl_goodValues_l0).ho Try.f114.ntmps (k + 1) (simpl_goodValues_l0.out ((a0, (a1, (a2, ()))), ())) =
    impl_goodValues_l0K a0 a1 (fun a2 => loopC Try.prog EL114 or114 ((loopsIn (codeOf Try.f114)).getD 0 .skip) (Limpl_goodValues_l0).h (Limpl_goodValues_l0).ho Try.f114.ntmps k (simpl_goodValues_l0.out ((a0, (a1, (a2, ()))), ()))) (fun y => some (XS.out ximpl_goodValues_l0 (a0, a1) y)) a2 := by kernel_rfl
theorem impl_goodValues_l0o : LoopOk Try.prog EL114 or114 Try.f114.ntmps ((loopsIn (codeOf Try.f114)).getD 0 .skip) (Limpl_goodValues_l0) :=
  loop_lim (hs := simpl_goodValues_l0) (xs := ximpl_goodValues_l0) (ι := fun (x : ((List Int) × Int × Int × Unit) × (Unit)) => (x.1.1, x.1.2.1)) (φ := fun (x : ((List Int) × Int × Int × Unit) × (Unit)) => x.1.2.2.1) (ψ := fun (i : (List Int) × Int) (v : Int) => ((i.1, (i.2, (v, ()))), ())) (F := fun (i : (List Int) × Int) => impl_goodValues_l0F i.1 i.2) (fun _ => rfl) fun i k hk v => Par.of_eq (impl_goodValues_l0e i.1 i.2 k v) (impl_goodValues_l0p i.1 i.2 (fun a2 => hk a2) v)
def c114 : Callee := mkC [.one (.ro (.slice (.int .i64)))] 1 [.one (.ro .bool)] fun x => impl_goodValues x
theorem e114 (x : PK.dens [.one (.ro (.slice (.int .i64)))]) : evalFn Try.prog EL114 or114 Try.f114 (PK.outs [.one (.ro (.slice (.int .i64)))] x) =
    impl_goodValuesK (fun y => some (tupOf ((PK.outs [.one (.ro .bool)] y).take 1), (PK.outs [.one (.ro .bool)] y).drop 1)) x := by kernel_rfl
theorem o114 : LoOk Try.prog EL114 or114 Try.f114.ntmps (loopsIn (codeOf Try.f114)) :=
  LoOk.mk (m := 1) (by kernel_rfl) fun i hi => match i, hi with
    | 0, _ => ⟨Limpl_goodValues_l0, by kernel_rfl, impl_goodValues_l0o⟩
    | i + 1, hi => absurd hi (by omega)
theorem k114 : CalleeOk Try.prog 114 c114 := callee_mk Try.func114 (code := codeOf Try.f114) (by kernel_rfl) vL114 mixed o114 fun x y h => (e114 x).trans (p114 _ x y h)

/-- impl.areValued -/
def EL87 : Nat → Option Callee := addE 114 c114 (addE 113 c113 env0)
theorem vL87 : EnvOk Try.prog EL87 := (EnvOk.nil.add Try.func113 rfl (by kernel_rfl) k113).add Try.func114 rfl (by kernel_rfl) k114
def impl_areValuedK {R : Type} (fin : Bool → Option R) (x0 : List (List Int)) (x1 : List Int) : Option R :=
  (impl_AreArcs x0).bind fun y1 =>
  cond (y1)
  ((impl_goodValues x1).bind fun y2 =>
    cond (y2)
    (fin ((x1.length : Int) == (x0.length : Int)))
    (fin false))
  (fin false)
def impl_areValued (x0 : List (List Int)) (x1 : List Int) : Option (Bool) := impl_areValuedK some x0 x1
theorem p87 {R : Type} (fin : Bool → Option R) (x0 : List (List Int)) (x1 : List Int) : Par fin (impl_areValuedK some x0 x1) (impl_areValuedK fin x0 x1) := by
  unfold impl_areValuedK
  repeat' (first | exact .fin | exact .none | refine .cond ?_ ?_ | refine .bind fun _ => ?_ | refine .sum (fun _ => ?_) fun _ => ?_)
def c87 : Callee := mkC [.one (.ro (.slice (.slice (.int .i64)))), .one (.ro (.slice (.int .i64)))] 1 [.one (.ro .bool)] fun x => impl_areValued x.1 x.2
theorem e87 (x : PK.dens [.one (.ro (.slice (.slice (.int .i64)))), .one (.ro (.slice (.int .i64)))]) : evalFn Try.prog EL87 or0 Try.f87 (PK.outs [.one (.ro (.slice (.slice (.int .i64)))), .one (.ro (.slice (.int .i64)))] x) =
    impl_areValuedK (fun y => some (tupOf ((PK.outs [.one (.ro .bool)] y).take 1), (PK.outs [.one (.ro .bool)] y).drop 1)) x.1 x.2 := by kernel_rfl
theorem k87 : CalleeOk Try.prog 87 c87 := callee_mk Try.func87 (code := codeOf Try.f87) (by kernel_rfl) vL87 mixed (LoOk.nil (by kernel_rfl)) fun x y h => (e87 x).trans (p87 _ x.1 x.2 y h)

/-- impl.IsJob -/
def EL52 : Nat → Option Callee := addE 87 c87 env0
theorem vL52 : EnvOk Try.prog EL52 := EnvOk.nil.add Try.func87 rfl (by kernel_rfl) k87
def simpl_IsJob_l0 : LS := ⟨[(1, .one (.fix (.ptr 0 0))), (21, .one (.dat (.slice (.int .i64)))), (22, .one (.dat (.int .i64))), (23, .one (.dat (.int .i64)))], [.box [.dat (.slice (.slice (.int .i64))), .dat (.slice (.int .i64)), .dat (.slice (.int .i64)), .dat (.int .i64), .dat (.int .i64), .dat (.int .i64), .dat (.int .i64), .dat (.int .i64)]], []⟩
def simpl_IsJob_l0x0 : LS := ⟨[(2, .one (.dat .bool))], [], []⟩
def simpl_IsJob_l0x1 : LS := ⟨[(1, .one (.fix (.ptr 0 0)))], [.box [.dat (.slice (.slice (.int .i64))), .dat (.slice (.int .i64)), .dat (.slice (.int .i64)), .dat (.int .i64), .dat (.int .i64), .dat (.int .i64), .dat (.int .i64), .dat (.int .i64)]], []⟩
def ximpl_IsJob_l0 : List (XS ((List Int) × Int × (List (List Int)) × (List Int) × (List Int) × Int × Int × Int × Int × Int)) := [⟨.ret, ⟨[2], [], [], []⟩, simpl_IsJob_l0x0, Bool, fun i y => ((y, ()), ())⟩,
  ⟨.exit 0, ⟨[1], [.slot 1], [], []⟩, simpl_IsJob_l0x1, Unit, fun i y => (((), ()), ((i.2.2.1, (i.2.2.2.1, (i.2.2.2.2.1, (i.2.2.2.2.2.1, (i.2.2.2.2.2.2.1, (i.2.2.2.2.2.2.2.1, (i.2.2.2.2.2.2.2.2.1, (i.2.2.2.2.2.2.2.2.2, ())))))))), ()))⟩]
def impl_IsJob_l0K {R : Type} (a0 : List Int) (a1 : Int) (rc : Int → Option R) (fin : (Bool ⊕ Unit) → Option R) (a2 : Int) : Option R :=
  cond (decide (a2 < a1))
  ((lat a0 a2).bind fun e1 =>
    cond (decide (e1 < 0))
    (fin (.inl false))
    (cond (decide (e1 > 10000))
      (fin (.inl false))
      (rc (IntKind.i64.wrap (a2 + 1)))))
  (fin (.inr ()))
def impl_IsJob_l0F (a0 : List Int) (a1 : Int) (r : Int → Option (Bool ⊕ Unit)) (x : Int) : Option (Bool ⊕ Unit) := impl_IsJob_l0K a0 a1 (fun a2 => r a2) some x
theorem impl_IsJob_l0c (a0 : List Int) (a1 : Int) (x : Int) : Ct fun r => impl_IsJob_l0F a0 a1 r x := by
  unfold impl_IsJob_l0F impl_IsJob_l0K
  repeat' (first | exact Ct.const | exact Ct.call | refine Ct.cond ?_ ?_ | refine Ct.bind ?_ fun _ => ?_ | refine Ct.sum (fun _ => ?_) fun _ => ?_)
def impl_IsJob_l0 (a0 : List Int) (a1 : Int) (a2 : Int) : Option (Bool ⊕ Unit) := lim (impl_IsJob_l0F a0 a1) a2
theorem impl_IsJob_l0_eq (a0 : List Int) (a1 : Int) (a2 : Int) : impl_IsJob_l0 a0 a1 a2 = impl_IsJob_l0K a0 a1 (impl_IsJob_l0 a0 a1) some a2 := lim_eq (impl_IsJob_l0c a0 a1) a2
theorem impl_IsJob_l0p {R : Type} (a0 : List Int) (a1 : Int) {rc : Int → Option (Bool ⊕ Unit)} {rc' : Int → Option R} {fin : (Bool ⊕ Unit) → Option R} (hr : ∀ a2, Par fin (rc a2) (rc' a2)) (a2 : Int) : Par fin (impl_IsJob_l0K a0 a1 rc some a2) (impl_IsJob_l0K a0 a1 rc' fin a2) := by
  unfold impl_IsJob_l0K
  repeat' (first | exact .fin | exact .none | exact hr _ | refine .cond ?_ ?_ | refine .bind fun _ => ?_ | refine .sum (fun _ => ?_) fun _ => ?_)
def Limpl_IsJob_l0 : Loop := mkL ⟨[1, 21, 22, 23], [.slot 1], [], []⟩ simpl_IsJob_l0 ximpl_IsJob_l0 (fun (x : (Unit × (List Int) × Int × Int × Unit) × (((List (List Int)) × (List Int) × (List Int) × Int × Int × Int × Int × Int × Unit) × Unit)) => (x.1.2.1, (x.1.2.2.1, (x.2.1.1, (x.2.1.2.1, (x.2.1.2.2.1, (x.2.1.2.2.2.1, (x.2.1.2.2.2.2.1, (x.2.1.2.2.2.2.2.1, (x.2.1.2.2.2.2.2.2.1, x.2.1.2.2.2.2.2.2.2.1)))))))))) fun (x : (Unit × (List Int) × Int × Int × Unit) × (((List (List Int)) × (List Int) × (List Int) × Int × Int × Int × Int × Int × Unit) × Unit)) => impl_IsJob_l0 x.1.2.1 x.1.2.2.1 x.1.2.2.2.1
def impl_IsJobK {R : Type} (fin : Bool → Option R) (x0 : DJob) : Option R :=
  (impl_areValued x0.1 x0.2.2.1).bind fun y1 =>
  cond (!y1)
  (fin false)
  (cond ((x0.2.1.length : Int) != (x0.1.length : Int))
    (fin false)
    ((impl_IsJob_l0 x0.2.1 (x0.2.1.length : Int) 0).bind fun y3 =>
      sumO y3 (fun y4 =>
      fin y4)
      (fun y5 =>
      cond (decide (x0.2.2.2.1.1 ≥ 0))
        (cond (decide (x0.2.2.2.1.1 ≤ 1000000))
          (cond (decide (x0.2.2.2.1.2.1 ≥ 0))
            (cond (decide (x0.2.2.2.1.2.1 ≤ 1000000))
              (cond (decide (x0.2.2.2.2.1 ≥ 1))
                (cond (decide (x0.2.2.2.2.1 ≤ 6))
                  (cond (decide (x0.2.2.2.2.2.1 ≥ 1))
                    (cond (decide (x0.2.2.2.2.2.1 ≤ x0.2.2.2.2.2.2.1))
                      (fin (decide (x0.2.2.2.2.2.2.1 ≤ 20)))
                      (fin false))
                    (fin false))
                  (fin false))
                (fin false))
              (fin false))
            (fin false))
          (fin false))
        (fin false))))
def impl_IsJob (x0 : DJob) : Option (Bool) := impl_IsJobK some x0
theorem p52 {R : Type} (fin : Bool → Option R) (x0 : DJob) : Par fin (impl_IsJobK some x0) (impl_IsJobK fin x0) := by
  unfold impl_IsJobK
  repeat' (first | exact .fin | exact .none | refine .cond ?_ ?_ | refine .bind fun _ => ?_ | refine .sum (fun _ => ?_) fun _ => ?_)
def or52 : Ora := { lo := addL 4 (Limpl_IsJob_l0) lo0, fin := [] }
theorem impl_IsJob_l0e (a0 : List Int) (a1 : Int) (a3 : List (List Int)) (a4 : List Int) (a5 : List Int) (a6 : Int) (a7 : Int) (a8 : Int) (a9 : Int) (a10 : Int) (k : Nat) (a2 : Int) : loopC Try.prog EL52 or52 ((loopsIn (codeOf Try.f52)).getD 0 .skip) (Limpl_IsJob_l0).h (Limpl_IsJob_l0).ho Try.f52.ntmps (k + 1) (simpl_IsJob_l0.out (((), (a0, (a1, (a2, ())))), ((a3, (a4, (a5, (a6, (a7, (a8, (a9, (a10, ())))))))), ()))) =
    impl_IsJob_l0K a0 a1 (fun a2 => loopC Try.prog EL52 or52 ((loopsIn (codeOf Try.f52)).getD 0 .skip) (Limpl_IsJob_l0).h (Limpl_IsJob_l0).ho Try.f52.ntmps k (simpl_IsJob_l0.out (((), (a0, (a1, (a2, ())))), ((a3, (a4, (a5, (a6, (a7, (a8, (a9, (a10, ())))))))), ())))) (fun y => some (XS.out ximpl_IsJob_l0 (a0, (a1, (a3, (a4, (a5, (a6, (a7, (a8, (a9, a10))))))))) y)) a2 := by kernel_rfl
theorem impl_IsJob_l0o : LoopOk Try.prog EL52 or52 Try.f52.ntmps ((loopsIn (codeOf Try.f52)).getD 0 .skip) (Limpl_IsJob_l0) :=
  loop_lim (hs := simpl_IsJob_l0) (xs := ximpl_IsJob_l0) (ι := fun (x : (Unit × (List Int) × Int × Int × Unit) × (((List (List Int)) × (List Int) × (List Int) × Int × Int × Int × Int × Int × Unit) × Unit)) => (x.1.2.1, (x.1.2.2.1, (x.2.1.1, (x.2.1.2.1, (x.2.1.2.2.1, (x.2.1.2.2.2.1, (x.2.1.2.2.2.2.1, (x.2.1.2.2.2.2.2.1, (x.2.1.2.2.2.2.2.2.1, x.2.1.2.2.2.2.2.2.2.1)))))))))) (φ := fun (x : (Unit × (List Int) × Int × Int × Unit) × (((List (List Int)) × (List Int) × (List Int) × Int × Int × Int × Int × Int × Unit) × Unit)) => x.1.2.2.2.1) (ψ := fun (i : (List Int) × Int × (List (List Int)) × (List Int) × (List Int) × Int × Int × Int × Int × Int) (v : Int) => (((), (i.1, (i.2.1, (v, ())))), ((i.2.2.1, (i.2.2.2.1, (i.2.2.2.2.1, (i.2.2.2.2.2.1, (i.2.2.2.2.2.2.1, (i.2.2.2.2.2.2.2.1, (i.2.2.2.2.2.2.2.2.1, (i.2.2.2.2.2.2.2.2.2, ())))))))), ()))) (F := fun (i : (List Int) × Int × (List (List Int)) × (List Int) × (List Int) × Int × Int × Int × Int × Int) => impl_IsJob_l0F i.1 i.2.1) (fun _ => rfl) fun i k hk v => Par.of_eq (impl_IsJob_l0e i.1 i.2.1 i.2.2.1 i.2.2.2.1 i.2.2.2.2.1 i.2.2.2.2.2.1 i.2.2.2.2.2.2.1 i.2.2.2.2.2.2.2.1 i.2.2.2.2.2.2.2.2.1 i.2.2.2.2.2.2.2.2.2 k v) (impl_IsJob_l0p i.1 i.2.1 (fun a2 => hk a2) v)
def c52 : Callee := mkC [.agg [.ro TJob]] 1 [.one (.ro .bool)] fun x => impl_IsJob x
theorem e52 (x : PK.dens [.agg [.ro TJob]]) : evalFn Try.prog EL52 or52 Try.f52 (PK.outs [.agg [.ro TJob]] x) =
    impl_IsJobK (fun y => some (tupOf ((PK.outs [.one (.ro .bool)] y).take 1), (PK.outs [.one (.ro .bool)] y).drop 1)) x := by kernel_rfl
theorem o52 : LoOk Try.prog EL52 or52 Try.f52.ntmps (loopsIn (codeOf Try.f52)) :=
  LoOk.mk (m := 1) (by kernel_rfl) fun i hi => match i, hi with
    | 0, _ => ⟨Limpl_IsJob_l0, by kernel_rfl, impl_IsJob_l0o⟩
    | i + 1, hi => absurd hi (by omega)
theorem k52 : CalleeOk Try.prog 52 c52 := callee_mk Try.func52 (code := codeOf Try.f52) (by kernel_rfl) vL52 mixed o52 fun x y h => (e52 x).trans (p52 _ x y h)

/-- impl.isPlan -/
def EL71 : Nat → Option Callee := env0
theorem vL71 : EnvOk Try.prog EL71 := EnvOk.nil
def simpl_isPlan_l0 : LS := ⟨[(2, .one (.fix (.ptr 0 0))), (22, .one (.dat (.slice (.int .i64)))), (23, .one (.dat (.int .i64))), (24, .one (.dat (.int .i64)))], [.box [.dat (.slice (.slice (.int .i64))), .dat (.slice (.int .i64)), .dat (.slice (.int .i64)), .dat (.int .i64), .dat (.int .i64), .dat (.int .i64), .dat (.int .i64), .dat (.int .i64)]], []⟩
def simpl_isPlan_l0x0 : LS := ⟨[(4, .one (.dat .bool))], [], []⟩
def simpl_isPlan_l0x1 : LS := ⟨[], [], []⟩
def ximpl_isPlan_l0 : List (XS ((List Int) × Int × (List (List Int)) × (List Int) × (List Int) × Int × Int × Int × Int × Int)) := [⟨.ret, ⟨[4], [], [], []⟩, simpl_isPlan_l0x0, Bool, fun i y => ((y, ()), ())⟩,
  ⟨.exit 0, ⟨[], [], [], []⟩, simpl_isPlan_l0x1, Unit, fun i y => ((), ())⟩]
def impl_isPlan_l0K {R : Type} (a0 : List Int) (a1 : Int) (a8 : Int) (rc : Int → Option R) (fin : (Bool ⊕ Unit) → Option R) (a2 : Int) : Option R :=
  cond (decide (a2 < a1))
  ((lat a0 a2).bind fun e1 =>
    cond (decide (e1 < (-1)))
    (fin (.inl false))
    (cond (decide (e1 ≥ a8))
      (fin (.inl false))
      (rc (IntKind.i64.wrap (a2 + 1)))))
  (fin (.inr ()))
def impl_isPlan_l0F (a0 : List Int) (a1 : Int) (a8 : Int) (r : Int → Option (Bool ⊕ Unit)) (x : Int) : Option (Bool ⊕ Unit) := impl_isPlan_l0K a0 a1 a8 (fun a2 => r a2) some x
theorem impl_isPlan_l0c (a0 : List Int) (a1 : Int) (a8 : Int) (x : Int) : Ct fun r => impl_isPlan_l0F a0 a1 a8 r x := by
  unfold impl_isPlan_l0F impl_isPlan_l0K
  repeat' (first | exact Ct.const | exact Ct.call | refine Ct.cond ?_ ?_ | refine Ct.bind ?_ fun _ => ?_ | refine Ct.sum (fun _ => ?_) fun _ => ?_)
def impl_isPlan_l0 (a0 : List Int) (a1 : Int) (a8 : Int) (a2 : Int) : Option (Bool ⊕ Unit) := lim (impl_isPlan_l0F a0 a1 a8) a2
theorem impl_isPlan_l0_eq (a0 : List Int) (a1 : Int) (a8 : Int) (a2 : Int) : impl_isPlan_l0 a0 a1 a8 a2 = impl_isPlan_l0K a0 a1 a8 (impl_isPlan_l0 a0 a1 a8) some a2 := lim_eq (impl_isPlan_l0c a0 a1 a8) a2
theorem impl_isPlan_l0p {R : Type} (a0 : List Int) (a1 : Int) (a8 : Int) {rc : Int → Option (Bool ⊕ Unit)} {rc' : Int → Option R} {fin : (Bool ⊕ Unit) → Option R} (hr : ∀ a2, Par fin (rc a2) (rc' a2)) (a2 : Int) : Par fin (impl_isPlan_l0K a0 a1 a8 rc some a2) (impl_isPlan_l0K a0 a1 a8 rc' fin a2) := by
  unfold impl_isPlan_l0K
  repeat' (first | exact .fin | exact .none | exact hr _ | refine .cond ?_ ?_ | refine .bind fun _ => ?_ | refine .sum (fun _ => ?_) fun _ => ?_)
def Limpl_isPlan_l0 : Loop := mkL ⟨[2, 22, 23, 24], [.slot 2], [], []⟩ simpl_isPlan_l0 ximpl_isPlan_l0 (fun (x : (Unit × (List Int) × Int × Int × Unit) × (((List (List Int)) × (List Int) × (List Int) × Int × Int × Int × Int × Int × Unit) × Unit)) => (x.1.2.1, (x.1.2.2.1, (x.2.1.1, (x.2.1.2.1, (x.2.1.2.2.1, (x.2.1.2.2.2.1, (x.2.1.2.2.2.2.1, (x.2.1.2.2.2.2.2.1, (x.2.1.2.2.2.2.2.2.1, x.2.1.2.2.2.2.2.2.2.1)))))))))) fun (x : (Unit × (List Int) × Int × Int × Unit) × (((List (List Int)) × (List Int) × (List Int) × Int × Int × Int × Int × Int × Unit) × Unit)) => impl_isPlan_l0 x.1.2.1 x.1.2.2.1 x.2.1.2.2.2.2.2.1 x.1.2.2.2.1
def impl_isPlanK {R : Type} (fin : Bool → Option R) (x0 : DJob) (x1 : DPlan) : Option R :=
  cond (x1.1 != x0.2.2.2.2.1)
  (fin false)
  (cond ((x1.2.1.length : Int) != (x0.1.length : Int))
    (fin false)
    ((impl_isPlan_l0 x1.2.1 (x1.2.1.length : Int) x0.2.2.2.2.1 0).bind fun y2 =>
      sumO y2 (fun y3 =>
      fin y3)
      (fun y4 =>
      fin true)))
def impl_isPlan (x0 : DJob) (x1 : DPlan) : Option (Bool) := impl_isPlanK some x0 x1
theorem p71 {R : Type} (fin : Bool → Option R) (x0 : DJob) (x1 : DPlan) : Par fin (impl_isPlanK some x0 x1) (impl_isPlanK fin x0 x1) := by
  unfold impl_isPlanK
  repeat' (first | exact .fin | exact .none | refine .cond ?_ ?_ | refine .bind fun _ => ?_ | refine .sum (fun _ => ?_) fun _ => ?_)
def or71 : Ora := { lo := addL 4 (Limpl_isPlan_l0) lo0, fin := [] }
theorem impl_isPlan_l0e (a0 : List Int) (a1 : Int) (a3 : List (List Int)) (a4 : List Int) (a5 : List Int) (a6 : Int) (a7 : Int) (a8 : Int) (a9 : Int) (a10 : Int) (k : Nat) (a2 : Int) : loopC Try.prog EL71 or71 ((loopsIn (codeOf Try.f71)).getD 0 .skip) (Limpl_isPlan_l0).h (Limpl_isPlan_l0).ho Try.f71.ntmps (k + 1) (simpl_isPlan_l0.out (((), (a0, (a1, (a2, ())))), ((a3, (a4, (a5, (a6, (a7, (a8, (a9, (a10, ())))))))), ()))) =
    impl_isPlan_l0K a0 a1 a8 (fun a2 => loopC Try.prog EL71 or71 ((loopsIn (codeOf Try.f71)).getD 0 .skip) (Limpl_isPlan_l0).h (Limpl_isPlan_l0).ho Try.f71.ntmps k (simpl_isPlan_l0.out (((), (a0, (a1, (a2, ())))), ((a3, (a4, (a5, (a6, (a7, (a8, (a9, (a10, ())))))))), ())))) (fun y => some (XS.out ximpl_isPlan_l0 (a0, (a1, (a3, (a4, (a5, (a6, (a7, (a8, (a9, a10))))))))) y)) a2 := by kernel_rfl
theorem impl_isPlan_l0o : LoopOk Try.prog EL71 or71 Try.f71.ntmps ((loopsIn (codeOf Try.f71)).getD 0 .skip) (Limpl_isPlan_l0) :=
  loop_lim (hs := simpl_isPlan_l0) (xs := ximpl_isPlan_l0) (ι := fun (x : (Unit × (List Int) × Int × Int × Unit) × (((List (List Int)) × (List Int) × (List Int) × Int × Int × Int × Int × Int × Unit) × Unit)) => (x.1.2.1, (x.1.2.2.1, (x.2.1.1, (x.2.1.2.1, (x.2.1.2.2.1, (x.2.1.2.2.2.1, (x.2.1.2.2.2.2.1, (x.2.1.2.2.2.2.2.1, (x.2.1.2.2.2.2.2.2.1, x.2.1.2.2.2.2.2.2.2.1)))))))))) (φ := fun (x : (Unit × (List Int) × Int × Int × Unit) × (((List (List Int)) × (List Int) × (List Int) × Int × Int × Int × Int × Int × Unit) × Unit)) => x.1.2.2.2.1) (ψ := fun (i : (List Int) × Int × (List (List Int)) × (List Int) × (List Int) × Int × Int × Int × Int × Int) (v : Int) => (((), (i.1, (i.2.1, (v, ())))), ((i.2.2.1, (i.2.2.2.1, (i.2.2.2.2.1, (i.2.2.2.2.2.1, (i.2.2.2.2.2.2.1, (i.2.2.2.2.2.2.2.1, (i.2.2.2.2.2.2.2.2.1, (i.2.2.2.2.2.2.2.2.2, ())))))))), ()))) (F := fun (i : (List Int) × Int × (List (List Int)) × (List Int) × (List Int) × Int × Int × Int × Int × Int) => impl_isPlan_l0F i.1 i.2.1 i.2.2.2.2.2.2.2.1) (fun _ => rfl) fun i k hk v => Par.of_eq (impl_isPlan_l0e i.1 i.2.1 i.2.2.1 i.2.2.2.1 i.2.2.2.2.1 i.2.2.2.2.2.1 i.2.2.2.2.2.2.1 i.2.2.2.2.2.2.2.1 i.2.2.2.2.2.2.2.2.1 i.2.2.2.2.2.2.2.2.2 k v) (impl_isPlan_l0p i.1 i.2.1 i.2.2.2.2.2.2.2.1 (fun a2 => hk a2) v)
def c71 : Callee := mkC [.agg [.ro TJob], .agg [.ro TPlan]] 1 [.one (.ro .bool)] fun x => impl_isPlan x.1 x.2
theorem e71 (x : PK.dens [.agg [.ro TJob], .agg [.ro TPlan]]) : evalFn Try.prog EL71 or71 Try.f71 (PK.outs [.agg [.ro TJob], .agg [.ro TPlan]] x) =
    impl_isPlanK (fun y => some (tupOf ((PK.outs [.one (.ro .bool)] y).take 1), (PK.outs [.one (.ro .bool)] y).drop 1)) x.1 x.2 := by kernel_rfl
theorem o71 : LoOk Try.prog EL71 or71 Try.f71.ntmps (loopsIn (codeOf Try.f71)) :=
  LoOk.mk (m := 1) (by kernel_rfl) fun i hi => match i, hi with
    | 0, _ => ⟨Limpl_isPlan_l0, by kernel_rfl, impl_isPlan_l0o⟩
    | i + 1, hi => absurd hi (by omega)
theorem k71 : CalleeOk Try.prog 71 c71 := callee_mk Try.func71 (code := codeOf Try.f71) (by kernel_rfl) vL71 mixed o71 fun x y h => (e71 x).trans (p71 _ x.1 x.2 y h)

/-- spec.l1In -/
def EL65 : Nat → Option Callee := env0
theorem vL65 : EnvOk Try.prog EL65 := EnvOk.nil
def spec_l1InK {R : Type} (fin : Bool → Option R) (x0 : Int) (x1 : Int) (x2 : Int) : Option R :=
  cond (decide (x0 ≥ x1))
  (fin (decide (x0 ≤ x2)))
  (fin false)
def spec_l1In (x0 : Int) (x1 : Int) (x2 : Int) : Option (Bool) := spec_l1InK some x0 x1 x2
theorem p65 {R : Type} (fin : Bool → Option R) (x0 : Int) (x1 : Int) (x2 : Int) : Par fin (spec_l1InK some x0 x1 x2) (spec_l1InK fin x0 x1 x2) := by
  unfold spec_l1InK
  repeat' (first | exact .fin | exact .none | refine .cond ?_ ?_ | refine .bind fun _ => ?_ | refine .sum (fun _ => ?_) fun _ => ?_)
def c65 : Callee := mkC [.one (.ro (.int .i64)), .one (.ro (.int .i64)), .one (.ro (.int .i64))] 1 [.one (.ro .bool)] fun x => spec_l1In x.1 x.2.1 x.2.2
theorem e65 (x : PK.dens [.one (.ro (.int .i64)), .one (.ro (.int .i64)), .one (.ro (.int .i64))]) : evalFn Try.prog EL65 or0 Try.f65 (PK.outs [.one (.ro (.int .i64)), .one (.ro (.int .i64)), .one (.ro (.int .i64))] x) =
    spec_l1InK (fun y => some (tupOf ((PK.outs [.one (.ro .bool)] y).take 1), (PK.outs [.one (.ro .bool)] y).drop 1)) x.1 x.2.1 x.2.2 := by kernel_rfl
theorem k65 : CalleeOk Try.prog 65 c65 := callee_mk Try.func65 (code := codeOf Try.f65) (by kernel_rfl) vL65 mixed (LoOk.nil (by kernel_rfl)) fun x y h => (e65 x).trans (p65 _ x.1 x.2.1 x.2.2 y h)

/-- spec.l1Rising -/
def EL109 : Nat → Option Callee := addE 65 c65 env0
theorem vL109 : EnvOk Try.prog EL109 := EnvOk.nil.add Try.func65 rfl (by kernel_rfl) k65
def sspec_l1Rising_l0 : LS := ⟨[(0, .one (.dat (.slice (.int .i64)))), (1, .one (.dat (.int .i64))), (2, .one (.dat (.int .i64))), (9, .one (.dat (.slice (.int .i64)))), (10, .one (.dat (.int .i64))), (11, .one (.dat (.int .i64)))], [], []⟩
def sspec_l1Rising_l0x0 : LS := ⟨[(6, .one (.dat .bool))], [], []⟩
def sspec_l1Rising_l0x1 : LS := ⟨[], [], []⟩
def xspec_l1Rising_l0 : List (XS ((List Int) × Int × Int × (List Int) × Int)) := [⟨.ret, ⟨[6], [], [], []⟩, sspec_l1Rising_l0x0, Bool, fun i y => ((y, ()), ())⟩,
  ⟨.exit 0, ⟨[], [], [], []⟩, sspec_l1Rising_l0x1, Unit, fun i y => ((), ())⟩]
def spec_l1Rising_l0K {R : Type} (a0 : List Int) (a1 : Int) (a2 : Int) (a3 : List Int) (a4 : Int) (rc : Int → Option R) (fin : (Bool ⊕ Unit) → Option R) (a5 : Int) : Option R :=
  cond (decide (a5 < a4))
  ((lat a3 a5).bind fun e1 =>
    (spec_l1In e1 a1 a2).bind fun y2 =>
    cond (!y2)
    (fin (.inl false))
    (cond (decide (a5 > 0))
      ((lat a0 (IntKind.i64.wrap (a5 - 1))).bind fun e3 =>
        cond (decide (e3 ≥ e1))
        (fin (.inl false))
        (rc (IntKind.i64.wrap (a5 + 1))))
      (rc (IntKind.i64.wrap (a5 + 1)))))
  (fin (.inr ()))
def spec_l1Rising_l0F (a0 : List Int) (a1 : Int) (a2 : Int) (a3 : List Int) (a4 : Int) (r : Int → Option (Bool ⊕ Unit)) (x : Int) : Option (Bool ⊕ Unit) := spec_l1Rising_l0K a0 a1 a2 a3 a4 (fun a5 => r a5) some x
theorem spec_l1Rising_l0c (a0 : List Int) (a1 : Int) (a2 : Int) (a3 : List Int) (a4 : Int) (x : Int) : Ct fun r => spec_l1Rising_l0F a0 a1 a2 a3 a4 r x := by
  unfold spec_l1Rising_l0F spec_l1Rising_l0K
  repeat' (first | exact Ct.const | exact Ct.call | refine Ct.cond ?_ ?_ | refine Ct.bind ?_ fun _ => ?_ | refine Ct.sum (fun _ => ?_) fun _ => ?_)
def spec_l1Rising_l0 (a0 : List Int) (a1 : Int) (a2 : Int) (a3 : List Int) (a4 : Int) (a5 : Int) : Option (Bool ⊕ Unit) := lim (spec_l1Rising_l0F a0 a1 a2 a3 a4) a5
theorem spec_l1Rising_l0_eq (a0 : List Int) (a1 : Int) (a2 : Int) (a3 : List Int) (a4 : Int) (a5 : Int) : spec_l1Rising_l0 a0 a1 a2 a3 a4 a5 = spec_l1Rising_l0K a0 a1 a2 a3 a4 (spec_l1Rising_l0 a0 a1 a2 a3 a4) some a5 := lim_eq (spec_l1Rising_l0c a0 a1 a2 a3 a4) a5
theorem spec_l1Rising_l0p {R : Type} (a0 : List Int) (a1 : Int) (a2 : Int) (a3 : List Int) (a4 : Int) {rc : Int → Option (Bool ⊕ Unit)} {rc' : Int → Option R} {fin : (Bool ⊕ Unit) → Option R} (hr : ∀ a5, Par fin (rc a5) (rc' a5)) (a5 : Int) : Par fin (spec_l1Rising_l0K a0 a1 a2 a3 a4 rc some a5) (spec_l1Rising_l0K a0 a1 a2 a3 a4 rc' fin a5) := by
  unfold spec_l1Rising_l0K
  repeat' (first | exact .fin | exact .none | exact hr _ | refine .cond ?_ ?_ | refine .bind fun _ => ?_ | refine .sum (fun _ => ?_) fun _ => ?_)
def Lspec_l1Rising_l0 : Loop := mkL ⟨[0, 1, 2, 9, 10, 11], [], [], []⟩ sspec_l1Rising_l0 xspec_l1Rising_l0 (fun (x : ((List Int) × Int × Int × (List Int) × Int × Int × Unit) × (Unit)) => (x.1.1, (x.1.2.1, (x.1.2.2.1, (x.1.2.2.2.1, x.1.2.2.2.2.1))))) fun (x : ((List Int) × Int × Int × (List Int) × Int × Int × Unit) × (Unit)) => spec_l1Rising_l0 x.1.1 x.1.2.1 x.1.2.2.1 x.1.2.2.2.1 x.1.2.2.2.2.1 x.1.2.2.2.2.2.1
def spec_l1RisingK {R : Type} (fin : Bool → Option R) (x0 : List Int) (x1 : Int) (x2 : Int) : Option R :=
  (spec_l1Rising_l0 x0 x1 x2 x0 (x0.length : Int) 0).bind fun y4 =>
  sumO y4 (fun y5 =>
  fin y5)
  (fun y6 =>
  fin true)
def spec_l1Rising (x0 : List Int) (x1 : Int) (x2 : Int) : Option (Bool) := spec_l1RisingK some x0 x1 x2
theorem p109 {R : Type} (fin : Bool → Option R) (x0 : List Int) (x1 : Int) (x2 : Int) : Par fin (spec_l1RisingK some x0 x1 x2) (spec_l1RisingK fin x0 x1 x2) := by
  unfold spec_l1RisingK
  repeat' (first | exact .fin | exact .none | refine .cond ?_ ?_ | refine .bind fun _ => ?_ | refine .sum (fun _ => ?_) fun _ => ?_)
def or109 : Ora := { lo := addL 2 (Lspec_l1Rising_l0) lo0, fin := [] }
theorem spec_l1Rising_l0e (a0 : List Int) (a1 : Int) (a2 : Int) (a3 : List Int) (a4 : Int) (k : Nat) (a5 : Int) : loopC Try.prog EL109 or109 ((loopsIn (codeOf Try.f109)).getD 0 .skip) (Lspec_l1Rising_l0).h (Lspec_l1Rising_l0).ho Try.f109.ntmps (k + 1) (sspec_l1Rising_l0.out ((a0, (a1, (a2, (a3, (a4, (a5, ())))))), ())) =
    spec_l1Rising_l0K a0 a1 a2 a3 a4 (fun a5 => loopC Try.prog EL109 or109 ((loopsIn (codeOf Try.f109)).getD 0 .skip) (Lspec_l1Rising_l0).h (Lspec_l1Rising_l0).ho Try.f109.ntmps k (sspec_l1Rising_l0.out ((a0, (a1, (a2, (a3, (a4, (a5, ())))))), ()))) (fun y => some (XS.out xspec_l1Rising_l0 (a0, (a1, (a2, (a3, a4)))) y)) a5 := by kernel_rfl
theorem spec_l1Rising_l0o : LoopOk Try.prog EL109 or109 Try.f109.ntmps ((loopsIn (codeOf Try.f109)).getD 0 .skip) (Lspec_l1Rising_l0) :=
  loop_lim (hs := sspec_l1Rising_l0) (xs := xspec_l1Rising_l0) (ι := fun (x : ((List Int) × Int × Int × (List Int) × Int × Int × Unit) × (Unit)) => (x.1.1, (x.1.2.1, (x.1.2.2.1, (x.1.2.2.2.1, x.1.2.2.2.2.1))))) (φ := fun (x : ((List Int) × Int × Int × (List Int) × Int × Int × Unit) × (Unit)) => x.1.2.2.2.2.2.1) (ψ := fun (i : (List Int) × Int × Int × (List Int) × Int) (v : Int) => ((i.1, (i.2.1, (i.2.2.1, (i.2.2.2.1, (i.2.2.2.2, (v, ())))))), ())) (F := fun (i : (List Int) × Int × Int × (List Int) × Int) => spec_l1Rising_l0F i.1 i.2.1 i.2.2.1 i.2.2.2.1 i.2.2.2.2) (fun _ => rfl) fun i k hk v => Par.of_eq (spec_l1Rising_l0e i.1 i.2.1 i.2.2.1 i.2.2.2.1 i.2.2.2.2 k v) (spec_l1Rising_l0p i.1 i.2.1 i.2.2.1 i.2.2.2.1 i.2.2.2.2 (fun a5 => hk a5) v)
def c109 : Callee := mkC [.one (.ro (.slice (.int .i64))), .one (.ro (.int .i64)), .one (.ro (.int .i64))] 1 [.one (.ro .bool)] fun x => spec_l1Rising x.1 x.2.1 x.2.2
theorem e109 (x : PK.dens [.one (.ro (.slice (.int .i64))), .one (.ro (.int .i64)), .one (.ro (.int .i64))]) : evalFn Try.prog EL109 or109 Try.f109 (PK.outs [.one (.ro (.slice (.int .i64))), .one (.ro (.int .i64)), .one (.ro (.int .i64))] x) =
    spec_l1RisingK (fun y => some (tupOf ((PK.outs [.one (.ro .bool)] y).take 1), (PK.outs [.one (.ro .bool)] y).drop 1)) x.1 x.2.1 x.2.2 := by kernel_rfl
theorem o109 : LoOk Try.prog EL109 or109 Try.f109.ntmps (loopsIn (codeOf Try.f109)) :=
  LoOk.mk (m := 1) (by kernel_rfl) fun i hi => match i, hi with
    | 0, _ => ⟨Lspec_l1Rising_l0, by kernel_rfl, spec_l1Rising_l0o⟩
    | i + 1, hi => absurd hi (by omega)
theorem k109 : CalleeOk Try.prog 109 c109 := callee_mk Try.func109 (code := codeOf Try.f109) (by kernel_rfl) vL109 mixed o109 fun x y h => (e109 x).trans (p109 _ x.1 x.2.1 x.2.2 y h)

/-- spec.clArcs -/
def EL81 : Nat → Option Callee := addE 65 c65 (addE 109 c109 env0)
theorem vL81 : EnvOk Try.prog EL81 := (EnvOk.nil.add Try.func109 rfl (by kernel_rfl) k109).add Try.func65 rfl (by kernel_rfl) k65
def sspec_clArcs_l0 : LS := ⟨[(0, .one (.dat (.slice (.slice (.int .i64))))), (5, .one (.dat (.slice (.slice (.int .i64))))), (6, .one (.dat (.int .i64))), (7, .one (.dat (.int .i64)))], [], []⟩
def sspec_clArcs_l0x0 : LS := ⟨[(2, .one (.dat .bool))], [], []⟩
def sspec_clArcs_l0x1 : LS := ⟨[(0, .one (.dat (.slice (.slice (.int .i64)))))], [], []⟩
def xspec_clArcs_l0 : List (XS ((List (List Int)) × (List (List Int)) × Int)) := [⟨.ret, ⟨[2], [], [], []⟩, sspec_clArcs_l0x0, Bool, fun i y => ((y, ()), ())⟩,
  ⟨.exit 0, ⟨[0], [], [], []⟩, sspec_clArcs_l0x1, Unit, fun i y => ((i.1, ()), ())⟩]
def spec_clArcs_l0K {R : Type} (a1 : List (List Int)) (a2 : Int) (rc : Int → Option R) (fin : (Bool ⊕ Unit) → Option R) (a3 : Int) : Option R :=
  cond (decide (a3 < a2))
  ((lat a1 a3).bind fun e1 =>
    (spec_l1Rising e1 0 (IntKind.i64.wrap (a3 - 1))).bind fun y2 =>
    cond (!y2)
    (fin (.inl false))
    (rc (IntKind.i64.wrap (a3 + 1))))
  (fin (.inr ()))
def spec_clArcs_l0F (a1 : List (List Int)) (a2 : Int) (r : Int → Option (Bool ⊕ Unit)) (x : Int) : Option (Bool ⊕ Unit) := spec_clArcs_l0K a1 a2 (fun a3 => r a3) some x
theorem spec_clArcs_l0c (a1 : List (List Int)) (a2 : Int) (x : Int) : Ct fun r => spec_clArcs_l0F a1 a2 r x := by
  unfold spec_clArcs_l0F spec_clArcs_l0K
  repeat' (first | exact Ct.const | exact Ct.call | refine Ct.cond ?_ ?_ | refine Ct.bind ?_ fun _ => ?_ | refine Ct.sum (fun _ => ?_) fun _ => ?_)
def spec_clArcs_l0 (a1 : List (List Int)) (a2 : Int) (a3 : Int) : Option (Bool ⊕ Unit) := lim (spec_clArcs_l0F a1 a2) a3
theorem spec_clArcs_l0_eq (a1 : List (List Int)) (a2 : Int) (a3 : Int) : spec_clArcs_l0 a1 a2 a3 = spec_clArcs_l0K a1 a2 (spec_clArcs_l0 a1 a2) some a3 := lim_eq (spec_clArcs_l0c a1 a2) a3
theorem spec_clArcs_l0p {R : Type} (a1 : List (List Int)) (a2 : Int) {rc : Int → Option (Bool ⊕ Unit)} {rc' : Int → Option R} {fin : (Bool ⊕ Unit) → Option R} (hr : ∀ a3, Par fin (rc a3) (rc' a3)) (a3 : Int) : Par fin (spec_clArcs_l0K a1 a2 rc some a3) (spec_clArcs_l0K a1 a2 rc' fin a3) := by
  unfold spec_clArcs_l0K
  repeat' (first | exact .fin | exact .none | exact hr _ | refine .cond ?_ ?_ | refine .bind fun _ => ?_ | refine .sum (fun _ => ?_) fun _ => ?_)
def Lspec_clArcs_l0 : Loop := mkL ⟨[0, 5, 6, 7], [], [], []⟩ sspec_clArcs_l0 xspec_clArcs_l0 (fun (x : ((List (List Int)) × (List (List Int)) × Int × Int × Unit) × (Unit)) => (x.1.1, (x.1.2.1, x.1.2.2.1))) fun (x : ((List (List Int)) × (List (List Int)) × Int × Int × Unit) × (Unit)) => spec_clArcs_l0 x.1.2.1 x.1.2.2.1 x.1.2.2.2.1
def spec_clArcsK {R : Type} (fin : Bool → Option R) (x0 : List (List Int)) : Option R :=
  (spec_clArcs_l0 x0 (x0.length : Int) 0).bind fun y3 =>
  sumO y3 (fun y4 =>
  fin y4)
  (fun y5 =>
  (spec_l1In (x0.length : Int) 1 120).bind fun y6 =>
    fin y6)
def spec_clArcs (x0 : List (List Int)) : Option (Bool) := spec_clArcsK some x0
theorem p81 {R : Type} (fin : Bool → Option R) (x0 : List (List Int)) : Par fin (spec_clArcsK some x0) (spec_clArcsK fin x0) := by
  unfold spec_clArcsK
  repeat' (first | exact .fin | exact .none | refine .cond ?_ ?_ | refine .bind fun _ => ?_ | refine .sum (fun _ => ?_) fun _ => ?_)
def or81 : Ora := { lo := addL 2 (Lspec_clArcs_l0) lo0, fin := [] }
theorem spec_clArcs_l0e (a0 : List (List Int)) (a1 : List (List Int)) (a2 : Int) (k : Nat) (a3 : Int) : loopC Try.prog EL81 or81 ((loopsIn (codeOf Try.f81)).getD 0 .skip) (Lspec_clArcs_l0).h (Lspec_clArcs_l0).ho Try.f81.ntmps (k + 1) (sspec_clArcs_l0.out ((a0, (a1, (a2, (a3, ())))), ())) =
    spec_clArcs_l0K a1 a2 (fun a3 => loopC Try.prog EL81 or81 ((loopsIn (codeOf Try.f81)).getD 0 .skip) (Lspec_clArcs_l0).h (Lspec_clArcs_l0).ho Try.f81.ntmps k (sspec_clArcs_l0.out ((a0, (a1, (a2, (a3, ())))), ()))) (fun y => some (XS.out xspec_clArcs_l0 (a0, (a1, a2)) y)) a3 := by kernel_rfl
theorem spec_clArcs_l0o : LoopOk Try.prog EL81 or81 Try.f81.ntmps ((loopsIn (codeOf Try.f81)).getD 0 .skip) (Lspec_clArcs_l0) :=
  loop_lim (hs := sspec_clArcs_l0) (xs := xspec_clArcs_l0) (ι := fun (x : ((List (List Int)) × (List (List Int)) × Int × Int × Unit) × (Unit)) => (x.1.1, (x.1.2.1, x.1.2.2.1))) (φ := fun (x : ((List (List Int)) × (List (List Int)) × Int × Int × Unit) × (Unit)) => x.1.2.2.2.1) (ψ := fun (i : (List (List Int)) × (List (List Int)) × Int) (v : Int) => ((i.1, (i.2.1, (i.2.2, (v, ())))), ())) (F := fun (i : (List (List Int)) × (List (List Int)) × Int) => spec_clArcs_l0F i.2.1 i.2.2) (fun _ => rfl) fun i k hk v => Par.of_eq (spec_clArcs_l0e i.1 i.2.1 i.2.2 k v) (spec_clArcs_l0p i.2.1 i.2.2 (fun a3 => hk a3) v)
def c81 : Callee := mkC [.one (.ro (.slice (.slice (.int .i64))))] 1 [.one (.ro .bool)] fun x => spec_clArcs x
theorem e81 (x : PK.dens [.one (.ro (.slice (.slice (.int .i64))))]) : evalFn Try.prog EL81 or81 Try.f81 (PK.outs [.one (.ro (.slice (.slice (.int .i64))))] x) =
    spec_clArcsK (fun y => some (tupOf ((PK.outs [.one (.ro .bool)] y).take 1), (PK.outs [.one (.ro .bool)] y).drop 1)) x := by kernel_rfl
theorem o81 : LoOk Try.prog EL81 or81 Try.f81.ntmps (loopsIn (codeOf Try.f81)) :=
  LoOk.mk (m := 1) (by kernel_rfl) fun i hi => match i, hi with
    | 0, _ => ⟨Lspec_clArcs_l0, by kernel_rfl, spec_clArcs_l0o⟩
    | i + 1, hi => absurd hi (by omega)
theorem k81 : CalleeOk Try.prog 81 c81 := callee_mk Try.func81 (code := codeOf Try.f81) (by kernel_rfl) vL81 mixed o81 fun x y h => (e81 x).trans (p81 _ x y h)

/-- spec.l1All -/
def EL82 : Nat → Option Callee := addE 65 c65 env0
theorem vL82 : EnvOk Try.prog EL82 := EnvOk.nil.add Try.func65 rfl (by kernel_rfl) k65
def sspec_l1All_l0 : LS := ⟨[(1, .one (.dat (.int .i64))), (2, .one (.dat (.int .i64))), (9, .one (.dat (.slice (.int .i64)))), (10, .one (.dat (.int .i64))), (11, .one (.dat (.int .i64)))], [], []⟩
def sspec_l1All_l0x0 : LS := ⟨[(6, .one (.dat .bool))], [], []⟩
def sspec_l1All_l0x1 : LS := ⟨[], [], []⟩
def xspec_l1All_l0 : List (XS (Int × Int × (List Int) × Int)) := [⟨.ret, ⟨[6], [], [], []⟩, sspec_l1All_l0x0, Bool, fun i y => ((y, ()), ())⟩,
  ⟨.exit 0, ⟨[], [], [], []⟩, sspec_l1All_l0x1, Unit, fun i y => ((), ())⟩]
def spec_l1All_l0K {R : Type} (a0 : Int) (a1 : Int) (a2 : List Int) (a3 : Int) (rc : Int → Option R) (fin : (Bool ⊕ Unit) → Option R) (a4 : Int) : Option R :=
  cond (decide (a4 < a3))
  ((lat a2 a4).bind fun e1 =>
    (spec_l1In e1 a0 a1).bind fun y2 =>
    cond (!y2)
    (fin (.inl false))
    (rc (IntKind.i64.wrap (a4 + 1))))
  (fin (.inr ()))
def spec_l1All_l0F (a0 : Int) (a1 : Int) (a2 : List Int) (a3 : Int) (r : Int → Option (Bool ⊕ Unit)) (x : Int) : Option (Bool ⊕ Unit) := spec_l1All_l0K a0 a1 a2 a3 (fun a4 => r a4) some x
theorem spec_l1All_l0c (a0 : Int) (a1 : Int) (a2 : List Int) (a3 : Int) (x : Int) : Ct fun r => spec_l1All_l0F a0 a1 a2 a3 r x := by
  unfold spec_l1All_l0F spec_l1All_l0K
  repeat' (first | exact Ct.const | exact Ct.call | refine Ct.cond ?_ ?_ | refine Ct.bind ?_ fun _ => ?_ | refine Ct.sum (fun _ => ?_) fun _ => ?_)
def spec_l1All_l0 (a0 : Int) (a1 : Int) (a2 : List Int) (a3 : Int) (a4 : Int) : Option (Bool ⊕ Unit) := lim (spec_l1All_l0F a0 a1 a2 a3) a4
theorem spec_l1All_l0_eq (a0 : Int) (a1 : Int) (a2 : List Int) (a3 : Int) (a4 : Int) : spec_l1All_l0 a0 a1 a2 a3 a4 = spec_l1All_l0K a0 a1 a2 a3 (spec_l1All_l0 a0 a1 a2 a3) some a4 := lim_eq (spec_l1All_l0c a0 a1 a2 a3) a4
theorem spec_l1All_l0p {R : Type} (a0 : Int) (a1 : Int) (a2 : List Int) (a3 : Int) {rc : Int → Option (Bool ⊕ Unit)} {rc' : Int → Option R} {fin : (Bool ⊕ Unit) → Option R} (hr : ∀ a4, Par fin (rc a4) (rc' a4)) (a4 : Int) : Par fin (spec_l1All_l0K a0 a1 a2 a3 rc some a4) (spec_l1All_l0K a0 a1 a2 a3 rc' fin a4) := by
  unfold spec_l1All_l0K
  repeat' (first | exact .fin | exact .none | exact hr _ | refine .cond ?_ ?_ | refine .bind fun _ => ?_ | refine .sum (fun _ => ?_) fun _ => ?_)
def Lspec_l1All_l0 : Loop := mkL ⟨[1, 2, 9, 10, 11], [], [], []⟩ sspec_l1All_l0 xspec_l1All_l0 (fun (x : (Int × Int × (List Int) × Int × Int × Unit) × (Unit)) => (x.1.1, (x.1.2.1, (x.1.2.2.1, x.1.2.2.2.1)))) fun (x : (Int × Int × (List Int) × Int × Int × Unit) × (Unit)) => spec_l1All_l0 x.1.1 x.1.2.1 x.1.2.2.1 x.1.2.2.2.1 x.1.2.2.2.2.1
def spec_l1AllK {R : Type} (fin : Bool → Option R) (x0 : List Int) (x1 : Int) (x2 : Int) : Option R :=
  (spec_l1All_l0 x1 x2 x0 (x0.length : Int) 0).bind fun y3 =>
  sumO y3 (fun y4 =>
  fin y4)
  (fun y5 =>
  fin true)
def spec_l1All (x0 : List Int) (x1 : Int) (x2 : Int) : Option (Bool) := spec_l1AllK some x0 x1 x2
theorem p82 {R : Type} (fin : Bool → Option R) (x0 : List Int) (x1 : Int) (x2 : Int) : Par fin (spec_l1AllK some x0 x1 x2) (spec_l1AllK fin x0 x1 x2) := by
  unfold spec_l1AllK
  repeat' (first | exact .fin | exact .none | refine .cond ?_ ?_ | refine .bind fun _ => ?_ | refine .sum (fun _ => ?_) fun _ => ?_)
def or82 : Ora := { lo := addL 2 (Lspec_l1All_l0) lo0, fin := [] }
theorem spec_l1All_l0e (a0 : Int) (a1 : Int) (a2 : List Int) (a3 : Int) (k : Nat) (a4 : Int) : loopC Try.prog EL82 or82 ((loopsIn (codeOf Try.f82)).getD 0 .skip) (Lspec_l1All_l0).h (Lspec_l1All_l0).ho Try.f82.ntmps (k + 1) (sspec_l1All_l0.out ((a0, (a1, (a2, (a3, (a4, ()))))), ())) =
    spec_l1All_l0K a0 a1 a2 a3 (fun a4 => loopC Try.prog EL82 or82 ((loopsIn (codeOf Try.f82)).getD 0 .skip) (Lspec_l1All_l0).h (Lspec_l1All_l0).ho Try.f82.ntmps k (sspec_l1All_l0.out ((a0, (a1, (a2, (a3, (a4, ()))))), ()))) (fun y => some (XS.out xspec_l1All_l0 (a0, (a1, (a2, a3))) y)) a4 := by kernel_rfl
theorem spec_l1All_l0o : LoopOk Try.prog EL82 or82 Try.f82.ntmps ((loopsIn (codeOf Try.f82)).getD 0 .skip) (Lspec_l1All_l0) :=
  loop_lim (hs := sspec_l1All_l0) (xs := xspec_l1All_l0) (ι := fun (x : (Int × Int × (List Int) × Int × Int × Unit) × (Unit)) => (x.1.1, (x.1.2.1, (x.1.2.2.1, x.1.2.2.2.1)))) (φ := fun (x : (Int × Int × (List Int) × Int × Int × Unit) × (Unit)) => x.1.2.2.2.2.1) (ψ := fun (i : Int × Int × (List Int) × Int) (v : Int) => ((i.1, (i.2.1, (i.2.2.1, (i.2.2.2, (v, ()))))), ())) (F := fun (i : Int × Int × (List Int) × Int) => spec_l1All_l0F i.1 i.2.1 i.2.2.1 i.2.2.2) (fun _ => rfl) fun i k hk v => Par.of_eq (spec_l1All_l0e i.1 i.2.1 i.2.2.1 i.2.2.2 k v) (spec_l1All_l0p i.1 i.2.1 i.2.2.1 i.2.2.2 (fun a4 => hk a4) v)
def c82 : Callee := mkC [.one (.ro (.slice (.int .i64))), .one (.ro (.int .i64)), .one (.ro (.int .i64))] 1 [.one (.ro .bool)] fun x => spec_l1All x.1 x.2.1 x.2.2
theorem e82 (x : PK.dens [.one (.ro (.slice (.int .i64))), .one (.ro (.int .i64)), .one (.ro (.int .i64))]) : evalFn Try.prog EL82 or82 Try.f82 (PK.outs [.one (.ro (.slice (.int .i64))), .one (.ro (.int .i64)), .one (.ro (.int .i64))] x) =
    spec_l1AllK (fun y => some (tupOf ((PK.outs [.one (.ro .bool)] y).take 1), (PK.outs [.one (.ro .bool)] y).drop 1)) x.1 x.2.1 x.2.2 := by kernel_rfl
theorem o82 : LoOk Try.prog EL82 or82 Try.f82.ntmps (loopsIn (codeOf Try.f82)) :=
  LoOk.mk (m := 1) (by kernel_rfl) fun i hi => match i, hi with
    | 0, _ => ⟨Lspec_l1All_l0, by kernel_rfl, spec_l1All_l0o⟩
    | i + 1, hi => absurd hi (by omega)
theorem k82 : CalleeOk Try.prog 82 c82 := callee_mk Try.func82 (code := codeOf Try.f82) (by kernel_rfl) vL82 mixed o82 fun x y h => (e82 x).trans (p82 _ x.1 x.2.1 x.2.2 y h)

/-- spec.plJob -/
def EL47 : Nat → Option Callee := addE 65 c65 (addE 82 c82 (addE 81 c81 env0))
theorem vL47 : EnvOk Try.prog EL47 := ((EnvOk.nil.add Try.func81 rfl (by kernel_rfl) k81).add Try.func82 rfl (by kernel_rfl) k82).add Try.func65 rfl (by kernel_rfl) k65
def spec_plJobK {R : Type} (fin : Bool → Option R) (x0 : DJob) : Option R :=
  (spec_clArcs x0.1).bind fun y1 =>
  cond (!y1)
  (fin false)
  (cond ((x0.2.1.length : Int) != (x0.1.length : Int))
    (fin false)
    (cond ((x0.2.2.1.length : Int) != (x0.1.length : Int))
      (fin false)
      ((spec_l1All x0.2.1 0 10000).bind fun y2 =>
        cond (!y2)
        (fin false)
        ((spec_l1All x0.2.2.1 (-1000000) 1000000).bind fun y3 =>
          cond (!y3)
          (fin false)
          ((spec_l1In x0.2.2.2.1.1 0 1000000).bind fun y4 =>
            cond (y4)
            ((spec_l1In x0.2.2.2.1.2.1 0 1000000).bind fun y5 =>
              cond (y5)
              ((spec_l1In x0.2.2.2.2.1 1 6).bind fun y6 =>
                cond (y6)
                ((spec_l1In x0.2.2.2.2.2.2.1 1 20).bind fun y7 =>
                  cond (y7)
                  ((spec_l1In x0.2.2.2.2.2.1 1 x0.2.2.2.2.2.2.1).bind fun y8 =>
                    fin y8)
                  (fin false))
                (fin false))
              (fin false))
            (fin false))))))
def spec_plJob (x0 : DJob) : Option (Bool) := spec_plJobK some x0
theorem p47 {R : Type} (fin : Bool → Option R) (x0 : DJob) : Par fin (spec_plJobK some x0) (spec_plJobK fin x0) := by
  unfold spec_plJobK
  repeat' (first | exact .fin | exact .none | refine .cond ?_ ?_ | refine .bind fun _ => ?_ | refine .sum (fun _ => ?_) fun _ => ?_)
def c47 : Callee := mkC [.agg [.ro TJob]] 1 [.one (.ro .bool)] fun x => spec_plJob x
theorem e47 (x : PK.dens [.agg [.ro TJob]]) : evalFn Try.prog EL47 or0 Try.f47 (PK.outs [.agg [.ro TJob]] x) =
    spec_plJobK (fun y => some (tupOf ((PK.outs [.one (.ro .bool)] y).take 1), (PK.outs [.one (.ro .bool)] y).drop 1)) x := by kernel_rfl
theorem k47 : CalleeOk Try.prog 47 c47 := callee_mk Try.func47 (code := codeOf Try.f47) (by kernel_rfl) vL47 mixed (LoOk.nil (by kernel_rfl)) fun x y h => (e47 x).trans (p47 _ x y h)

/-- spec.plGood -/
def EL68 : Nat → Option Callee := addE 82 c82 env0
theorem vL68 : EnvOk Try.prog EL68 := EnvOk.nil.add Try.func82 rfl (by kernel_rfl) k82
def spec_plGoodK {R : Type} (fin : Bool → Option R) (x0 : DJob) (x1 : DPlan) : Option R :=
  cond (x1.1 == x0.2.2.2.2.1)
  (cond ((x1.2.1.length : Int) == (x0.1.length : Int))
    ((spec_l1All x1.2.1 (-1) (IntKind.i64.wrap (x0.2.2.2.2.1 - 1))).bind fun y1 =>
      fin y1)
    (fin false))
  (fin false)
def spec_plGood (x0 : DJob) (x1 : DPlan) : Option (Bool) := spec_plGoodK some x0 x1
theorem p68 {R : Type} (fin : Bool → Option R) (x0 : DJob) (x1 : DPlan) : Par fin (spec_plGoodK some x0 x1) (spec_plGoodK fin x0 x1) := by
  unfold spec_plGoodK
  repeat' (first | exact .fin | exact .none | refine .cond ?_ ?_ | refine .bind fun _ => ?_ | refine .sum (fun _ => ?_) fun _ => ?_)
def c68 : Callee := mkC [.agg [.ro TJob], .agg [.ro TPlan]] 1 [.one (.ro .bool)] fun x => spec_plGood x.1 x.2
theorem e68 (x : PK.dens [.agg [.ro TJob], .agg [.ro TPlan]]) : evalFn Try.prog EL68 or0 Try.f68 (PK.outs [.agg [.ro TJob], .agg [.ro TPlan]] x) =
    spec_plGoodK (fun y => some (tupOf ((PK.outs [.one (.ro .bool)] y).take 1), (PK.outs [.one (.ro .bool)] y).drop 1)) x.1 x.2 := by kernel_rfl
theorem k68 : CalleeOk Try.prog 68 c68 := callee_mk Try.func68 (code := codeOf Try.f68) (by kernel_rfl) vL68 mixed (LoOk.nil (by kernel_rfl)) fun x y h => (e68 x).trans (p68 _ x.1 x.2 y h)

/-- spec.plBoth -/
def EL106 : Nat → Option Callee := addE 68 c68 (addE 47 c47 env0)
theorem vL106 : EnvOk Try.prog EL106 := (EnvOk.nil.add Try.func47 rfl (by kernel_rfl) k47).add Try.func68 rfl (by kernel_rfl) k68
def spec_plBothK {R : Type} (fin : Bool → Option R) (x0 : DJob) (x1 : DPlan) : Option R :=
  (spec_plJob x0).bind fun y1 =>
  cond (y1)
  ((spec_plGood x0 x1).bind fun y2 =>
    fin y2)
  (fin false)
def spec_plBoth (x0 : DJob) (x1 : DPlan) : Option (Bool) := spec_plBothK some x0 x1
theorem p106 {R : Type} (fin : Bool → Option R) (x0 : DJob) (x1 : DPlan) : Par fin (spec_plBothK some x0 x1) (spec_plBothK fin x0 x1) := by
  unfold spec_plBothK
  repeat' (first | exact .fin | exact .none | refine .cond ?_ ?_ | refine .bind fun _ => ?_ | refine .sum (fun _ => ?_) fun _ => ?_)
def c106 : Callee := mkC [.agg [.ro TJob], .agg [.ro TPlan]] 1 [.one (.ro .bool)] fun x => spec_plBoth x.1 x.2
theorem e106 (x : PK.dens [.agg [.ro TJob], .agg [.ro TPlan]]) : evalFn Try.prog EL106 or0 Try.f106 (PK.outs [.agg [.ro TJob], .agg [.ro TPlan]] x) =
    spec_plBothK (fun y => some (tupOf ((PK.outs [.one (.ro .bool)] y).take 1), (PK.outs [.one (.ro .bool)] y).drop 1)) x.1 x.2 := by kernel_rfl
theorem k106 : CalleeOk Try.prog 106 c106 := callee_mk Try.func106 (code := codeOf Try.f106) (by kernel_rfl) vL106 mixed (LoOk.nil (by kernel_rfl)) fun x y h => (e106 x).trans (p106 _ x.1 x.2 y h)
end
end Go.OAI
