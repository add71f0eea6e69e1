/- Contracts: GA. -/
import Derived.Test.YtaiopbdbnellhaaK3
import Derived.Test.YtaiopbdbnellhaaProg
namespace Go.OAI
open Go.Proofs
set_option linter.unusedVariables false
noncomputable section

@[reducible] def TLimits : Ty := .pair (.int .i64) (.pair (.int .i64) .unit)
abbrev DLimits : Type := Int × Int × Unit
@[reducible] def TJob : Ty := .pair (.slice (.slice (.int .i64))) (.pair (.slice (.int .i64)) (.pair (.slice (.int .i64)) (.pair TLimits (.pair (.int .i64) (.pair (.int .i64) (.pair (.int .i64) .unit))))))
abbrev DJob : Type := (List (List Int)) × (List Int) × (List Int) × DLimits × Int × Int × Int × Unit
@[reducible] def TPlan : Ty := .pair (.int .i64) (.pair (.slice (.int .i64)) .unit)
abbrev DPlan : Type := Int × (List Int) × Unit
def or0 : Ora := { lo := fun _ => none }
theorem mixed : Try.prog.follows .mixedOrders = true := by kernel_rfl

/-- laws.szIntS -/
def EL44 : Nat → Option Callee := env0
theorem vL44 : EnvOk Try.prog EL44 := EnvOk.nil
def laws_szIntSK {R : Type} (fin : Int → Option R) (x0 : List Int) (x1 : Int) : Option R :=
  cond (decide ((IntKind.i64.wrap (x1 - (x0.length : Int))) < 0))
  (fin (-1))
  (fin (IntKind.i64.wrap (x1 - (x0.length : Int))))
def laws_szIntS (x0 : List Int) (x1 : Int) : Option (Int) := laws_szIntSK some x0 x1
theorem p44 {R : Type} (fin : Int → Option R) (x0 : List Int) (x1 : Int) : Par fin (laws_szIntSK some x0 x1) (laws_szIntSK fin x0 x1) := by
  unfold laws_szIntSK
  repeat' (first | exact .fin | exact .none | refine .cond ?_ ?_ | refine .bind fun _ => ?_ | refine .sum (fun _ => ?_) fun _ => ?_)
def c44 : Callee := mkC [.one (.ro (.slice (.int .i64))), .one (.ro (.int .i64))] 1 [.one (.ro (.int .i64))] fun x => laws_szIntS x.1 x.2
theorem e44 (x : PK.dens [.one (.ro (.slice (.int .i64))), .one (.ro (.int .i64))]) : evalFn Try.prog EL44 or0 Try.f44 (PK.outs [.one (.ro (.slice (.int .i64))), .one (.ro (.int .i64))] x) =
    laws_szIntSK (fun y => some (tupOf ((PK.outs [.one (.ro (.int .i64))] y).take 1), (PK.outs [.one (.ro (.int .i64))] y).drop 1)) x.1 x.2 := by kernel_rfl
theorem k44 : CalleeOk Try.prog 44 c44 := callee_mk Try.func44 (code := codeOf Try.f44) (by kernel_rfl) vL44 mixed (LoOk.nil (by kernel_rfl)) fun x y h => (e44 x).trans (p44 _ x.1 x.2 y h)

/-- laws.szIntSS -/
def EL43 : Nat → Option Callee := addE 44 c44 env0
theorem vL43 : EnvOk Try.prog EL43 := EnvOk.nil.add Try.func44 rfl (by kernel_rfl) k44
def slaws_szIntSS_l0 : LS := ⟨[(0, .one (.dat (.slice (.slice (.int .i64))))), (1, .one (.dat (.int .i64))), (5, .one (.dat (.int .i64)))], [], []⟩
def slaws_szIntSS_l0x0 : LS := ⟨[(4, .one (.dat (.int .i64)))], [], []⟩
def slaws_szIntSS_l0x1 : LS := ⟨[(1, .one (.dat (.int .i64)))], [], []⟩
def xlaws_szIntSS_l0 : List (XS (List (List Int))) := [⟨.ret, ⟨[4], [], [], []⟩, slaws_szIntSS_l0x0, Int, fun i y => ((y, ()), ())⟩,
  ⟨.exit 0, ⟨[1], [], [], []⟩, slaws_szIntSS_l0x1, Int, fun i y => ((y, ()), ())⟩]
def laws_szIntSS_l0K {R : Type} (a0 : List (List Int)) (rc : Int → Int → Option R) (fin : (Int ⊕ Int) → Option R) (a1 : Int) (a2 : Int) : Option R :=
  cond (decide (a2 < (a0.length : Int)))
  ((lat a0 a2).bind fun e1 =>
    (laws_szIntS e1 a1).bind fun y2 =>
    cond (decide (y2 < 0))
    (fin (.inl (-1)))
    (rc y2 (IntKind.i64.wrap (a2 + 1))))
  (fin (.inr a1))
def laws_szIntSS_l0F (a0 : List (List Int)) (r : (Int × Int) → Option (Int ⊕ Int)) (x : Int × Int) : Option (Int ⊕ Int) := laws_szIntSS_l0K a0 (fun a1 a2 => r (a1, a2)) some x.1 x.2
theorem laws_szIntSS_l0c (a0 : List (List Int)) (x : Int × Int) : Ct fun r => laws_szIntSS_l0F a0 r x := by
  unfold laws_szIntSS_l0F laws_szIntSS_l0K
  repeat' (first | exact Ct.const | exact Ct.call | refine Ct.cond ?_ ?_ | refine Ct.bind ?_ fun _ => ?_ | refine Ct.sum (fun _ => ?_) fun _ => ?_)
def laws_szIntSS_l0 (a0 : List (List Int)) (a1 : Int) (a2 : Int) : Option (Int ⊕ Int) := lim (laws_szIntSS_l0F a0) (a1, a2)
theorem laws_szIntSS_l0_eq (a0 : List (List Int)) (a1 : Int) (a2 : Int) : laws_szIntSS_l0 a0 a1 a2 = laws_szIntSS_l0K a0 (laws_szIntSS_l0 a0) some a1 a2 := lim_eq (laws_szIntSS_l0c a0) (a1, a2)
theorem laws_szIntSS_l0p {R : Type} (a0 : List (List Int)) {rc : Int → Int → Option (Int ⊕ Int)} {rc' : Int → Int → Option R} {fin : (Int ⊕ Int) → Option R} (hr : ∀ a1 a2, Par fin (rc a1 a2) (rc' a1 a2)) (a1 : Int) (a2 : Int) : Par fin (laws_szIntSS_l0K a0 rc some a1 a2) (laws_szIntSS_l0K a0 rc' fin a1 a2) := by
  unfold laws_szIntSS_l0K
  repeat' (first | exact .fin | exact .none | exact hr _ _ | refine .cond ?_ ?_ | refine .bind fun _ => ?_ | refine .sum (fun _ => ?_) fun _ => ?_)
def Llaws_szIntSS_l0 : Loop := mkL ⟨[0, 1, 5], [], [], []⟩ slaws_szIntSS_l0 xlaws_szIntSS_l0 (fun (x : ((List (List Int)) × Int × Int × Unit) × (Unit)) => x.1.1) fun (x : ((List (List Int)) × Int × Int × Unit) × (Unit)) => laws_szIntSS_l0 x.1.1 x.1.2.1 x.1.2.2.1
def laws_szIntSSK {R : Type} (fin : Int → Option R) (x0 : List (List Int)) (x1 : Int) : Option R :=
  cond (decide ((IntKind.i64.wrap (x1 - (x0.length : Int))) < 0))
  (fin (-1))
  ((laws_szIntSS_l0 x0 (IntKind.i64.wrap (x1 - (x0.length : Int))) 0).bind fun y3 =>
    sumO y3 (fun y4 =>
    fin y4)
    (fun y5 =>
    fin y5))
def laws_szIntSS (x0 : List (List Int)) (x1 : Int) : Option (Int) := laws_szIntSSK some x0 x1
theorem p43 {R : Type} (fin : Int → Option R) (x0 : List (List Int)) (x1 : Int) : Par fin (laws_szIntSSK some x0 x1) (laws_szIntSSK fin x0 x1) := by
  unfold laws_szIntSSK
  repeat' (first | exact .fin | exact .none | refine .cond ?_ ?_ | refine .bind fun _ => ?_ | refine .sum (fun _ => ?_) fun _ => ?_)
def or43 : Ora := { lo := addL 5 (Llaws_szIntSS_l0) lo0, fin := [] }
theorem laws_szIntSS_l0e (a0 : List (List Int)) (k : Nat) (a1 : Int) (a2 : Int) : loopC Try.prog EL43 or43 ((loopsIn (codeOf Try.f43)).getD 0 .skip) (Llaws_szIntSS_l0).h (Llaws_szIntSS_l0).ho Try.f43.ntmps (k + 1) (slaws_szIntSS_l0.out ((a0, (a1, (a2, ()))), ())) =
    laws_szIntSS_l0K a0 (fun a1 a2 => loopC Try.prog EL43 or43 ((loopsIn (codeOf Try.f43)).getD 0 .skip) (Llaws_szIntSS_l0).h (Llaws_szIntSS_l0).ho Try.f43.ntmps k (slaws_szIntSS_l0.out ((a0, (a1, (a2, ()))), ()))) (fun y => some (XS.out xlaws_szIntSS_l0 a0 y)) a1 a2 := by kernel_rfl
theorem laws_szIntSS_l0o : LoopOk Try.prog EL43 or43 Try.f43.ntmps ((loopsIn (codeOf Try.f43)).getD 0 .skip) (Llaws_szIntSS_l0) :=
  loop_lim (hs := slaws_szIntSS_l0) (xs := xlaws_szIntSS_l0) (ι := fun (x : ((List (List Int)) × Int × Int × Unit) × (Unit)) => x.1.1) (φ := fun (x : ((List (List Int)) × Int × Int × Unit) × (Unit)) => (x.1.2.1, x.1.2.2.1)) (ψ := fun (i : List (List Int)) (v : Int × Int) => ((i, (v.1, (v.2, ()))), ())) (F := fun (i : List (List Int)) => laws_szIntSS_l0F i) (fun _ => rfl) fun i k hk v => Par.of_eq (laws_szIntSS_l0e i k v.1 v.2) (laws_szIntSS_l0p i (fun a1 a2 => hk (a1, a2)) v.1 v.2)
def c43 : Callee := mkC [.one (.ro (.slice (.slice (.int .i64)))), .one (.ro (.int .i64))] 1 [.one (.ro (.int .i64))] fun x => laws_szIntSS x.1 x.2
theorem e43 (x : PK.dens [.one (.ro (.slice (.slice (.int .i64)))), .one (.ro (.int .i64))]) : evalFn Try.prog EL43 or43 Try.f43 (PK.outs [.one (.ro (.slice (.slice (.int .i64)))), .one (.ro (.int .i64))] x) =
    laws_szIntSSK (fun y => some (tupOf ((PK.outs [.one (.ro (.int .i64))] y).take 1), (PK.outs [.one (.ro (.int .i64))] y).drop 1)) x.1 x.2 := by kernel_rfl
theorem o43 : LoOk Try.prog EL43 or43 Try.f43.ntmps (loopsIn (codeOf Try.f43)) :=
  LoOk.mk (m := 1) (by kernel_rfl) fun i hi => match i, hi with
    | 0, _ => ⟨Llaws_szIntSS_l0, by kernel_rfl, laws_szIntSS_l0o⟩
    | i + 1, hi => absurd hi (by omega)
theorem k43 : CalleeOk Try.prog 43 c43 := callee_mk Try.func43 (code := codeOf Try.f43) (by kernel_rfl) vL43 mixed o43 fun x y h => (e43 x).trans (p43 _ x.1 x.2 y h)

/-- laws.szJob -/
def EL13 : Nat → Option Callee := addE 44 c44 (addE 43 c43 env0)
theorem vL13 : EnvOk Try.prog EL13 := (EnvOk.nil.add Try.func43 rfl (by kernel_rfl) k43).add Try.func44 rfl (by kernel_rfl) k44
def laws_szJobK {R : Type} (fin : Int → Option R) (x0 : DJob) (x1 : Int) : Option R :=
  (laws_szIntSS x0.1 x1).bind fun y1 =>
  cond (decide (y1 < 0))
  (fin (-1))
  ((laws_szIntS x0.2.1 y1).bind fun y2 =>
    cond (decide (y2 < 0))
    (fin (-1))
    ((laws_szIntS x0.2.2.1 y2).bind fun y3 =>
      cond (decide (y3 < 0))
      (fin (-1))
      (fin y3)))
def laws_szJob (x0 : DJob) (x1 : Int) : Option (Int) := laws_szJobK some x0 x1
theorem p13 {R : Type} (fin : Int → Option R) (x0 : DJob) (x1 : Int) : Par fin (laws_szJobK some x0 x1) (laws_szJobK fin x0 x1) := by
  unfold laws_szJobK
  repeat' (first | exact .fin | exact .none | refine .cond ?_ ?_ | refine .bind fun _ => ?_ | refine .sum (fun _ => ?_) fun _ => ?_)
def c13 : Callee := mkC [.agg [.ro TJob], .one (.ro (.int .i64))] 1 [.one (.ro (.int .i64))] fun x => laws_szJob x.1 x.2
theorem e13 (x : PK.dens [.agg [.ro TJob], .one (.ro (.int .i64))]) : evalFn Try.prog EL13 or0 Try.f13 (PK.outs [.agg [.ro TJob], .one (.ro (.int .i64))] x) =
    laws_szJobK (fun y => some (tupOf ((PK.outs [.one (.ro (.int .i64))] y).take 1), (PK.outs [.one (.ro (.int .i64))] y).drop 1)) x.1 x.2 := by kernel_rfl
theorem k13 : CalleeOk Try.prog 13 c13 := callee_mk Try.func13 (code := codeOf Try.f13) (by kernel_rfl) vL13 mixed (LoOk.nil (by kernel_rfl)) fun x y h => (e13 x).trans (p13 _ x.1 x.2 y h)

/-- laws.szPlan -/
def EL20 : Nat → Option Callee := addE 44 c44 env0
theorem vL20 : EnvOk Try.prog EL20 := EnvOk.nil.add Try.func44 rfl (by kernel_rfl) k44
def laws_szPlanK {R : Type} (fin : Int → Option R) (x0 : DPlan) (x1 : Int) : Option R :=
  (laws_szIntS x0.2.1 x1).bind fun y1 =>
  cond (decide (y1 < 0))
  (fin (-1))
  (fin y1)
def laws_szPlan (x0 : DPlan) (x1 : Int) : Option (Int) := laws_szPlanK some x0 x1
theorem p20 {R : Type} (fin : Int → Option R) (x0 : DPlan) (x1 : Int) : Par fin (laws_szPlanK some x0 x1) (laws_szPlanK fin x0 x1) := by
  unfold laws_szPlanK
  repeat' (first | exact .fin | exact .none | refine .cond ?_ ?_ | refine .bind fun _ => ?_ | refine .sum (fun _ => ?_) fun _ => ?_)
def c20 : Callee := mkC [.agg [.ro TPlan], .one (.ro (.int .i64))] 1 [.one (.ro (.int .i64))] fun x => laws_szPlan x.1 x.2
theorem e20 (x : PK.dens [.agg [.ro TPlan], .one (.ro (.int .i64))]) : evalFn Try.prog EL20 or0 Try.f20 (PK.outs [.agg [.ro TPlan], .one (.ro (.int .i64))] x) =
    laws_szPlanK (fun y => some (tupOf ((PK.outs [.one (.ro (.int .i64))] y).take 1), (PK.outs [.one (.ro (.int .i64))] y).drop 1)) x.1 x.2 := by kernel_rfl
theorem k20 : CalleeOk Try.prog 20 c20 := callee_mk Try.func20 (code := codeOf Try.f20) (by kernel_rfl) vL20 mixed (LoOk.nil (by kernel_rfl)) fun x y h => (e20 x).trans (p20 _ x.1 x.2 y h)

/-- laws.toIntS -/
def EL47 : Nat → Option Callee := env0
theorem vL47 : EnvOk Try.prog EL47 := EnvOk.nil
def slaws_toIntS_l0 : LS := ⟨[(0, .one (.dat (.slice (.int .i64)))), (3, .one (.fix (.sref 0))), (4, .one (.dat (.int .i64)))], [.sl (.int .i64)], []⟩
def slaws_toIntS_l0x0 : LS := ⟨[(3, .one (.fix (.sref 0)))], [.sl (.int .i64)], []⟩
def xlaws_toIntS_l0 : List (XS (List Int)) := [⟨.exit 0, ⟨[3], [.slot 3], [], []⟩, slaws_toIntS_l0x0, List Int, fun i y => (((), ()), (y, ()))⟩]
def laws_toIntS_l0K {R : Type} (a0 : List Int) (rc : Int → List Int → Option R) (fin : List Int → Option R) (a1 : Int) (a2 : List Int) : Option R :=
  cond (decide (a1 < (a0.length : Int)))
  ((lat a0 a1).bind fun e1 =>
    cond (decide ((0 : Int) ≤ a1) && decide (a1 < (a2.length : Int)))
    ((some (a2.set (0 + a1.toNat) e1)).bind fun v2 =>
      rc (IntKind.i64.wrap (a1 + 1)) v2)
    (none))
  (fin a2)
def laws_toIntS_l0F (a0 : List Int) (r : (Int × (List Int)) → Option (List Int)) (x : Int × (List Int)) : Option (List Int) := laws_toIntS_l0K a0 (fun a1 a2 => r (a1, a2)) some x.1 x.2
theorem laws_toIntS_l0c (a0 : List Int) (x : Int × (List Int)) : Ct fun r => laws_toIntS_l0F a0 r x := by
  unfold laws_toIntS_l0F laws_toIntS_l0K
  repeat' (first | exact Ct.const | exact Ct.call | refine Ct.cond ?_ ?_ | refine Ct.bind ?_ fun _ => ?_ | refine Ct.sum (fun _ => ?_) fun _ => ?_)
def laws_toIntS_l0 (a0 : List Int) (a1 : Int) (a2 : List Int) : Option (List Int) := lim (laws_toIntS_l0F a0) (a1, a2)
theorem laws_toIntS_l0_eq (a0 : List Int) (a1 : Int) (a2 : List Int) : laws_toIntS_l0 a0 a1 a2 = laws_toIntS_l0K a0 (laws_toIntS_l0 a0) some a1 a2 := lim_eq (laws_toIntS_l0c a0) (a1, a2)
theorem laws_toIntS_l0p {R : Type} (a0 : List Int) {rc : Int → List Int → Option (List Int)} {rc' : Int → List Int → Option R} {fin : List Int → Option R} (hr : ∀ a1 a2, Par fin (rc a1 a2) (rc' a1 a2)) (a1 : Int) (a2 : List Int) : Par fin (laws_toIntS_l0K a0 rc some a1 a2) (laws_toIntS_l0K a0 rc' fin a1 a2) := by
  unfold laws_toIntS_l0K
  repeat' (first | exact .fin | exact .none | exact hr _ _ | refine .cond ?_ ?_ | refine .bind fun _ => ?_ | refine .sum (fun _ => ?_) fun _ => ?_)
def Llaws_toIntS_l0 : Loop := mkL ⟨[0, 3, 4], [.slot 3], [], []⟩ slaws_toIntS_l0 xlaws_toIntS_l0 (fun (x : ((List Int) × Unit × Int × Unit) × ((List Int) × Unit)) => x.1.1) fun (x : ((List Int) × Unit × Int × Unit) × ((List Int) × Unit)) => laws_toIntS_l0 x.1.1 x.1.2.2.1 x.2.1
def laws_toIntSK {R : Type} (fin : List Int → Option R) (x0 : List Int) : Option R :=
  cond (decide ((0 : Int) ≤ (x0.length : Int)) && (decide ((x0.length : Int) ≤ (x0.length : Int)) && decide ((x0.length : Int) ≤ 1099511627776)))
  ((some ((List.replicate ((x0.length : Int).toNat) 0 : List Int))).bind fun v1 =>
    (laws_toIntS_l0 x0 0 v1).bind fun y4 =>
    fin y4)
  (none)
def laws_toIntS (x0 : List Int) : Option (List Int) := laws_toIntSK some x0
theorem p47 {R : Type} (fin : List Int → Option R) (x0 : List Int) : Par fin (laws_toIntSK some x0) (laws_toIntSK fin x0) := by
  unfold laws_toIntSK
  repeat' (first | exact .fin | exact .none | refine .cond ?_ ?_ | refine .bind fun _ => ?_ | refine .sum (fun _ => ?_) fun _ => ?_)
def or47 : Ora := { lo := addL 3 (Llaws_toIntS_l0) lo0, fin := [] }
theorem laws_toIntS_l0e (a0 : List Int) (k : Nat) (a1 : Int) (a2 : List Int) : loopC Try.prog EL47 or47 ((loopsIn (codeOf Try.f47)).getD 0 .skip) (Llaws_toIntS_l0).h (Llaws_toIntS_l0).ho Try.f47.ntmps (k + 1) (slaws_toIntS_l0.out ((a0, ((), (a1, ()))), (a2, ()))) =
    laws_toIntS_l0K a0 (fun a1 a2 => loopC Try.prog EL47 or47 ((loopsIn (codeOf Try.f47)).getD 0 .skip) (Llaws_toIntS_l0).h (Llaws_toIntS_l0).ho Try.f47.ntmps k (slaws_toIntS_l0.out ((a0, ((), (a1, ()))), (a2, ())))) (fun y => some (XS.out xlaws_toIntS_l0 a0 y)) a1 a2 := by kernel_rfl
theorem laws_toIntS_l0o : LoopOk Try.prog EL47 or47 Try.f47.ntmps ((loopsIn (codeOf Try.f47)).getD 0 .skip) (Llaws_toIntS_l0) :=
  loop_lim (hs := slaws_toIntS_l0) (xs := xlaws_toIntS_l0) (ι := fun (x : ((List Int) × Unit × Int × Unit) × ((List Int) × Unit)) => x.1.1) (φ := fun (x : ((List Int) × Unit × Int × Unit) × ((List Int) × Unit)) => (x.1.2.2.1, x.2.1)) (ψ := fun (i : List Int) (v : Int × (List Int)) => ((i, ((), (v.1, ()))), (v.2, ()))) (F := fun (i : List Int) => laws_toIntS_l0F i) (fun _ => rfl) fun i k hk v => Par.of_eq (laws_toIntS_l0e i k v.1 v.2) (laws_toIntS_l0p i (fun a1 a2 => hk (a1, a2)) v.1 v.2)
def c47 : Callee := mkC [.one (.ro (.slice (.int .i64)))] 1 [.one (.sl (.int .i64))] fun x => laws_toIntS x
theorem e47 (x : PK.dens [.one (.ro (.slice (.int .i64)))]) : evalFn Try.prog EL47 or47 Try.f47 (PK.outs [.one (.ro (.slice (.int .i64)))] x) =
    laws_toIntSK (fun y => some (tupOf ((PK.outs [.one (.sl (.int .i64))] y).take 1), (PK.outs [.one (.sl (.int .i64))] y).drop 1)) x := by kernel_rfl
theorem o47 : LoOk Try.prog EL47 or47 Try.f47.ntmps (loopsIn (codeOf Try.f47)) :=
  LoOk.mk (m := 1) (by kernel_rfl) fun i hi => match i, hi with
    | 0, _ => ⟨Llaws_toIntS_l0, by kernel_rfl, laws_toIntS_l0o⟩
    | i + 1, hi => absurd hi (by omega)
theorem k47 : CalleeOk Try.prog 47 c47 := callee_mk Try.func47 (code := codeOf Try.f47) (by kernel_rfl) vL47 mixed o47 fun x y h => (e47 x).trans (p47 _ x y h)

/-- laws.toIntSS -/
def EL46 : Nat → Option Callee := addE 47 c47 env0
theorem vL46 : EnvOk Try.prog EL46 := EnvOk.nil.add Try.func47 rfl (by kernel_rfl) k47
def slaws_toIntSS_l0 : LS := ⟨[(0, .one (.dat (.slice (.slice (.int .i64))))), (3, .one (.fix (.sref 0))), (4, .one (.dat (.int .i64)))], [.mat (.int .i64)], []⟩
def slaws_toIntSS_l0x0 : LS := ⟨[(3, .one (.fix (.sref 0)))], [.mat (.int .i64)], []⟩
def xlaws_toIntSS_l0 : List (XS (List (List Int))) := [⟨.exit 0, ⟨[3], [.slot 3], [], []⟩, slaws_toIntSS_l0x0, List (List Int), fun i y => (((), ()), (y, ()))⟩]
def laws_toIntSS_l0K {R : Type} (a0 : List (List Int)) (rc : Int → List (List Int) → Option R) (fin : List (List Int) → Option R) (a1 : Int) (a2 : List (List Int)) : Option R :=
  cond (decide (a1 < (a0.length : Int)))
  ((lat a0 a1).bind fun e1 =>
    (laws_toIntS e1).bind fun y2 =>
    cond (decide ((0 : Int) ≤ a1) && decide (a1 < (a2.length : Int)))
    ((some (a2.set (0 + a1.toNat) y2)).bind fun v3 =>
      rc (IntKind.i64.wrap (a1 + 1)) v3)
    (none))
  (fin a2)
def laws_toIntSS_l0F (a0 : List (List Int)) (r : (Int × (List (List Int))) → Option (List (List Int))) (x : Int × (List (List Int))) : Option (List (List Int)) := laws_toIntSS_l0K a0 (fun a1 a2 => r (a1, a2)) some x.1 x.2
theorem laws_toIntSS_l0c (a0 : List (List Int)) (x : Int × (List (List Int))) : Ct fun r => laws_toIntSS_l0F a0 r x := by
  unfold laws_toIntSS_l0F laws_toIntSS_l0K
  repeat' (first | exact Ct.const | exact Ct.call | refine Ct.cond ?_ ?_ | refine Ct.bind ?_ fun _ => ?_ | refine Ct.sum (fun _ => ?_) fun _ => ?_)
def laws_toIntSS_l0 (a0 : List (List Int)) (a1 : Int) (a2 : List (List Int)) : Option (List (List Int)) := lim (laws_toIntSS_l0F a0) (a1, a2)
theorem laws_toIntSS_l0_eq (a0 : List (List Int)) (a1 : Int) (a2 : List (List Int)) : laws_toIntSS_l0 a0 a1 a2 = laws_toIntSS_l0K a0 (laws_toIntSS_l0 a0) some a1 a2 := lim_eq (laws_toIntSS_l0c a0) (a1, a2)
theorem laws_toIntSS_l0p {R : Type} (a0 : List (List Int)) {rc : Int → List (List Int) → Option (List (List Int))} {rc' : Int → List (List Int) → Option R} {fin : List (List Int) → Option R} (hr : ∀ a1 a2, Par fin (rc a1 a2) (rc' a1 a2)) (a1 : Int) (a2 : List (List Int)) : Par fin (laws_toIntSS_l0K a0 rc some a1 a2) (laws_toIntSS_l0K a0 rc' fin a1 a2) := by
  unfold laws_toIntSS_l0K
  repeat' (first | exact .fin | exact .none | exact hr _ _ | refine .cond ?_ ?_ | refine .bind fun _ => ?_ | refine .sum (fun _ => ?_) fun _ => ?_)
def Llaws_toIntSS_l0 : Loop := mkL ⟨[0, 3, 4], [.slot 3], [], []⟩ slaws_toIntSS_l0 xlaws_toIntSS_l0 (fun (x : ((List (List Int)) × Unit × Int × Unit) × ((List (List Int)) × Unit)) => x.1.1) fun (x : ((List (List Int)) × Unit × Int × Unit) × ((List (List Int)) × Unit)) => laws_toIntSS_l0 x.1.1 x.1.2.2.1 x.2.1
def laws_toIntSSK {R : Type} (fin : List (List Int) → Option R) (x0 : List (List Int)) : Option R :=
  cond (decide ((0 : Int) ≤ (x0.length : Int)) && (decide ((x0.length : Int) ≤ (x0.length : Int)) && decide ((x0.length : Int) ≤ 1099511627776)))
  ((some ((List.replicate ((x0.length : Int).toNat) [] : List (List Int)))).bind fun v1 =>
    (laws_toIntSS_l0 x0 0 v1).bind fun y5 =>
    fin y5)
  (none)
def laws_toIntSS (x0 : List (List Int)) : Option (List (List Int)) := laws_toIntSSK some x0
theorem p46 {R : Type} (fin : List (List Int) → Option R) (x0 : List (List Int)) : Par fin (laws_toIntSSK some x0) (laws_toIntSSK fin x0) := by
  unfold laws_toIntSSK
  repeat' (first | exact .fin | exact .none | refine .cond ?_ ?_ | refine .bind fun _ => ?_ | refine .sum (fun _ => ?_) fun _ => ?_)
def or46 : Ora := { lo := addL 3 (Llaws_toIntSS_l0) lo0, fin := [] }
theorem laws_toIntSS_l0e (a0 : List (List Int)) (k : Nat) (a1 : Int) (a2 : List (List Int)) : loopC Try.prog EL46 or46 ((loopsIn (codeOf Try.f46)).getD 0 .skip) (Llaws_toIntSS_l0).h (Llaws_toIntSS_l0).ho Try.f46.ntmps (k + 1) (slaws_toIntSS_l0.out ((a0, ((), (a1, ()))), (a2, ()))) =
    laws_toIntSS_l0K a0 (fun a1 a2 => loopC Try.prog EL46 or46 ((loopsIn (codeOf Try.f46)).getD 0 .skip) (Llaws_toIntSS_l0).h (Llaws_toIntSS_l0).ho Try.f46.ntmps k (slaws_toIntSS_l0.out ((a0, ((), (a1, ()))), (a2, ())))) (fun y => some (XS.out xlaws_toIntSS_l0 a0 y)) a1 a2 := by kernel_rfl
theorem laws_toIntSS_l0o : LoopOk Try.prog EL46 or46 Try.f46.ntmps ((loopsIn (codeOf Try.f46)).getD 0 .skip) (Llaws_toIntSS_l0) :=
  loop_lim (hs := slaws_toIntSS_l0) (xs := xlaws_toIntSS_l0) (ι := fun (x : ((List (List Int)) × Unit × Int × Unit) × ((List (List Int)) × Unit)) => x.1.1) (φ := fun (x : ((List (List Int)) × Unit × Int × Unit) × ((List (List Int)) × Unit)) => (x.1.2.2.1, x.2.1)) (ψ := fun (i : List (List Int)) (v : Int × (List (List Int))) => ((i, ((), (v.1, ()))), (v.2, ()))) (F := fun (i : List (List Int)) => laws_toIntSS_l0F i) (fun _ => rfl) fun i k hk v => Par.of_eq (laws_toIntSS_l0e i k v.1 v.2) (laws_toIntSS_l0p i (fun a1 a2 => hk (a1, a2)) v.1 v.2)
def c46 : Callee := mkC [.one (.ro (.slice (.slice (.int .i64))))] 1 [.one (.mat (.int .i64))] fun x => laws_toIntSS x
theorem e46 (x : PK.dens [.one (.ro (.slice (.slice (.int .i64))))]) : evalFn Try.prog EL46 or46 Try.f46 (PK.outs [.one (.ro (.slice (.slice (.int .i64))))] x) =
    laws_toIntSSK (fun y => some (tupOf ((PK.outs [.one (.mat (.int .i64))] y).take 1), (PK.outs [.one (.mat (.int .i64))] y).drop 1)) x := by kernel_rfl
theorem o46 : LoOk Try.prog EL46 or46 Try.f46.ntmps (loopsIn (codeOf Try.f46)) :=
  LoOk.mk (m := 1) (by kernel_rfl) fun i hi => match i, hi with
    | 0, _ => ⟨Llaws_toIntSS_l0, by kernel_rfl, laws_toIntSS_l0o⟩
    | i + 1, hi => absurd hi (by omega)
theorem k46 : CalleeOk Try.prog 46 c46 := callee_mk Try.func46 (code := codeOf Try.f46) (by kernel_rfl) vL46 mixed o46 fun x y h => (e46 x).trans (p46 _ x y h)

/-- laws.toLimits -/
def EL48 : Nat → Option Callee := env0
theorem vL48 : EnvOk Try.prog EL48 := EnvOk.nil
def laws_toLimitsK {R : Type} (fin : DLimits → Option R) (x0 : DLimits) : Option R :=
  fin x0
def laws_toLimits (x0 : DLimits) : Option (DLimits) := laws_toLimitsK some x0
theorem p48 {R : Type} (fin : DLimits → Option R) (x0 : DLimits) : Par fin (laws_toLimitsK some x0) (laws_toLimitsK fin x0) := by
  unfold laws_toLimitsK
  repeat' (first | exact .fin | exact .none | refine .cond ?_ ?_ | refine .bind fun _ => ?_ | refine .sum (fun _ => ?_) fun _ => ?_)
def c48 : Callee := mkC [.agg [.ro TLimits]] 1 [.agg [.ro TLimits]] fun x => laws_toLimits x
theorem e48 (x : PK.dens [.agg [.ro TLimits]]) : evalFn Try.prog EL48 or0 Try.f48 (PK.outs [.agg [.ro TLimits]] x) =
    laws_toLimitsK (fun y => some (tupOf ((PK.outs [.agg [.ro TLimits]] y).take 1), (PK.outs [.agg [.ro TLimits]] y).drop 1)) x := by kernel_rfl
theorem k48 : CalleeOk Try.prog 48 c48 := callee_mk Try.func48 (code := codeOf Try.f48) (by kernel_rfl) vL48 mixed (LoOk.nil (by kernel_rfl)) fun x y h => (e48 x).trans (p48 _ x y h)

/-- laws.toJob -/
def EL15 : Nat → Option Callee := addE 48 c48 (addE 47 c47 (addE 46 c46 env0))
theorem vL15 : EnvOk Try.prog EL15 := ((EnvOk.nil.add Try.func46 rfl (by kernel_rfl) k46).add Try.func47 rfl (by kernel_rfl) k47).add Try.func48 rfl (by kernel_rfl) k48
def laws_toJobK {R : Type} (fin : (List (List Int)) × (List Int) × (List Int) × Int × Int × Int × Int × Int → Option R) (x0 : DJob) : Option R :=
  (laws_toIntSS x0.1).bind fun y1 =>
  (laws_toIntS x0.2.1).bind fun y2 =>
  (laws_toIntS x0.2.2.1).bind fun y3 =>
  (laws_toLimits x0.2.2.2.1).bind fun y4 =>
  fin (y1, (y2, (y3, (y4.1, (y4.2.1, (x0.2.2.2.2.1, (x0.2.2.2.2.2.1, x0.2.2.2.2.2.2.1)))))))
def laws_toJob (x0 : DJob) : Option ((List (List Int)) × (List Int) × (List Int) × Int × Int × Int × Int × Int) := laws_toJobK some x0
theorem p15 {R : Type} (fin : (List (List Int)) × (List Int) × (List Int) × Int × Int × Int × Int × Int → Option R) (x0 : DJob) : Par fin (laws_toJobK some x0) (laws_toJobK fin x0) := by
  unfold laws_toJobK
  repeat' (first | exact .fin | exact .none | refine .cond ?_ ?_ | refine .bind fun _ => ?_ | refine .sum (fun _ => ?_) fun _ => ?_)
def c15 : Callee := mkC [.agg [.ro TJob]] 1 [.agg [.mat (.int .i64), .sl (.int .i64), .sl (.int .i64), .ro (.int .i64), .ro (.int .i64), .ro (.int .i64), .ro (.int .i64), .ro (.int .i64)]] fun x => laws_toJob x
theorem e15 (x : PK.dens [.agg [.ro TJob]]) : evalFn Try.prog EL15 or0 Try.f15 (PK.outs [.agg [.ro TJob]] x) =
    laws_toJobK (fun y => some (tupOf ((PK.outs [.agg [.mat (.int .i64), .sl (.int .i64), .sl (.int .i64), .ro (.int .i64), .ro (.int .i64), .ro (.int .i64), .ro (.int .i64), .ro (.int .i64)]] y).take 1), (PK.outs [.agg [.mat (.int .i64), .sl (.int .i64), .sl (.int .i64), .ro (.int .i64), .ro (.int .i64), .ro (.int .i64), .ro (.int .i64), .ro (.int .i64)]] y).drop 1)) x := by kernel_rfl
theorem k15 : CalleeOk Try.prog 15 c15 := callee_mk Try.func15 (code := codeOf Try.f15) (by kernel_rfl) vL15 mixed (LoOk.nil (by kernel_rfl)) fun x y h => (e15 x).trans (p15 _ x y h)

/-- laws.toPlan -/
def EL22 : Nat → Option Callee := addE 47 c47 env0
theorem vL22 : EnvOk Try.prog EL22 := EnvOk.nil.add Try.func47 rfl (by kernel_rfl) k47
def laws_toPlanK {R : Type} (fin : Int × (List Int) → Option R) (x0 : DPlan) : Option R :=
  (laws_toIntS x0.2.1).bind fun y1 =>
  fin (x0.1, y1)
def laws_toPlan (x0 : DPlan) : Option (Int × (List Int)) := laws_toPlanK some x0
theorem p22 {R : Type} (fin : Int × (List Int) → Option R) (x0 : DPlan) : Par fin (laws_toPlanK some x0) (laws_toPlanK fin x0) := by
  unfold laws_toPlanK
  repeat' (first | exact .fin | exact .none | refine .cond ?_ ?_ | refine .bind fun _ => ?_ | refine .sum (fun _ => ?_) fun _ => ?_)
def c22 : Callee := mkC [.agg [.ro TPlan]] 1 [.agg [.ro (.int .i64), .sl (.int .i64)]] fun x => laws_toPlan x
theorem e22 (x : PK.dens [.agg [.ro TPlan]]) : evalFn Try.prog EL22 or0 Try.f22 (PK.outs [.agg [.ro TPlan]] x) =
    laws_toPlanK (fun y => some (tupOf ((PK.outs [.agg [.ro (.int .i64), .sl (.int .i64)]] y).take 1), (PK.outs [.agg [.ro (.int .i64), .sl (.int .i64)]] y).drop 1)) x := by kernel_rfl
theorem k22 : CalleeOk Try.prog 22 c22 := callee_mk Try.func22 (code := codeOf Try.f22) (by kernel_rfl) vL22 mixed (LoOk.nil (by kernel_rfl)) fun x y h => (e22 x).trans (p22 _ x y h)

/-- laws.eqIntS -/
def EL51 : Nat → Option Callee := env0
theorem vL51 : EnvOk Try.prog EL51 := EnvOk.nil
def slaws_eqIntS_l0 : LS := ⟨[(0, .one (.dat (.slice (.int .i64)))), (1, .one (.dat (.slice (.int .i64)))), (5, .one (.dat (.int .i64)))], [], []⟩
def slaws_eqIntS_l0x0 : LS := ⟨[(4, .one (.dat .bool))], [], []⟩
def slaws_eqIntS_l0x1 : LS := ⟨[], [], []⟩
def xlaws_eqIntS_l0 : List (XS ((List Int) × (List Int))) := [⟨.ret, ⟨[4], [], [], []⟩, slaws_eqIntS_l0x0, Bool, fun i y => ((y, ()), ())⟩,
  ⟨.exit 0, ⟨[], [], [], []⟩, slaws_eqIntS_l0x1, Unit, fun i y => ((), ())⟩]
def laws_eqIntS_l0K {R : Type} (a0 : List Int) (a1 : List Int) (rc : Int → Option R) (fin : (Bool ⊕ Unit) → Option R) (a2 : Int) : Option R :=
  cond (decide (a2 < (a0.length : Int)))
  ((lat a0 a2).bind fun e1 =>
    (lat a1 a2).bind fun e2 =>
    cond (e1 != e2)
    (fin (.inl false))
    (rc (IntKind.i64.wrap (a2 + 1))))
  (fin (.inr ()))
def laws_eqIntS_l0F (a0 : List Int) (a1 : List Int) (r : Int → Option (Bool ⊕ Unit)) (x : Int) : Option (Bool ⊕ Unit) := laws_eqIntS_l0K a0 a1 (fun a2 => r a2) some x
theorem laws_eqIntS_l0c (a0 : List Int) (a1 : List Int) (x : Int) : Ct fun r => laws_eqIntS_l0F a0 a1 r x := by
  unfold laws_eqIntS_l0F laws_eqIntS_l0K
  repeat' (first | exact Ct.const | exact Ct.call | refine Ct.cond ?_ ?_ | refine Ct.bind ?_ fun _ => ?_ | refine Ct.sum (fun _ => ?_) fun _ => ?_)
def laws_eqIntS_l0 (a0 : List Int) (a1 : List Int) (a2 : Int) : Option (Bool ⊕ Unit) := lim (laws_eqIntS_l0F a0 a1) a2
theorem laws_eqIntS_l0_eq (a0 : List Int) (a1 : List Int) (a2 : Int) : laws_eqIntS_l0 a0 a1 a2 = laws_eqIntS_l0K a0 a1 (laws_eqIntS_l0 a0 a1) some a2 := lim_eq (laws_eqIntS_l0c a0 a1) a2
theorem laws_eqIntS_l0p {R : Type} (a0 : List Int) (a1 : List Int) {rc : Int → Option (Bool ⊕ Unit)} {rc' : Int → Option R} {fin : (Bool ⊕ Unit) → Option R} (hr : ∀ a2, Par fin (rc a2) (rc' a2)) (a2 : Int) : Par fin (laws_eqIntS_l0K a0 a1 rc some a2) (laws_eqIntS_l0K a0 a1 rc' fin a2) := by
  unfold laws_eqIntS_l0K
  repeat' (first | exact .fin | exact .none | exact hr _ | refine .cond ?_ ?_ | refine .bind fun _ => ?_ | refine .sum (fun _ => ?_) fun _ => ?_)
def Llaws_eqIntS_l0 : Loop := mkL ⟨[0, 1, 5], [], [], []⟩ slaws_eqIntS_l0 xlaws_eqIntS_l0 (fun (x : ((List Int) × (List Int) × Int × Unit) × (Unit)) => (x.1.1, x.1.2.1)) fun (x : ((List Int) × (List Int) × Int × Unit) × (Unit)) => laws_eqIntS_l0 x.1.1 x.1.2.1 x.1.2.2.1
def laws_eqIntSK {R : Type} (fin : Bool → Option R) (x0 : List Int) (x1 : List Int) : Option R :=
  cond ((x0.length : Int) != (x1.length : Int))
  (fin false)
  ((laws_eqIntS_l0 x0 x1 0).bind fun y3 =>
    sumO y3 (fun y4 =>
    fin y4)
    (fun y5 =>
    fin true))
def laws_eqIntS (x0 : List Int) (x1 : List Int) : Option (Bool) := laws_eqIntSK some x0 x1
theorem p51 {R : Type} (fin : Bool → Option R) (x0 : List Int) (x1 : List Int) : Par fin (laws_eqIntSK some x0 x1) (laws_eqIntSK fin x0 x1) := by
  unfold laws_eqIntSK
  repeat' (first | exact .fin | exact .none | refine .cond ?_ ?_ | refine .bind fun _ => ?_ | refine .sum (fun _ => ?_) fun _ => ?_)
def or51 : Ora := { lo := addL 4 (Llaws_eqIntS_l0) lo0, fin := [] }
theorem laws_eqIntS_l0e (a0 : List Int) (a1 : List Int) (k : Nat) (a2 : Int) : loopC Try.prog EL51 or51 ((loopsIn (codeOf Try.f51)).getD 0 .skip) (Llaws_eqIntS_l0).h (Llaws_eqIntS_l0).ho Try.f51.ntmps (k + 1) (slaws_eqIntS_l0.out ((a0, (a1, (a2, ()))), ())) =
    laws_eqIntS_l0K a0 a1 (fun a2 => loopC Try.prog EL51 or51 ((loopsIn (codeOf Try.f51)).getD 0 .skip) (Llaws_eqIntS_l0).h (Llaws_eqIntS_l0).ho Try.f51.ntmps k (slaws_eqIntS_l0.out ((a0, (a1, (a2, ()))), ()))) (fun y => some (XS.out xlaws_eqIntS_l0 (a0, a1) y)) a2 := by kernel_rfl
theorem laws_eqIntS_l0o : LoopOk Try.prog EL51 or51 Try.f51.ntmps ((loopsIn (codeOf Try.f51)).getD 0 .skip) (Llaws_eqIntS_l0) :=
  loop_lim (hs := slaws_eqIntS_l0) (xs := xlaws_eqIntS_l0) (ι := fun (x : ((List Int) × (List Int) × Int × Unit) × (Unit)) => (x.1.1, x.1.2.1)) (φ := fun (x : ((List Int) × (List Int) × Int × Unit) × (Unit)) => x.1.2.2.1) (ψ := fun (i : (List Int) × (List Int)) (v : Int) => ((i.1, (i.2, (v, ()))), ())) (F := fun (i : (List Int) × (List Int)) => laws_eqIntS_l0F i.1 i.2) (fun _ => rfl) fun i k hk v => Par.of_eq (laws_eqIntS_l0e i.1 i.2 k v) (laws_eqIntS_l0p i.1 i.2 (fun a2 => hk a2) v)
def c51 : Callee := mkC [.one (.ro (.slice (.int .i64))), .one (.ro (.slice (.int .i64)))] 1 [.one (.ro .bool)] fun x => laws_eqIntS x.1 x.2
theorem e51 (x : PK.dens [.one (.ro (.slice (.int .i64))), .one (.ro (.slice (.int .i64)))]) : evalFn Try.prog EL51 or51 Try.f51 (PK.outs [.one (.ro (.slice (.int .i64))), .one (.ro (.slice (.int .i64)))] x) =
    laws_eqIntSK (fun y => some (tupOf ((PK.outs [.one (.ro .bool)] y).take 1), (PK.outs [.one (.ro .bool)] y).drop 1)) x.1 x.2 := by kernel_rfl
theorem o51 : LoOk Try.prog EL51 or51 Try.f51.ntmps (loopsIn (codeOf Try.f51)) :=
  LoOk.mk (m := 1) (by kernel_rfl) fun i hi => match i, hi with
    | 0, _ => ⟨Llaws_eqIntS_l0, by kernel_rfl, laws_eqIntS_l0o⟩
    | i + 1, hi => absurd hi (by omega)
theorem k51 : CalleeOk Try.prog 51 c51 := callee_mk Try.func51 (code := codeOf Try.f51) (by kernel_rfl) vL51 mixed o51 fun x y h => (e51 x).trans (p51 _ x.1 x.2 y h)

/-- laws.eqIntSS -/
def EL50 : Nat → Option Callee := addE 51 c51 env0
theorem vL50 : EnvOk Try.prog EL50 := EnvOk.nil.add Try.func51 rfl (by kernel_rfl) k51
def slaws_eqIntSS_l0 : LS := ⟨[(0, .one (.dat (.slice (.slice (.int .i64))))), (1, .one (.dat (.slice (.slice (.int .i64))))), (5, .one (.dat (.int .i64)))], [], []⟩
def slaws_eqIntSS_l0x0 : LS := ⟨[(4, .one (.dat .bool))], [], []⟩
def slaws_eqIntSS_l0x1 : LS := ⟨[], [], []⟩
def xlaws_eqIntSS_l0 : List (XS ((List (List Int)) × (List (List Int)))) := [⟨.ret, ⟨[4], [], [], []⟩, slaws_eqIntSS_l0x0, Bool, fun i y => ((y, ()), ())⟩,
  ⟨.exit 0, ⟨[], [], [], []⟩, slaws_eqIntSS_l0x1, Unit, fun i y => ((), ())⟩]
def laws_eqIntSS_l0K {R : Type} (a0 : List (List Int)) (a1 : List (List Int)) (rc : Int → Option R) (fin : (Bool ⊕ Unit) → Option R) (a2 : Int) : Option R :=
  cond (decide (a2 < (a0.length : Int)))
  ((lat a0 a2).bind fun e1 =>
    (lat a1 a2).bind fun e2 =>
    (laws_eqIntS e1 e2).bind fun y3 =>
    cond (!y3)
    (fin (.inl false))
    (rc (IntKind.i64.wrap (a2 + 1))))
  (fin (.inr ()))
def laws_eqIntSS_l0F (a0 : List (List Int)) (a1 : List (List Int)) (r : Int → Option (Bool ⊕ Unit)) (x : Int) : Option (Bool ⊕ Unit) := laws_eqIntSS_l0K a0 a1 (fun a2 => r a2) some x
theorem laws_eqIntSS_l0c (a0 : List (List Int)) (a1 : List (List Int)) (x : Int) : Ct fun r => laws_eqIntSS_l0F a0 a1 r x := by
  unfold laws_eqIntSS_l0F laws_eqIntSS_l0K
  repeat' (first | exact Ct.const | exact Ct.call | refine Ct.cond ?_ ?_ | refine Ct.bind ?_ fun _ => ?_ | refine Ct.sum (fun _ => ?_) fun _ => ?_)
def laws_eqIntSS_l0 (a0 : List (List Int)) (a1 : List (List Int)) (a2 : Int) : Option (Bool ⊕ Unit) := lim (laws_eqIntSS_l0F a0 a1) a2
theorem laws_eqIntSS_l0_eq (a0 : List (List Int)) (a1 : List (List Int)) (a2 : Int) : laws_eqIntSS_l0 a0 a1 a2 = laws_eqIntSS_l0K a0 a1 (laws_eqIntSS_l0 a0 a1) some a2 := lim_eq (laws_eqIntSS_l0c a0 a1) a2
theorem laws_eqIntSS_l0p {R : Type} (a0 : List (List Int)) (a1 : List (List Int)) {rc : Int → Option (Bool ⊕ Unit)} {rc' : Int → Option R} {fin : (Bool ⊕ Unit) → Option R} (hr : ∀ a2, Par fin (rc a2) (rc' a2)) (a2 : Int) : Par fin (laws_eqIntSS_l0K a0 a1 rc some a2) (laws_eqIntSS_l0K a0 a1 rc' fin a2) := by
  unfold laws_eqIntSS_l0K
  repeat' (first | exact .fin | exact .none | exact hr _ | refine .cond ?_ ?_ | refine .bind fun _ => ?_ | refine .sum (fun _ => ?_) fun _ => ?_)
def Llaws_eqIntSS_l0 : Loop := mkL ⟨[0, 1, 5], [], [], []⟩ slaws_eqIntSS_l0 xlaws_eqIntSS_l0 (fun (x : ((List (List Int)) × (List (List Int)) × Int × Unit) × (Unit)) => (x.1.1, x.1.2.1)) fun (x : ((List (List Int)) × (List (List Int)) × Int × Unit) × (Unit)) => laws_eqIntSS_l0 x.1.1 x.1.2.1 x.1.2.2.1
def laws_eqIntSSK {R : Type} (fin : Bool → Option R) (x0 : List (List Int)) (x1 : List (List Int)) : Option R :=
  cond ((x0.length : Int) != (x1.length : Int))
  (fin false)
  ((laws_eqIntSS_l0 x0 x1 0).bind fun y4 =>
    sumO y4 (fun y5 =>
    fin y5)
    (fun y6 =>
    fin true))
def laws_eqIntSS (x0 : List (List Int)) (x1 : List (List Int)) : Option (Bool) := laws_eqIntSSK some x0 x1
theorem p50 {R : Type} (fin : Bool → Option R) (x0 : List (List Int)) (x1 : List (List Int)) : Par fin (laws_eqIntSSK some x0 x1) (laws_eqIntSSK fin x0 x1) := by
  unfold laws_eqIntSSK
  repeat' (first | exact .fin | exact .none | refine .cond ?_ ?_ | refine .bind fun _ => ?_ | refine .sum (fun _ => ?_) fun _ => ?_)
def or50 : Ora := { lo := addL 4 (Llaws_eqIntSS_l0) lo0, fin := [] }
theorem laws_eqIntSS_l0e (a0 : List (List Int)) (a1 : List (List Int)) (k : Nat) (a2 : Int) : loopC Try.prog EL50 or50 ((loopsIn (codeOf Try.f50)).getD 0 .skip) (Llaws_eqIntSS_l0).h (Llaws_eqIntSS_l0).ho Try.f50.ntmps (k + 1) (slaws_eqIntSS_l0.out ((a0, (a1, (a2, ()))), ())) =
    laws_eqIntSS_l0K a0 a1 (fun a2 => loopC Try.prog EL50 or50 ((loopsIn (codeOf Try.f50)).getD 0 .skip) (Llaws_eqIntSS_l0).h (Llaws_eqIntSS_l0).ho Try.f50.ntmps k (slaws_eqIntSS_l0.out ((a0, (a1, (a2, ()))), ()))) (fun y => some (XS.out xlaws_eqIntSS_l0 (a0, a1) y)) a2 := by kernel_rfl
theorem laws_eqIntSS_l0o : LoopOk Try.prog EL50 or50 Try.f50.ntmps ((loopsIn (codeOf Try.f50)).getD 0 .skip) (Llaws_eqIntSS_l0) :=
  loop_lim (hs := slaws_eqIntSS_l0) (xs := xlaws_eqIntSS_l0) (ι := fun (x : ((List (List Int)) × (List (List Int)) × Int × Unit) × (Unit)) => (x.1.1, x.1.2.1)) (φ := fun (x : ((List (List Int)) × (List (List Int)) × Int × Unit) × (Unit)) => x.1.2.2.1) (ψ := fun (i : (List (List Int)) × (List (List Int))) (v : Int) => ((i.1, (i.2, (v, ()))), ())) (F := fun (i : (List (List Int)) × (List (List Int))) => laws_eqIntSS_l0F i.1 i.2) (fun _ => rfl) fun i k hk v => Par.of_eq (laws_eqIntSS_l0e i.1 i.2 k v) (laws_eqIntSS_l0p i.1 i.2 (fun a2 => hk a2) v)
def c50 : Callee := mkC [.one (.ro (.slice (.slice (.int .i64)))), .one (.ro (.slice (.slice (.int .i64))))] 1 [.one (.ro .bool)] fun x => laws_eqIntSS x.1 x.2
theorem e50 (x : PK.dens [.one (.ro (.slice (.slice (.int .i64)))), .one (.ro (.slice (.slice (.int .i64))))]) : evalFn Try.prog EL50 or50 Try.f50 (PK.outs [.one (.ro (.slice (.slice (.int .i64)))), .one (.ro (.slice (.slice (.int .i64))))] x) =
    laws_eqIntSSK (fun y => some (tupOf ((PK.outs [.one (.ro .bool)] y).take 1), (PK.outs [.one (.ro .bool)] y).drop 1)) x.1 x.2 := by kernel_rfl
theorem o50 : LoOk Try.prog EL50 or50 Try.f50.ntmps (loopsIn (codeOf Try.f50)) :=
  LoOk.mk (m := 1) (by kernel_rfl) fun i hi => match i, hi with
    | 0, _ => ⟨Llaws_eqIntSS_l0, by kernel_rfl, laws_eqIntSS_l0o⟩
    | i + 1, hi => absurd hi (by omega)
theorem k50 : CalleeOk Try.prog 50 c50 := callee_mk Try.func50 (code := codeOf Try.f50) (by kernel_rfl) vL50 mixed o50 fun x y h => (e50 x).trans (p50 _ x.1 x.2 y h)

/-- laws.eqLimits -/
def EL52 : Nat → Option Callee := env0
theorem vL52 : EnvOk Try.prog EL52 := EnvOk.nil
def laws_eqLimitsK {R : Type} (fin : Bool → Option R) (x0 : DLimits) (x1 : DLimits) : Option R :=
  cond (x0.1 != x1.1)
  (fin false)
  (cond (x0.2.1 != x1.2.1)
    (fin false)
    (fin true))
def laws_eqLimits (x0 : DLimits) (x1 : DLimits) : Option (Bool) := laws_eqLimitsK some x0 x1
theorem p52 {R : Type} (fin : Bool → Option R) (x0 : DLimits) (x1 : DLimits) : Par fin (laws_eqLimitsK some x0 x1) (laws_eqLimitsK fin x0 x1) := by
  unfold laws_eqLimitsK
  repeat' (first | exact .fin | exact .none | refine .cond ?_ ?_ | refine .bind fun _ => ?_ | refine .sum (fun _ => ?_) fun _ => ?_)
def c52 : Callee := mkC [.agg [.ro TLimits], .agg [.ro TLimits]] 1 [.one (.ro .bool)] fun x => laws_eqLimits x.1 x.2
theorem e52 (x : PK.dens [.agg [.ro TLimits], .agg [.ro TLimits]]) : evalFn Try.prog EL52 or0 Try.f52 (PK.outs [.agg [.ro TLimits], .agg [.ro TLimits]] x) =
    laws_eqLimitsK (fun y => some (tupOf ((PK.outs [.one (.ro .bool)] y).take 1), (PK.outs [.one (.ro .bool)] y).drop 1)) x.1 x.2 := by kernel_rfl
theorem k52 : CalleeOk Try.prog 52 c52 := callee_mk Try.func52 (code := codeOf Try.f52) (by kernel_rfl) vL52 mixed (LoOk.nil (by kernel_rfl)) fun x y h => (e52 x).trans (p52 _ x.1 x.2 y h)

/-- laws.eqJob -/
def EL17 : Nat → Option Callee := addE 52 c52 (addE 51 c51 (addE 50 c50 env0))
theorem vL17 : EnvOk Try.prog EL17 := ((EnvOk.nil.add Try.func50 rfl (by kernel_rfl) k50).add Try.func51 rfl (by kernel_rfl) k51).add Try.func52 rfl (by kernel_rfl) k52
def laws_eqJobK {R : Type} (fin : Bool → Option R) (x0 : DJob) (x1 : DJob) : Option R :=
  (laws_eqIntSS x0.1 x1.1).bind fun y1 =>
  cond (!y1)
  (fin false)
  ((laws_eqIntS x0.2.1 x1.2.1).bind fun y2 =>
    cond (!y2)
    (fin false)
    ((laws_eqIntS x0.2.2.1 x1.2.2.1).bind fun y3 =>
      cond (!y3)
      (fin false)
      ((laws_eqLimits x0.2.2.2.1 x1.2.2.2.1).bind fun y4 =>
        cond (!y4)
        (fin false)
        (cond (x0.2.2.2.2.1 != x1.2.2.2.2.1)
          (fin false)
          (cond (x0.2.2.2.2.2.1 != x1.2.2.2.2.2.1)
            (fin false)
            (cond (x0.2.2.2.2.2.2.1 != x1.2.2.2.2.2.2.1)
              (fin false)
              (fin true)))))))
def laws_eqJob (x0 : DJob) (x1 : DJob) : Option (Bool) := laws_eqJobK some x0 x1
theorem p17 {R : Type} (fin : Bool → Option R) (x0 : DJob) (x1 : DJob) : Par fin (laws_eqJobK some x0 x1) (laws_eqJobK fin x0 x1) := by
  unfold laws_eqJobK
  repeat' (first | exact .fin | exact .none | refine .cond ?_ ?_ | refine .bind fun _ => ?_ | refine .sum (fun _ => ?_) fun _ => ?_)
def c17 : Callee := mkC [.agg [.ro TJob], .agg [.ro TJob]] 1 [.one (.ro .bool)] fun x => laws_eqJob x.1 x.2
theorem e17 (x : PK.dens [.agg [.ro TJob], .agg [.ro TJob]]) : evalFn Try.prog EL17 or0 Try.f17 (PK.outs [.agg [.ro TJob], .agg [.ro TJob]] x) =
    laws_eqJobK (fun y => some (tupOf ((PK.outs [.one (.ro .bool)] y).take 1), (PK.outs [.one (.ro .bool)] y).drop 1)) x.1 x.2 := by kernel_rfl
theorem k17 : CalleeOk Try.prog 17 c17 := callee_mk Try.func17 (code := codeOf Try.f17) (by kernel_rfl) vL17 mixed (LoOk.nil (by kernel_rfl)) fun x y h => (e17 x).trans (p17 _ x.1 x.2 y h)

/-- laws.eqPlan -/
def EL24 : Nat → Option Callee := addE 51 c51 env0
theorem vL24 : EnvOk Try.prog EL24 := EnvOk.nil.add Try.func51 rfl (by kernel_rfl) k51
def laws_eqPlanK {R : Type} (fin : Bool → Option R) (x0 : DPlan) (x1 : DPlan) : Option R :=
  cond (x0.1 != x1.1)
  (fin false)
  ((laws_eqIntS x0.2.1 x1.2.1).bind fun y1 =>
    cond (!y1)
    (fin false)
    (fin true))
def laws_eqPlan (x0 : DPlan) (x1 : DPlan) : Option (Bool) := laws_eqPlanK some x0 x1
theorem p24 {R : Type} (fin : Bool → Option R) (x0 : DPlan) (x1 : DPlan) : Par fin (laws_eqPlanK some x0 x1) (laws_eqPlanK fin x0 x1) := by
  unfold laws_eqPlanK
  repeat' (first | exact .fin | exact .none | refine .cond ?_ ?_ | refine .bind fun _ => ?_ | refine .sum (fun _ => ?_) fun _ => ?_)
def c24 : Callee := mkC [.agg [.ro TPlan], .agg [.ro TPlan]] 1 [.one (.ro .bool)] fun x => laws_eqPlan x.1 x.2
theorem e24 (x : PK.dens [.agg [.ro TPlan], .agg [.ro TPlan]]) : evalFn Try.prog EL24 or0 Try.f24 (PK.outs [.agg [.ro TPlan], .agg [.ro TPlan]] x) =
    laws_eqPlanK (fun y => some (tupOf ((PK.outs [.one (.ro .bool)] y).take 1), (PK.outs [.one (.ro .bool)] y).drop 1)) x.1 x.2 := by kernel_rfl
theorem k24 : CalleeOk Try.prog 24 c24 := callee_mk Try.func24 (code := codeOf Try.f24) (by kernel_rfl) vL24 mixed (LoOk.nil (by kernel_rfl)) fun x y h => (e24 x).trans (p24 _ x.1 x.2 y h)

/-- laws.markIntS -/
def EL74 : Nat → Option Callee := env0
theorem vL74 : EnvOk Try.prog EL74 := EnvOk.nil
def slaws_markIntS_l0 : LS := ⟨[(0, .one (.fix (.sref 0))), (1, .one (.dat (.int .i64))), (5, .one (.dat (.int .i64)))], [.sl (.int .i64)], [0]⟩
def slaws_markIntS_l0x0 : LS := ⟨[(0, .one (.fix (.sref 0))), (1, .one (.dat (.int .i64)))], [.sl (.int .i64)], [0]⟩
def xlaws_markIntS_l0 : List (XS (Unit)) := [⟨.exit 0, ⟨[0, 1], [.slot 0], [0], []⟩, slaws_markIntS_l0x0, Int × (List Int), fun i y => (((), (y.1, ())), (y.2, ()))⟩]
def laws_markIntS_l0K {R : Type} (rc : Int → Int → List Int → Option R) (fin : Int × (List Int) → Option R) (a0 : Int) (a1 : Int) (a2 : List Int) : Option R :=
  cond (decide (a1 < (a2.length : Int)))
  (cond (decide ((0 : Int) ≤ a1) && decide (a1 < (a2.length : Int)))
    ((some (a2.set (0 + a1.toNat) a0)).bind fun v1 =>
      rc (IntKind.i64.wrap (a0 + 1)) (IntKind.i64.wrap (a1 + 1)) v1)
    (none))
  (fin (a0, a2))
def laws_markIntS_l0F (r : (Int × Int × (List Int)) → Option (Int × (List Int))) (x : Int × Int × (List Int)) : Option (Int × (List Int)) := laws_markIntS_l0K (fun a0 a1 a2 => r (a0, (a1, a2))) some x.1 x.2.1 x.2.2
theorem laws_markIntS_l0c (x : Int × Int × (List Int)) : Ct fun r => laws_markIntS_l0F r x := by
  unfold laws_markIntS_l0F laws_markIntS_l0K
  repeat' (first | exact Ct.const | exact Ct.call | refine Ct.cond ?_ ?_ | refine Ct.bind ?_ fun _ => ?_ | refine Ct.sum (fun _ => ?_) fun _ => ?_)
def laws_markIntS_l0 (a0 : Int) (a1 : Int) (a2 : List Int) : Option (Int × (List Int)) := lim (laws_markIntS_l0F) (a0, (a1, a2))
theorem laws_markIntS_l0_eq (a0 : Int) (a1 : Int) (a2 : List Int) : laws_markIntS_l0 a0 a1 a2 = laws_markIntS_l0K (laws_markIntS_l0) some a0 a1 a2 := lim_eq (laws_markIntS_l0c) (a0, (a1, a2))
theorem laws_markIntS_l0p {R : Type} {rc : Int → Int → List Int → Option (Int × (List Int))} {rc' : Int → Int → List Int → Option R} {fin : Int × (List Int) → Option R} (hr : ∀ a0 a1 a2, Par fin (rc a0 a1 a2) (rc' a0 a1 a2)) (a0 : Int) (a1 : Int) (a2 : List Int) : Par fin (laws_markIntS_l0K rc some a0 a1 a2) (laws_markIntS_l0K rc' fin a0 a1 a2) := by
  unfold laws_markIntS_l0K
  repeat' (first | exact .fin | exact .none | exact hr _ _ _ | refine .cond ?_ ?_ | refine .bind fun _ => ?_ | refine .sum (fun _ => ?_) fun _ => ?_)
def Llaws_markIntS_l0 : Loop := mkL ⟨[0, 1, 5], [.slot 0], [0], []⟩ slaws_markIntS_l0 xlaws_markIntS_l0 (fun (x : (Unit × Int × Int × Unit) × ((List Int) × Unit)) => ()) fun (x : (Unit × Int × Int × Unit) × ((List Int) × Unit)) => laws_markIntS_l0 x.1.2.1 x.1.2.2.1 x.2.1
def laws_markIntSK {R : Type} (fin : Int × (List Int) → Option R) (x0 : List Int) (x1 : Int) : Option R :=
  (laws_markIntS_l0 x1 0 x0).bind fun y2 =>
  fin y2
def laws_markIntS (x0 : List Int) (x1 : Int) : Option (Int × (List Int)) := laws_markIntSK some x0 x1
theorem p74 {R : Type} (fin : Int × (List Int) → Option R) (x0 : List Int) (x1 : Int) : Par fin (laws_markIntSK some x0 x1) (laws_markIntSK fin x0 x1) := by
  unfold laws_markIntSK
  repeat' (first | exact .fin | exact .none | refine .cond ?_ ?_ | refine .bind fun _ => ?_ | refine .sum (fun _ => ?_) fun _ => ?_)
def or74 : Ora := { lo := addL 2 (Llaws_markIntS_l0) lo0, fin := [] }
theorem laws_markIntS_l0e (k : Nat) (a0 : Int) (a1 : Int) (a2 : List Int) : loopC Try.prog EL74 or74 ((loopsIn (codeOf Try.f74)).getD 0 .skip) (Llaws_markIntS_l0).h (Llaws_markIntS_l0).ho Try.f74.ntmps (k + 1) (slaws_markIntS_l0.out (((), (a0, (a1, ()))), (a2, ()))) =
    laws_markIntS_l0K (fun a0 a1 a2 => loopC Try.prog EL74 or74 ((loopsIn (codeOf Try.f74)).getD 0 .skip) (Llaws_markIntS_l0).h (Llaws_markIntS_l0).ho Try.f74.ntmps k (slaws_markIntS_l0.out (((), (a0, (a1, ()))), (a2, ())))) (fun y => some (XS.out xlaws_markIntS_l0 () y)) a0 a1 a2 := by kernel_rfl
theorem laws_markIntS_l0o : LoopOk Try.prog EL74 or74 Try.f74.ntmps ((loopsIn (codeOf Try.f74)).getD 0 .skip) (Llaws_markIntS_l0) :=
  loop_lim (hs := slaws_markIntS_l0) (xs := xlaws_markIntS_l0) (ι := fun (x : (Unit × Int × Int × Unit) × ((List Int) × Unit)) => ()) (φ := fun (x : (Unit × Int × Int × Unit) × ((List Int) × Unit)) => (x.1.2.1, (x.1.2.2.1, x.2.1))) (ψ := fun (i : Unit) (v : Int × Int × (List Int)) => (((), (v.1, (v.2.1, ()))), (v.2.2, ()))) (F := fun (i : Unit) => laws_markIntS_l0F) (fun _ => rfl) fun i k hk v => Par.of_eq (laws_markIntS_l0e k v.1 v.2.1 v.2.2) (laws_markIntS_l0p (fun a0 a1 a2 => hk (a0, (a1, a2))) v.1 v.2.1 v.2.2)
def c74 : Callee := mkC [.one (.sl (.int .i64)), .one (.ro (.int .i64))] 1 [.one (.ro (.int .i64)), .one (.sl (.int .i64))] fun x => laws_markIntS x.1 x.2
theorem e74 (x : PK.dens [.one (.sl (.int .i64)), .one (.ro (.int .i64))]) : evalFn Try.prog EL74 or74 Try.f74 (PK.outs [.one (.sl (.int .i64)), .one (.ro (.int .i64))] x) =
    laws_markIntSK (fun y => some (tupOf ((PK.outs [.one (.ro (.int .i64)), .one (.sl (.int .i64))] y).take 1), (PK.outs [.one (.ro (.int .i64)), .one (.sl (.int .i64))] y).drop 1)) x.1 x.2 := by kernel_rfl
theorem o74 : LoOk Try.prog EL74 or74 Try.f74.ntmps (loopsIn (codeOf Try.f74)) :=
  LoOk.mk (m := 1) (by kernel_rfl) fun i hi => match i, hi with
    | 0, _ => ⟨Llaws_markIntS_l0, by kernel_rfl, laws_markIntS_l0o⟩
    | i + 1, hi => absurd hi (by omega)
theorem k74 : CalleeOk Try.prog 74 c74 := callee_mk Try.func74 (code := codeOf Try.f74) (by kernel_rfl) vL74 mixed o74 fun x y h => (e74 x).trans (p74 _ x.1 x.2 y h)

/-- laws.markIntSS -/
def EL73 : Nat → Option Callee := addE 74 c74 env0
theorem vL73 : EnvOk Try.prog EL73 := EnvOk.nil.add Try.func74 rfl (by kernel_rfl) k74
def slaws_markIntSS_l0 : LS := ⟨[(0, .one (.fix (.sref 0))), (1, .one (.dat (.int .i64))), (5, .one (.dat (.int .i64)))], [.mat (.int .i64)], [0]⟩
def slaws_markIntSS_l0x0 : LS := ⟨[(0, .one (.fix (.sref 0))), (1, .one (.dat (.int .i64)))], [.mat (.int .i64)], [0]⟩
def xlaws_markIntSS_l0 : List (XS (Unit)) := [⟨.exit 0, ⟨[0, 1], [.slot 0], [0], []⟩, slaws_markIntSS_l0x0, Int × (List (List Int)), fun i y => (((), (y.1, ())), (y.2, ()))⟩]
def laws_markIntSS_l0K {R : Type} (rc : Int → Int → List (List Int) → Option R) (fin : Int × (List (List Int)) → Option R) (a0 : Int) (a1 : Int) (a2 : List (List Int)) : Option R :=
  cond (decide (a1 < (a2.length : Int)))
  (cond (decide ((0 : Int) ≤ a1) && decide (a1 < (a2.length : Int)))
    ((laws_markIntS (a2.getD (0 + a1.toNat) []) a0).bind fun y1 =>
      rc y1.1 (IntKind.i64.wrap (a1 + 1)) (a2.set (0 + a1.toNat) y1.2))
    (none))
  (fin (a0, a2))
def laws_markIntSS_l0F (r : (Int × Int × (List (List Int))) → Option (Int × (List (List Int)))) (x : Int × Int × (List (List Int))) : Option (Int × (List (List Int))) := laws_markIntSS_l0K (fun a0 a1 a2 => r (a0, (a1, a2))) some x.1 x.2.1 x.2.2
theorem laws_markIntSS_l0c (x : Int × Int × (List (List Int))) : Ct fun r => laws_markIntSS_l0F r x := by
  unfold laws_markIntSS_l0F laws_markIntSS_l0K
  repeat' (first | exact Ct.const | exact Ct.call | refine Ct.cond ?_ ?_ | refine Ct.bind ?_ fun _ => ?_ | refine Ct.sum (fun _ => ?_) fun _ => ?_)
def laws_markIntSS_l0 (a0 : Int) (a1 : Int) (a2 : List (List Int)) : Option (Int × (List (List Int))) := lim (laws_markIntSS_l0F) (a0, (a1, a2))
theorem laws_markIntSS_l0_eq (a0 : Int) (a1 : Int) (a2 : List (List Int)) : laws_markIntSS_l0 a0 a1 a2 = laws_markIntSS_l0K (laws_markIntSS_l0) some a0 a1 a2 := lim_eq (laws_markIntSS_l0c) (a0, (a1, a2))
theorem laws_markIntSS_l0p {R : Type} {rc : Int → Int → List (List Int) → Option (Int × (List (List Int)))} {rc' : Int → Int → List (List Int) → Option R} {fin : Int × (List (List Int)) → Option R} (hr : ∀ a0 a1 a2, Par fin (rc a0 a1 a2) (rc' a0 a1 a2)) (a0 : Int) (a1 : Int) (a2 : List (List Int)) : Par fin (laws_markIntSS_l0K rc some a0 a1 a2) (laws_markIntSS_l0K rc' fin a0 a1 a2) := by
  unfold laws_markIntSS_l0K
  repeat' (first | exact .fin | exact .none | exact hr _ _ _ | refine .cond ?_ ?_ | refine .bind fun _ => ?_ | refine .sum (fun _ => ?_) fun _ => ?_)
def Llaws_markIntSS_l0 : Loop := mkL ⟨[0, 1, 5], [.slot 0], [0], []⟩ slaws_markIntSS_l0 xlaws_markIntSS_l0 (fun (x : (Unit × Int × Int × Unit) × ((List (List Int)) × Unit)) => ()) fun (x : (Unit × Int × Int × Unit) × ((List (List Int)) × Unit)) => laws_markIntSS_l0 x.1.2.1 x.1.2.2.1 x.2.1
def laws_markIntSSK {R : Type} (fin : Int × (List (List Int)) → Option R) (x0 : List (List Int)) (x1 : Int) : Option R :=
  (laws_markIntSS_l0 x1 0 x0).bind fun y2 =>
  fin y2
def laws_markIntSS (x0 : List (List Int)) (x1 : Int) : Option (Int × (List (List Int))) := laws_markIntSSK some x0 x1
theorem p73 {R : Type} (fin : Int × (List (List Int)) → Option R) (x0 : List (List Int)) (x1 : Int) : Par fin (laws_markIntSSK some x0 x1) (laws_markIntSSK fin x0 x1) := by
  unfold laws_markIntSSK
  repeat' (first | exact .fin | exact .none | refine .cond ?_ ?_ | refine .bind fun _ => ?_ | refine .sum (fun _ => ?_) fun _ => ?_)
def or73 : Ora := { lo := addL 2 (Llaws_markIntSS_l0) lo0, fin := [] }
theorem laws_markIntSS_l0e (k : Nat) (a0 : Int) (a1 : Int) (a2 : List (List Int)) : loopC Try.prog EL73 or73 ((loopsIn (codeOf Try.f73)).getD 0 .skip) (Llaws_markIntSS_l0).h (Llaws_markIntSS_l0).ho Try.f73.ntmps (k + 1) (slaws_markIntSS_l0.out (((), (a0, (a1, ()))), (a2, ()))) =
    laws_markIntSS_l0K (fun a0 a1 a2 => loopC Try.prog EL73 or73 ((loopsIn (codeOf Try.f73)).getD 0 .skip) (Llaws_markIntSS_l0).h (Llaws_markIntSS_l0).ho Try.f73.ntmps k (slaws_markIntSS_l0.out (((), (a0, (a1, ()))), (a2, ())))) (fun y => some (XS.out xlaws_markIntSS_l0 () y)) a0 a1 a2 := by kernel_rfl
theorem laws_markIntSS_l0o : LoopOk Try.prog EL73 or73 Try.f73.ntmps ((loopsIn (codeOf Try.f73)).getD 0 .skip) (Llaws_markIntSS_l0) :=
  loop_lim (hs := slaws_markIntSS_l0) (xs := xlaws_markIntSS_l0) (ι := fun (x : (Unit × Int × Int × Unit) × ((List (List Int)) × Unit)) => ()) (φ := fun (x : (Unit × Int × Int × Unit) × ((List (List Int)) × Unit)) => (x.1.2.1, (x.1.2.2.1, x.2.1))) (ψ := fun (i : Unit) (v : Int × Int × (List (List Int))) => (((), (v.1, (v.2.1, ()))), (v.2.2, ()))) (F := fun (i : Unit) => laws_markIntSS_l0F) (fun _ => rfl) fun i k hk v => Par.of_eq (laws_markIntSS_l0e k v.1 v.2.1 v.2.2) (laws_markIntSS_l0p (fun a0 a1 a2 => hk (a0, (a1, a2))) v.1 v.2.1 v.2.2)
def c73 : Callee := mkC [.one (.mat (.int .i64)), .one (.ro (.int .i64))] 1 [.one (.ro (.int .i64)), .one (.mat (.int .i64))] fun x => laws_markIntSS x.1 x.2
theorem e73 (x : PK.dens [.one (.mat (.int .i64)), .one (.ro (.int .i64))]) : evalFn Try.prog EL73 or73 Try.f73 (PK.outs [.one (.mat (.int .i64)), .one (.ro (.int .i64))] x) =
    laws_markIntSSK (fun y => some (tupOf ((PK.outs [.one (.ro (.int .i64)), .one (.mat (.int .i64))] y).take 1), (PK.outs [.one (.ro (.int .i64)), .one (.mat (.int .i64))] y).drop 1)) x.1 x.2 := by kernel_rfl
theorem o73 : LoOk Try.prog EL73 or73 Try.f73.ntmps (loopsIn (codeOf Try.f73)) :=
  LoOk.mk (m := 1) (by kernel_rfl) fun i hi => match i, hi with
    | 0, _ => ⟨Llaws_markIntSS_l0, by kernel_rfl, laws_markIntSS_l0o⟩
    | i + 1, hi => absurd hi (by omega)
theorem k73 : CalleeOk Try.prog 73 c73 := callee_mk Try.func73 (code := codeOf Try.f73) (by kernel_rfl) vL73 mixed o73 fun x y h => (e73 x).trans (p73 _ x.1 x.2 y h)

/-- laws.markJob -/
def EL33 : Nat → Option Callee := addE 74 c74 (addE 73 c73 env0)
theorem vL33 : EnvOk Try.prog EL33 := (EnvOk.nil.add Try.func73 rfl (by kernel_rfl) k73).add Try.func74 rfl (by kernel_rfl) k74
def laws_markJobK {R : Type} (fin : Int × Unit → Option R) (x0 : (List (List Int)) × (List Int) × (List Int) × Int × Int × Int × Int × Int) (x1 : Int) : Option R :=
  (laws_markIntSS x0.1 x1).bind fun y1 =>
  (laws_markIntS x0.2.1 y1.1).bind fun y2 =>
  (laws_markIntS x0.2.2.1 y2.1).bind fun y3 =>
  fin (y3.1, ())
def laws_markJob (x0 : (List (List Int)) × (List Int) × (List Int) × Int × Int × Int × Int × Int) (x1 : Int) : Option (Int × Unit) := laws_markJobK some x0 x1
theorem p33 {R : Type} (fin : Int × Unit → Option R) (x0 : (List (List Int)) × (List Int) × (List Int) × Int × Int × Int × Int × Int) (x1 : Int) : Par fin (laws_markJobK some x0 x1) (laws_markJobK fin x0 x1) := by
  unfold laws_markJobK
  repeat' (first | exact .fin | exact .none | refine .cond ?_ ?_ | refine .bind fun _ => ?_ | refine .sum (fun _ => ?_) fun _ => ?_)
def c33 : Callee := mkC [.agg [.mat (.int .i64), .sl (.int .i64), .sl (.int .i64), .ro (.int .i64), .ro (.int .i64), .ro (.int .i64), .ro (.int .i64), .ro (.int .i64)], .one (.ro (.int .i64))] 1 [.one (.ro (.int .i64)), .gone] fun x => laws_markJob x.1 x.2
theorem e33 (x : PK.dens [.agg [.mat (.int .i64), .sl (.int .i64), .sl (.int .i64), .ro (.int .i64), .ro (.int .i64), .ro (.int .i64), .ro (.int .i64), .ro (.int .i64)], .one (.ro (.int .i64))]) : evalFn Try.prog EL33 or0 Try.f33 (PK.outs [.agg [.mat (.int .i64), .sl (.int .i64), .sl (.int .i64), .ro (.int .i64), .ro (.int .i64), .ro (.int .i64), .ro (.int .i64), .ro (.int .i64)], .one (.ro (.int .i64))] x) =
    laws_markJobK (fun y => some (tupOf ((PK.outs [.one (.ro (.int .i64)), .gone] y).take 1), (PK.outs [.one (.ro (.int .i64)), .gone] y).drop 1)) x.1 x.2 := by kernel_rfl
theorem k33 : CalleeOk Try.prog 33 c33 := callee_mk Try.func33 (code := codeOf Try.f33) (by kernel_rfl) vL33 mixed (LoOk.nil (by kernel_rfl)) fun x y h => (e33 x).trans (p33 _ x.1 x.2 y h)

/-- laws.markPlan -/
def EL34 : Nat → Option Callee := addE 74 c74 env0
theorem vL34 : EnvOk Try.prog EL34 := EnvOk.nil.add Try.func74 rfl (by kernel_rfl) k74
def laws_markPlanK {R : Type} (fin : Int × (Int × (List Int)) → Option R) (x0 : Int × (List Int)) (x1 : Int) : Option R :=
  (laws_markIntS x0.2 x1).bind fun y1 =>
  fin (y1.1, (x0.1, y1.2))
def laws_markPlan (x0 : Int × (List Int)) (x1 : Int) : Option (Int × (Int × (List Int))) := laws_markPlanK some x0 x1
theorem p34 {R : Type} (fin : Int × (Int × (List Int)) → Option R) (x0 : Int × (List Int)) (x1 : Int) : Par fin (laws_markPlanK some x0 x1) (laws_markPlanK fin x0 x1) := by
  unfold laws_markPlanK
  repeat' (first | exact .fin | exact .none | refine .cond ?_ ?_ | refine .bind fun _ => ?_ | refine .sum (fun _ => ?_) fun _ => ?_)
def c34 : Callee := mkC [.agg [.ro (.int .i64), .sl (.int .i64)], .one (.ro (.int .i64))] 1 [.one (.ro (.int .i64)), .agg [.ro (.int .i64), .sl (.int .i64)]] fun x => laws_markPlan x.1 x.2
theorem e34 (x : PK.dens [.agg [.ro (.int .i64), .sl (.int .i64)], .one (.ro (.int .i64))]) : evalFn Try.prog EL34 or0 Try.f34 (PK.outs [.agg [.ro (.int .i64), .sl (.int .i64)], .one (.ro (.int .i64))] x) =
    laws_markPlanK (fun y => some (tupOf ((PK.outs [.one (.ro (.int .i64)), .agg [.ro (.int .i64), .sl (.int .i64)]] y).take 1), (PK.outs [.one (.ro (.int .i64)), .agg [.ro (.int .i64), .sl (.int .i64)]] y).drop 1)) x.1 x.2 := by kernel_rfl
theorem k34 : CalleeOk Try.prog 34 c34 := callee_mk Try.func34 (code := codeOf Try.f34) (by kernel_rfl) vL34 mixed (LoOk.nil (by kernel_rfl)) fun x y h => (e34 x).trans (p34 _ x.1 x.2 y h)

/-- laws.heldIntS -/
def EL75 : Nat → Option Callee := env0
theorem vL75 : EnvOk Try.prog EL75 := EnvOk.nil
def slaws_heldIntS_l0 : LS := ⟨[(0, .one (.dat (.slice (.int .i64)))), (1, .one (.dat (.int .i64))), (5, .one (.dat (.int .i64)))], [], []⟩
def slaws_heldIntS_l0x0 : LS := ⟨[(4, .one (.dat (.int .i64)))], [], []⟩
def slaws_heldIntS_l0x1 : LS := ⟨[(1, .one (.dat (.int .i64)))], [], []⟩
def xlaws_heldIntS_l0 : List (XS (List Int)) := [⟨.ret, ⟨[4], [], [], []⟩, slaws_heldIntS_l0x0, Int, fun i y => ((y, ()), ())⟩,
  ⟨.exit 0, ⟨[1], [], [], []⟩, slaws_heldIntS_l0x1, Int, fun i y => ((y, ()), ())⟩]
def laws_heldIntS_l0K {R : Type} (a0 : List Int) (rc : Int → Int → Option R) (fin : (Int ⊕ Int) → Option R) (a1 : Int) (a2 : Int) : Option R :=
  cond (decide (a2 < (a0.length : Int)))
  ((lat a0 a2).bind fun e1 =>
    cond (e1 != a1)
    (fin (.inl (-1)))
    (rc (IntKind.i64.wrap (a1 + 1)) (IntKind.i64.wrap (a2 + 1))))
  (fin (.inr a1))
def laws_heldIntS_l0F (a0 : List Int) (r : (Int × Int) → Option (Int ⊕ Int)) (x : Int × Int) : Option (Int ⊕ Int) := laws_heldIntS_l0K a0 (fun a1 a2 => r (a1, a2)) some x.1 x.2
theorem laws_heldIntS_l0c (a0 : List Int) (x : Int × Int) : Ct fun r => laws_heldIntS_l0F a0 r x := by
  unfold laws_heldIntS_l0F laws_heldIntS_l0K
  repeat' (first | exact Ct.const | exact Ct.call | refine Ct.cond ?_ ?_ | refine Ct.bind ?_ fun _ => ?_ | refine Ct.sum (fun _ => ?_) fun _ => ?_)
def laws_heldIntS_l0 (a0 : List Int) (a1 : Int) (a2 : Int) : Option (Int ⊕ Int) := lim (laws_heldIntS_l0F a0) (a1, a2)
theorem laws_heldIntS_l0_eq (a0 : List Int) (a1 : Int) (a2 : Int) : laws_heldIntS_l0 a0 a1 a2 = laws_heldIntS_l0K a0 (laws_heldIntS_l0 a0) some a1 a2 := lim_eq (laws_heldIntS_l0c a0) (a1, a2)
theorem laws_heldIntS_l0p {R : Type} (a0 : List Int) {rc : Int → Int → Option (Int ⊕ Int)} {rc' : Int → Int → Option R} {fin : (Int ⊕ Int) → Option R} (hr : ∀ a1 a2, Par fin (rc a1 a2) (rc' a1 a2)) (a1 : Int) (a2 : Int) : Par fin (laws_heldIntS_l0K a0 rc some a1 a2) (laws_heldIntS_l0K a0 rc' fin a1 a2) := by
  unfold laws_heldIntS_l0K
  repeat' (first | exact .fin | exact .none | exact hr _ _ | refine .cond ?_ ?_ | refine .bind fun _ => ?_ | refine .sum (fun _ => ?_) fun _ => ?_)
def Llaws_heldIntS_l0 : Loop := mkL ⟨[0, 1, 5], [], [], []⟩ slaws_heldIntS_l0 xlaws_heldIntS_l0 (fun (x : ((List Int) × Int × Int × Unit) × (Unit)) => x.1.1) fun (x : ((List Int) × Int × Int × Unit) × (Unit)) => laws_heldIntS_l0 x.1.1 x.1.2.1 x.1.2.2.1
def laws_heldIntSK {R : Type} (fin : Int → Option R) (x0 : List Int) (x1 : Int) : Option R :=
  (laws_heldIntS_l0 x0 x1 0).bind fun y2 =>
  sumO y2 (fun y3 =>
  fin y3)
  (fun y4 =>
  fin y4)
def laws_heldIntS (x0 : List Int) (x1 : Int) : Option (Int) := laws_heldIntSK some x0 x1
theorem p75 {R : Type} (fin : Int → Option R) (x0 : List Int) (x1 : Int) : Par fin (laws_heldIntSK some x0 x1) (laws_heldIntSK fin x0 x1) := by
  unfold laws_heldIntSK
  repeat' (first | exact .fin | exact .none | refine .cond ?_ ?_ | refine .bind fun _ => ?_ | refine .sum (fun _ => ?_) fun _ => ?_)
def or75 : Ora := { lo := addL 2 (Llaws_heldIntS_l0) lo0, fin := [] }
theorem laws_heldIntS_l0e (a0 : List Int) (k : Nat) (a1 : Int) (a2 : Int) : loopC Try.prog EL75 or75 ((loopsIn (codeOf Try.f75)).getD 0 .skip) (Llaws_heldIntS_l0).h (Llaws_heldIntS_l0).ho Try.f75.ntmps (k + 1) (slaws_heldIntS_l0.out ((a0, (a1, (a2, ()))), ())) =
    laws_heldIntS_l0K a0 (fun a1 a2 => loopC Try.prog EL75 or75 ((loopsIn (codeOf Try.f75)).getD 0 .skip) (Llaws_heldIntS_l0).h (Llaws_heldIntS_l0).ho Try.f75.ntmps k (slaws_heldIntS_l0.out ((a0, (a1, (a2, ()))), ()))) (fun y => some (XS.out xlaws_heldIntS_l0 a0 y)) a1 a2 := by kernel_rfl
theorem laws_heldIntS_l0o : LoopOk Try.prog EL75 or75 Try.f75.ntmps ((loopsIn (codeOf Try.f75)).getD 0 .skip) (Llaws_heldIntS_l0) :=
  loop_lim (hs := slaws_heldIntS_l0) (xs := xlaws_heldIntS_l0) (ι := fun (x : ((List Int) × Int × Int × Unit) × (Unit)) => x.1.1) (φ := fun (x : ((List Int) × Int × Int × Unit) × (Unit)) => (x.1.2.1, x.1.2.2.1)) (ψ := fun (i : List Int) (v : Int × Int) => ((i, (v.1, (v.2, ()))), ())) (F := fun (i : List Int) => laws_heldIntS_l0F i) (fun _ => rfl) fun i k hk v => Par.of_eq (laws_heldIntS_l0e i k v.1 v.2) (laws_heldIntS_l0p i (fun a1 a2 => hk (a1, a2)) v.1 v.2)
def c75 : Callee := mkC [.one (.ro (.slice (.int .i64))), .one (.ro (.int .i64))] 1 [.one (.ro (.int .i64))] fun x => laws_heldIntS x.1 x.2
theorem e75 (x : PK.dens [.one (.ro (.slice (.int .i64))), .one (.ro (.int .i64))]) : evalFn Try.prog EL75 or75 Try.f75 (PK.outs [.one (.ro (.slice (.int .i64))), .one (.ro (.int .i64))] x) =
    laws_heldIntSK (fun y => some (tupOf ((PK.outs [.one (.ro (.int .i64))] y).take 1), (PK.outs [.one (.ro (.int .i64))] y).drop 1)) x.1 x.2 := by kernel_rfl
theorem o75 : LoOk Try.prog EL75 or75 Try.f75.ntmps (loopsIn (codeOf Try.f75)) :=
  LoOk.mk (m := 1) (by kernel_rfl) fun i hi => match i, hi with
    | 0, _ => ⟨Llaws_heldIntS_l0, by kernel_rfl, laws_heldIntS_l0o⟩
    | i + 1, hi => absurd hi (by omega)
theorem k75 : CalleeOk Try.prog 75 c75 := callee_mk Try.func75 (code := codeOf Try.f75) (by kernel_rfl) vL75 mixed o75 fun x y h => (e75 x).trans (p75 _ x.1 x.2 y h)

/-- laws.heldPlan -/
def EL35 : Nat → Option Callee := addE 75 c75 env0
theorem vL35 : EnvOk Try.prog EL35 := EnvOk.nil.add Try.func75 rfl (by kernel_rfl) k75
def laws_heldPlanK {R : Type} (fin : Int → Option R) (x0 : DPlan) (x1 : Int) : Option R :=
  (laws_heldIntS x0.2.1 x1).bind fun y1 =>
  cond (decide (y1 < 0))
  (fin (-1))
  (fin y1)
def laws_heldPlan (x0 : DPlan) (x1 : Int) : Option (Int) := laws_heldPlanK some x0 x1
theorem p35 {R : Type} (fin : Int → Option R) (x0 : DPlan) (x1 : Int) : Par fin (laws_heldPlanK some x0 x1) (laws_heldPlanK fin x0 x1) := by
  unfold laws_heldPlanK
  repeat' (first | exact .fin | exact .none | refine .cond ?_ ?_ | refine .bind fun _ => ?_ | refine .sum (fun _ => ?_) fun _ => ?_)
def c35 : Callee := mkC [.agg [.ro TPlan], .one (.ro (.int .i64))] 1 [.one (.ro (.int .i64))] fun x => laws_heldPlan x.1 x.2
theorem e35 (x : PK.dens [.agg [.ro TPlan], .one (.ro (.int .i64))]) : evalFn Try.prog EL35 or0 Try.f35 (PK.outs [.agg [.ro TPlan], .one (.ro (.int .i64))] x) =
    laws_heldPlanK (fun y => some (tupOf ((PK.outs [.one (.ro (.int .i64))] y).take 1), (PK.outs [.one (.ro (.int .i64))] y).drop 1)) x.1 x.2 := by kernel_rfl
theorem k35 : CalleeOk Try.prog 35 c35 := callee_mk Try.func35 (code := codeOf Try.f35) (by kernel_rfl) vL35 mixed (LoOk.nil (by kernel_rfl)) fun x y h => (e35 x).trans (p35 _ x.1 x.2 y h)

/-- impl.areBlocks -/
def EL102 : Nat → Option Callee := env0
theorem vL102 : EnvOk Try.prog EL102 := EnvOk.nil
def simpl_areBlocks_l0 : LS := ⟨[(0, .one (.dat (.slice (.int .i64)))), (1, .one (.dat (.int .i64))), (7, .one (.dat (.slice (.int .i64)))), (8, .one (.dat (.int .i64))), (9, .one (.dat (.int .i64)))], [], []⟩
def simpl_areBlocks_l0x0 : LS := ⟨[(4, .one (.dat .bool))], [], []⟩
def simpl_areBlocks_l0x1 : LS := ⟨[], [], []⟩
def ximpl_areBlocks_l0 : List (XS ((List Int) × Int × (List Int) × Int)) := [⟨.ret, ⟨[4], [], [], []⟩, simpl_areBlocks_l0x0, Bool, fun i y => ((y, ()), ())⟩,
  ⟨.exit 0, ⟨[], [], [], []⟩, simpl_areBlocks_l0x1, Unit, fun i y => ((), ())⟩]
def impl_areBlocks_l0K {R : Type} (a0 : List Int) (a1 : Int) (a2 : List Int) (a3 : Int) (rc : Int → Option R) (fin : (Bool ⊕ Unit) → Option R) (a4 : Int) : Option R :=
  cond (decide (a4 < a3))
  ((lat a2 a4).bind fun e1 =>
    cond (decide (e1 < 0))
    (fin (.inl false))
    (cond (decide (e1 ≥ a1))
      (fin (.inl false))
      (cond (decide (a4 > 0))
        ((lat a0 (IntKind.i64.wrap (a4 - 1))).bind fun e2 =>
          cond (decide (e1 ≤ e2))
          (fin (.inl false))
          (rc (IntKind.i64.wrap (a4 + 1))))
        (rc (IntKind.i64.wrap (a4 + 1))))))
  (fin (.inr ()))
def impl_areBlocks_l0F (a0 : List Int) (a1 : Int) (a2 : List Int) (a3 : Int) (r : Int → Option (Bool ⊕ Unit)) (x : Int) : Option (Bool ⊕ Unit) := impl_areBlocks_l0K a0 a1 a2 a3 (fun a4 => r a4) some x
theorem impl_areBlocks_l0c (a0 : List Int) (a1 : Int) (a2 : List Int) (a3 : Int) (x : Int) : Ct fun r => impl_areBlocks_l0F a0 a1 a2 a3 r x := by
  unfold impl_areBlocks_l0F impl_areBlocks_l0K
  repeat' (first | exact Ct.const | exact Ct.call | refine Ct.cond ?_ ?_ | refine Ct.bind ?_ fun _ => ?_ | refine Ct.sum (fun _ => ?_) fun _ => ?_)
def impl_areBlocks_l0 (a0 : List Int) (a1 : Int) (a2 : List Int) (a3 : Int) (a4 : Int) : Option (Bool ⊕ Unit) := lim (impl_areBlocks_l0F a0 a1 a2 a3) a4
theorem impl_areBlocks_l0_eq (a0 : List Int) (a1 : Int) (a2 : List Int) (a3 : Int) (a4 : Int) : impl_areBlocks_l0 a0 a1 a2 a3 a4 = impl_areBlocks_l0K a0 a1 a2 a3 (impl_areBlocks_l0 a0 a1 a2 a3) some a4 := lim_eq (impl_areBlocks_l0c a0 a1 a2 a3) a4
theorem impl_areBlocks_l0p {R : Type} (a0 : List Int) (a1 : Int) (a2 : List Int) (a3 : Int) {rc : Int → Option (Bool ⊕ Unit)} {rc' : Int → Option R} {fin : (Bool ⊕ Unit) → Option R} (hr : ∀ a4, Par fin (rc a4) (rc' a4)) (a4 : Int) : Par fin (impl_areBlocks_l0K a0 a1 a2 a3 rc some a4) (impl_areBlocks_l0K a0 a1 a2 a3 rc' fin a4) := by
  unfold impl_areBlocks_l0K
  repeat' (first | exact .fin | exact .none | exact hr _ | refine .cond ?_ ?_ | refine .bind fun _ => ?_ | refine .sum (fun _ => ?_) fun _ => ?_)
def Limpl_areBlocks_l0 : Loop := mkL ⟨[0, 1, 7, 8, 9], [], [], []⟩ simpl_areBlocks_l0 ximpl_areBlocks_l0 (fun (x : ((List Int) × Int × (List Int) × Int × Int × Unit) × (Unit)) => (x.1.1, (x.1.2.1, (x.1.2.2.1, x.1.2.2.2.1)))) fun (x : ((List Int) × Int × (List Int) × Int × Int × Unit) × (Unit)) => impl_areBlocks_l0 x.1.1 x.1.2.1 x.1.2.2.1 x.1.2.2.2.1 x.1.2.2.2.2.1
def impl_areBlocksK {R : Type} (fin : Bool → Option R) (x0 : List Int) (x1 : Int) : Option R :=
  (impl_areBlocks_l0 x0 x1 x0 (x0.length : Int) 0).bind fun y3 =>
  sumO y3 (fun y4 =>
  fin y4)
  (fun y5 =>
  fin true)
def impl_areBlocks (x0 : List Int) (x1 : Int) : Option (Bool) := impl_areBlocksK some x0 x1
theorem p102 {R : Type} (fin : Bool → Option R) (x0 : List Int) (x1 : Int) : Par fin (impl_areBlocksK some x0 x1) (impl_areBlocksK fin x0 x1) := by
  unfold impl_areBlocksK
  repeat' (first | exact .fin | exact .none | refine .cond ?_ ?_ | refine .bind fun _ => ?_ | refine .sum (fun _ => ?_) fun _ => ?_)
def or102 : Ora := { lo := addL 2 (Limpl_areBlocks_l0) lo0, fin := [] }
theorem impl_areBlocks_l0e (a0 : List Int) (a1 : Int) (a2 : List Int) (a3 : Int) (k : Nat) (a4 : Int) : loopC Try.prog EL102 or102 ((loopsIn (codeOf Try.f102)).getD 0 .skip) (Limpl_areBlocks_l0).h (Limpl_areBlocks_l0).ho Try.f102.ntmps (k + 1) (simpl_areBlocks_l0.out ((a0, (a1, (a2, (a3, (a4, ()))))), ())) =
    impl_areBlocks_l0K a0 a1 a2 a3 (fun a4 => loopC Try.prog EL102 or102 ((loopsIn (codeOf Try.f102)).getD 0 .skip) (Limpl_areBlocks_l0).h (Limpl_areBlocks_l0).ho Try.f102.ntmps k (simpl_areBlocks_l0.out ((a0, (a1, (a2, (a3, (a4, ()))))), ()))) (fun y => some (XS.out ximpl_areBlocks_l0 (a0, (a1, (a2, a3))) y)) a4 := by kernel_rfl
theorem impl_areBlocks_l0o : LoopOk Try.prog EL102 or102 Try.f102.ntmps ((loopsIn (codeOf Try.f102)).getD 0 .skip) (Limpl_areBlocks_l0) :=
  loop_lim (hs := simpl_areBlocks_l0) (xs := ximpl_areBlocks_l0) (ι := fun (x : ((List Int) × Int × (List Int) × Int × Int × Unit) × (Unit)) => (x.1.1, (x.1.2.1, (x.1.2.2.1, x.1.2.2.2.1)))) (φ := fun (x : ((List Int) × Int × (List Int) × Int × Int × Unit) × (Unit)) => x.1.2.2.2.2.1) (ψ := fun (i : (List Int) × Int × (List Int) × Int) (v : Int) => ((i.1, (i.2.1, (i.2.2.1, (i.2.2.2, (v, ()))))), ())) (F := fun (i : (List Int) × Int × (List Int) × Int) => impl_areBlocks_l0F i.1 i.2.1 i.2.2.1 i.2.2.2) (fun _ => rfl) fun i k hk v => Par.of_eq (impl_areBlocks_l0e i.1 i.2.1 i.2.2.1 i.2.2.2 k v) (impl_areBlocks_l0p i.1 i.2.1 i.2.2.1 i.2.2.2 (fun a4 => hk a4) v)
def c102 : Callee := mkC [.one (.ro (.slice (.int .i64))), .one (.ro (.int .i64))] 1 [.one (.ro .bool)] fun x => impl_areBlocks x.1 x.2
theorem e102 (x : PK.dens [.one (.ro (.slice (.int .i64))), .one (.ro (.int .i64))]) : evalFn Try.prog EL102 or102 Try.f102 (PK.outs [.one (.ro (.slice (.int .i64))), .one (.ro (.int .i64))] x) =
    impl_areBlocksK (fun y => some (tupOf ((PK.outs [.one (.ro .bool)] y).take 1), (PK.outs [.one (.ro .bool)] y).drop 1)) x.1 x.2 := by kernel_rfl
theorem o102 : LoOk Try.prog EL102 or102 Try.f102.ntmps (loopsIn (codeOf Try.f102)) :=
  LoOk.mk (m := 1) (by kernel_rfl) fun i hi => match i, hi with
    | 0, _ => ⟨Limpl_areBlocks_l0, by kernel_rfl, impl_areBlocks_l0o⟩
    | i + 1, hi => absurd hi (by omega)
theorem k102 : CalleeOk Try.prog 102 c102 := callee_mk Try.func102 (code := codeOf Try.f102) (by kernel_rfl) vL102 mixed o102 fun x y h => (e102 x).trans (p102 _ x.1 x.2 y h)

/-- impl.AreArcs -/
def EL97 : Nat → Option Callee := addE 102 c102 env0
theorem vL97 : EnvOk Try.prog EL97 := EnvOk.nil.add Try.func102 rfl (by kernel_rfl) k102
def simpl_AreArcs_l0 : LS := ⟨[(13, .one (.dat (.slice (.slice (.int .i64))))), (14, .one (.dat (.int .i64))), (15, .one (.dat (.int .i64)))], [], []⟩
def simpl_AreArcs_l0x0 : LS := ⟨[(2, .one (.dat .bool))], [], []⟩
def simpl_AreArcs_l0x1 : LS := ⟨[], [], []⟩
def ximpl_AreArcs_l0 : List (XS ((List (List Int)) × Int)) := [⟨.ret, ⟨[2], [], [], []⟩, simpl_AreArcs_l0x0, Bool, fun i y => ((y, ()), ())⟩,
  ⟨.exit 0, ⟨[], [], [], []⟩, simpl_AreArcs_l0x1, Unit, fun i y => ((), ())⟩]
def impl_AreArcs_l0K {R : Type} (a0 : List (List Int)) (a1 : Int) (rc : Int → Option R) (fin : (Bool ⊕ Unit) → Option R) (a2 : Int) : Option R :=
  cond (decide (a2 < a1))
  ((lat a0 a2).bind fun e1 =>
    (impl_areBlocks e1 a2).bind fun y2 =>
    cond (!y2)
    (fin (.inl false))
    (rc (IntKind.i64.wrap (a2 + 1))))
  (fin (.inr ()))
def impl_AreArcs_l0F (a0 : List (List Int)) (a1 : Int) (r : Int → Option (Bool ⊕ Unit)) (x : Int) : Option (Bool ⊕ Unit) := impl_AreArcs_l0K a0 a1 (fun a2 => r a2) some x
theorem impl_AreArcs_l0c (a0 : List (List Int)) (a1 : Int) (x : Int) : Ct fun r => impl_AreArcs_l0F a0 a1 r x := by
  unfold impl_AreArcs_l0F impl_AreArcs_l0K
  repeat' (first | exact Ct.const | exact Ct.call | refine Ct.cond ?_ ?_ | refine Ct.bind ?_ fun _ => ?_ | refine Ct.sum (fun _ => ?_) fun _ => ?_)
def impl_AreArcs_l0 (a0 : List (List Int)) (a1 : Int) (a2 : Int) : Option (Bool ⊕ Unit) := lim (impl_AreArcs_l0F a0 a1) a2
theorem impl_AreArcs_l0_eq (a0 : List (List Int)) (a1 : Int) (a2 : Int) : impl_AreArcs_l0 a0 a1 a2 = impl_AreArcs_l0K a0 a1 (impl_AreArcs_l0 a0 a1) some a2 := lim_eq (impl_AreArcs_l0c a0 a1) a2
theorem impl_AreArcs_l0p {R : Type} (a0 : List (List Int)) (a1 : Int) {rc : Int → Option (Bool ⊕ Unit)} {rc' : Int → Option R} {fin : (Bool ⊕ Unit) → Option R} (hr : ∀ a2, Par fin (rc a2) (rc' a2)) (a2 : Int) : Par fin (impl_AreArcs_l0K a0 a1 rc some a2) (impl_AreArcs_l0K a0 a1 rc' fin a2) := by
  unfold impl_AreArcs_l0K
  repeat' (first | exact .fin | exact .none | exact hr _ | refine .cond ?_ ?_ | refine .bind fun _ => ?_ | refine .sum (fun _ => ?_) fun _ => ?_)
def Limpl_AreArcs_l0 : Loop := mkL ⟨[13, 14, 15], [], [], []⟩ simpl_AreArcs_l0 ximpl_AreArcs_l0 (fun (x : ((List (List Int)) × Int × Int × Unit) × (Unit)) => (x.1.1, x.1.2.1)) fun (x : ((List (List Int)) × Int × Int × Unit) × (Unit)) => impl_AreArcs_l0 x.1.1 x.1.2.1 x.1.2.2.1
def impl_AreArcsK {R : Type} (fin : Bool → Option R) (x0 : List (List Int)) : Option R :=
  cond (decide ((x0.length : Int) < 1))
  (fin false)
  (cond (decide ((x0.length : Int) > 120))
    (fin false)
    ((impl_AreArcs_l0 x0 (x0.length : Int) 0).bind fun y3 =>
      sumO y3 (fun y4 =>
      fin y4)
      (fun y5 =>
      fin true)))
def impl_AreArcs (x0 : List (List Int)) : Option (Bool) := impl_AreArcsK some x0
theorem p97 {R : Type} (fin : Bool → Option R) (x0 : List (List Int)) : Par fin (impl_AreArcsK some x0) (impl_AreArcsK fin x0) := by
  unfold impl_AreArcsK
  repeat' (first | exact .fin | exact .none | refine .cond ?_ ?_ | refine .bind fun _ => ?_ | refine .sum (fun _ => ?_) fun _ => ?_)
def or97 : Ora := { lo := addL 4 (Limpl_AreArcs_l0) lo0, fin := [] }
theorem impl_AreArcs_l0e (a0 : List (List Int)) (a1 : Int) (k : Nat) (a2 : Int) : loopC Try.prog EL97 or97 ((loopsIn (codeOf Try.f97)).getD 0 .skip) (Limpl_AreArcs_l0).h (Limpl_AreArcs_l0).ho Try.f97.ntmps (k + 1) (simpl_AreArcs_l0.out ((a0, (a1, (a2, ()))), ())) =
    impl_AreArcs_l0K a0 a1 (fun a2 => loopC Try.prog EL97 or97 ((loopsIn (codeOf Try.f97)).getD 0 .skip) (Limpl_AreArcs_l0).h (Limpl_AreArcs_l0).ho Try.f97.ntmps k (simpl_AreArcs_l0.out ((a0, (a1, (a2, ()))), ()))) (fun y => some (XS.out ximpl_AreArcs_l0 (a0, a1) y)) a2 := by kernel_rfl
theorem impl_AreArcs_l0o : LoopOk Try.prog EL97 or97 Try.f97.ntmps ((loopsIn (codeOf Try.f97)).getD 0 .skip) (Limpl_AreArcs_l0) :=
  loop_lim (hs := simpl_AreArcs_l0) (xs := ximpl_AreArcs_l0) (ι := fun (x : ((List (List Int)) × Int × Int × Unit) × (Unit)) => (x.1.1, x.1.2.1)) (φ := fun (x : ((List (List Int)) × Int × Int × Unit) × (Unit)) => x.1.2.2.1) (ψ := fun (i : (List (List Int)) × Int) (v : Int) => ((i.1, (i.2, (v, ()))), ())) (F := fun (i : (List (List Int)) × Int) => impl_AreArcs_l0F i.1 i.2) (fun _ => rfl) fun i k hk v => Par.of_eq (impl_AreArcs_l0e i.1 i.2 k v) (impl_AreArcs_l0p i.1 i.2 (fun a2 => hk a2) v)
def c97 : Callee := mkC [.one (.ro (.slice (.slice (.int .i64))))] 1 [.one (.ro .bool)] fun x => impl_AreArcs x
theorem e97 (x : PK.dens [.one (.ro (.slice (.slice (.int .i64))))]) : evalFn Try.prog EL97 or97 Try.f97 (PK.outs [.one (.ro (.slice (.slice (.int .i64))))] x) =
    impl_AreArcsK (fun y => some (tupOf ((PK.outs [.one (.ro .bool)] y).take 1), (PK.outs [.one (.ro .bool)] y).drop 1)) x := by kernel_rfl
theorem o97 : LoOk Try.prog EL97 or97 Try.f97.ntmps (loopsIn (codeOf Try.f97)) :=
  LoOk.mk (m := 1) (by kernel_rfl) fun i hi => match i, hi with
    | 0, _ => ⟨Limpl_AreArcs_l0, by kernel_rfl, impl_AreArcs_l0o⟩
    | i + 1, hi => absurd hi (by omega)
theorem k97 : CalleeOk Try.prog 97 c97 := callee_mk Try.func97 (code := codeOf Try.f97) (by kernel_rfl) vL97 mixed o97 fun x y h => (e97 x).trans (p97 _ x y h)

/-- impl.goodValues -/
def EL98 : Nat → Option Callee := env0
theorem vL98 : EnvOk Try.prog EL98 := EnvOk.nil
def simpl_goodValues_l0 : LS := ⟨[(13, .one (.dat (.slice (.int .i64)))), (14, .one (.dat (.int .i64))), (15, .one (.dat (.int .i64)))], [], []⟩
def simpl_goodValues_l0x0 : LS := ⟨[(2, .one (.dat .bool))], [], []⟩
def simpl_goodValues_l0x1 : LS := ⟨[], [], []⟩
def ximpl_goodValues_l0 : List (XS ((List Int) × Int)) := [⟨.ret, ⟨[2], [], [], []⟩, simpl_goodValues_l0x0, Bool, fun i y => ((y, ()), ())⟩,
  ⟨.exit 0, ⟨[], [], [], []⟩, simpl_goodValues_l0x1, Unit, fun i y => ((), ())⟩]
def impl_goodValues_l0K {R : Type} (a0 : List Int) (a1 : Int) (rc : Int → Option R) (fin : (Bool ⊕ Unit) → Option R) (a2 : Int) : Option R :=
  cond (decide (a2 < a1))
  ((lat a0 a2).bind fun e1 =>
    cond (decide (e1 < (-1000000)))
    (fin (.inl false))
    (cond (decide (e1 > 1000000))
      (fin (.inl false))
      (rc (IntKind.i64.wrap (a2 + 1)))))
  (fin (.inr ()))
def impl_goodValues_l0F (a0 : List Int) (a1 : Int) (r : Int → Option (Bool ⊕ Unit)) (x : Int) : Option (Bool ⊕ Unit) := impl_goodValues_l0K a0 a1 (fun a2 => r a2) some x
theorem impl_goodValues_l0c (a0 : List Int) (a1 : Int) (x : Int) : Ct fun r => impl_goodValues_l0F a0 a1 r x := by
  unfold impl_goodValues_l0F impl_goodValues_l0K
  repeat' (first | exact Ct.const | exact Ct.call | refine Ct.cond ?_ ?_ | refine Ct.bind ?_ fun _ => ?_ | refine Ct.sum (fun _ => ?_) fun _ => ?_)
def impl_goodValues_l0 (a0 : List Int) (a1 : Int) (a2 : Int) : Option (Bool ⊕ Unit) := lim (impl_goodValues_l0F a0 a1) a2
theorem impl_goodValues_l0_eq (a0 : List Int) (a1 : Int) (a2 : Int) : impl_goodValues_l0 a0 a1 a2 = impl_goodValues_l0K a0 a1 (impl_goodValues_l0 a0 a1) some a2 := lim_eq (impl_goodValues_l0c a0 a1) a2
theorem impl_goodValues_l0p {R : Type} (a0 : List Int) (a1 : Int) {rc : Int → Option (Bool ⊕ Unit)} {rc' : Int → Option R} {fin : (Bool ⊕ Unit) → Option R} (hr : ∀ a2, Par fin (rc a2) (rc' a2)) (a2 : Int) : Par fin (impl_goodValues_l0K a0 a1 rc some a2) (impl_goodValues_l0K a0 a1 rc' fin a2) := by
  unfold impl_goodValues_l0K
  repeat' (first | exact .fin | exact .none | exact hr _ | refine .cond ?_ ?_ | refine .bind fun _ => ?_ | refine .sum (fun _ => ?_) fun _ => ?_)
def Limpl_goodValues_l0 : Loop := mkL ⟨[13, 14, 15], [], [], []⟩ simpl_goodValues_l0 ximpl_goodValues_l0 (fun (x : ((List Int) × Int × Int × Unit) × (Unit)) => (x.1.1, x.1.2.1)) fun (x : ((List Int) × Int × Int × Unit) × (Unit)) => impl_goodValues_l0 x.1.1 x.1.2.1 x.1.2.2.1
def impl_goodValuesK {R : Type} (fin : Bool → Option R) (x0 : List Int) : Option R :=
  cond (decide ((x0.length : Int) < 1))
  (fin false)
  (cond (decide ((x0.length : Int) > 120))
    (fin false)
    ((impl_goodValues_l0 x0 (x0.length : Int) 0).bind fun y2 =>
      sumO y2 (fun y3 =>
      fin y3)
      (fun y4 =>
      fin true)))
def impl_goodValues (x0 : List Int) : Option (Bool) := impl_goodValuesK some x0
theorem p98 {R : Type} (fin : Bool → Option R) (x0 : List Int) : Par fin (impl_goodValuesK some x0) (impl_goodValuesK fin x0) := by
  unfold impl_goodValuesK
  repeat' (first | exact .fin | exact .none | refine .cond ?_ ?_ | refine .bind fun _ => ?_ | refine .sum (fun _ => ?_) fun _ => ?_)
def or98 : Ora := { lo := addL 4 (Limpl_goodValues_l0) lo0, fin := [] }
theorem impl_goodValues_l0e (a0 : List Int) (a1 : Int) (k : Nat) (a2 : Int) : loopC Try.prog EL98 or98 ((loopsIn (codeOf Try.f98)).getD 0 .skip) (Limpl_goodValues_l0).h (Limpl_goodValues_l0).ho Try.f98.ntmps (k + 1) (simpl_goodValues_l0.out ((a0, (a1, (a2, ()))), ())) =
    impl_goodValues_l0K a0 a1 (fun a2 => loopC Try.prog EL98 or98 ((loopsIn (codeOf Try.f98)).getD 0 .skip) (Limpl_goodValues_l0).h (Limpl_goodValues_l0).ho Try.f98.ntmps k (simpl_goodValues_l0.out ((a0, (a1, (a2, ()))), ()))) (fun y => some (XS.out ximpl_goodValues_l0 (a0, a1) y)) a2 := by kernel_rfl
theorem impl_goodValues_l0o : LoopOk Try.prog EL98 or98 Try.f98.ntmps ((loopsIn (codeOf Try.f98)).getD 0 .skip) (Limpl_goodValues_l0) :=
  loop_lim (hs := simpl_goodValues_l0) (xs := ximpl_goodValues_l0) (ι := fun (x : ((List Int) × Int × Int × Unit) × (Unit)) => (x.1.1, x.1.2.1)) (φ := fun (x : ((List Int) × Int × Int × Unit) × (Unit)) => x.1.2.2.1) (ψ := fun (i : (List Int) × Int) (v : Int) => ((i.1, (i.2, (v, ()))), ())) (F := fun (i : (List Int) × Int) => impl_goodValues_l0F i.1 i.2) (fun _ => rfl) fun i k hk v => Par.of_eq (impl_goodValues_l0e i.1 i.2 k v) (impl_goodValues_l0p i.1 i.2 (fun a2 => hk a2) v)
def c98 : Callee := mkC [.one (.ro (.slice (.int .i64)))] 1 [.one (.ro .bool)] fun x => impl_goodValues x
theorem e98 (x : PK.dens [.one (.ro (.slice (.int .i64)))]) : evalFn Try.prog EL98 or98 Try.f98 (PK.outs [.one (.ro (.slice (.int .i64)))] x) =
    impl_goodValuesK (fun y => some (tupOf ((PK.outs [.one (.ro .bool)] y).take 1), (PK.outs [.one (.ro .bool)] y).drop 1)) x := by kernel_rfl
theorem o98 : LoOk Try.prog EL98 or98 Try.f98.ntmps (loopsIn (codeOf Try.f98)) :=
  LoOk.mk (m := 1) (by kernel_rfl) fun i hi => match i, hi with
    | 0, _ => ⟨Limpl_goodValues_l0, by kernel_rfl, impl_goodValues_l0o⟩
    | i + 1, hi => absurd hi (by omega)
theorem k98 : CalleeOk Try.prog 98 c98 := callee_mk Try.func98 (code := codeOf Try.f98) (by kernel_rfl) vL98 mixed o98 fun x y h => (e98 x).trans (p98 _ x y h)

/-- impl.areValued -/
def EL81 : Nat → Option Callee := addE 98 c98 (addE 97 c97 env0)
theorem vL81 : EnvOk Try.prog EL81 := (EnvOk.nil.add Try.func97 rfl (by kernel_rfl) k97).add Try.func98 rfl (by kernel_rfl) k98
def impl_areValuedK {R : Type} (fin : Bool → Option R) (x0 : List (List Int)) (x1 : List Int) : Option R :=
  (impl_AreArcs x0).bind fun y1 =>
  cond (y1)
  ((impl_goodValues x1).bind fun y2 =>
    cond (y2)
    (fin ((x1.length : Int) == (x0.length : Int)))
    (fin false))
  (fin false)
def impl_areValued (x0 : List (List Int)) (x1 : List Int) : Option (Bool) := impl_areValuedK some x0 x1
theorem p81 {R : Type} (fin : Bool → Option R) (x0 : List (List Int)) (x1 : List Int) : Par fin (impl_areValuedK some x0 x1) (impl_areValuedK fin x0 x1) := by
  unfold impl_areValuedK
  repeat' (first | exact .fin | exact .none | refine .cond ?_ ?_ | refine .bind fun _ => ?_ | refine .sum (fun _ => ?_) fun _ => ?_)
def c81 : Callee := mkC [.one (.ro (.slice (.slice (.int .i64)))), .one (.ro (.slice (.int .i64)))] 1 [.one (.ro .bool)] fun x => impl_areValued x.1 x.2
theorem e81 (x : PK.dens [.one (.ro (.slice (.slice (.int .i64)))), .one (.ro (.slice (.int .i64)))]) : evalFn Try.prog EL81 or0 Try.f81 (PK.outs [.one (.ro (.slice (.slice (.int .i64)))), .one (.ro (.slice (.int .i64)))] x) =
    impl_areValuedK (fun y => some (tupOf ((PK.outs [.one (.ro .bool)] y).take 1), (PK.outs [.one (.ro .bool)] y).drop 1)) x.1 x.2 := by kernel_rfl
theorem k81 : CalleeOk Try.prog 81 c81 := callee_mk Try.func81 (code := codeOf Try.f81) (by kernel_rfl) vL81 mixed (LoOk.nil (by kernel_rfl)) fun x y h => (e81 x).trans (p81 _ x.1 x.2 y h)

/-- impl.IsJob -/
def EL49 : Nat → Option Callee := addE 81 c81 env0
theorem vL49 : EnvOk Try.prog EL49 := EnvOk.nil.add Try.func81 rfl (by kernel_rfl) k81
def simpl_IsJob_l0 : LS := ⟨[(1, .one (.fix (.ptr 0 0))), (21, .one (.dat (.slice (.int .i64)))), (22, .one (.dat (.int .i64))), (23, .one (.dat (.int .i64)))], [.box [.dat (.slice (.slice (.int .i64))), .dat (.slice (.int .i64)), .dat (.slice (.int .i64)), .dat (.int .i64), .dat (.int .i64), .dat (.int .i64), .dat (.int .i64), .dat (.int .i64)]], []⟩
def simpl_IsJob_l0x0 : LS := ⟨[(2, .one (.dat .bool))], [], []⟩
def simpl_IsJob_l0x1 : LS := ⟨[(1, .one (.fix (.ptr 0 0)))], [.box [.dat (.slice (.slice (.int .i64))), .dat (.slice (.int .i64)), .dat (.slice (.int .i64)), .dat (.int .i64), .dat (.int .i64), .dat (.int .i64), .dat (.int .i64), .dat (.int .i64)]], []⟩
def ximpl_IsJob_l0 : List (XS ((List Int) × Int × (List (List Int)) × (List Int) × (List Int) × Int × Int × Int × Int × Int)) := [⟨.ret, ⟨[2], [], [], []⟩, simpl_IsJob_l0x0, Bool, fun i y => ((y, ()), ())⟩,
  ⟨.exit 0, ⟨[1], [.slot 1], [], []⟩, simpl_IsJob_l0x1, Unit, fun i y => (((), ()), ((i.2.2.1, (i.2.2.2.1, (i.2.2.2.2.1, (i.2.2.2.2.2.1, (i.2.2.2.2.2.2.1, (i.2.2.2.2.2.2.2.1, (i.2.2.2.2.2.2.2.2.1, (i.2.2.2.2.2.2.2.2.2, ())))))))), ()))⟩]
def impl_IsJob_l0K {R : Type} (a0 : List Int) (a1 : Int) (rc : Int → Option R) (fin : (Bool ⊕ Unit) → Option R) (a2 : Int) : Option R :=
  cond (decide (a2 < a1))
  ((lat a0 a2).bind fun e1 =>
    cond (decide (e1 < 0))
    (fin (.inl false))
    (cond (decide (e1 > 10000))
      (fin (.inl false))
      (rc (IntKind.i64.wrap (a2 + 1)))))
  (fin (.inr ()))
def impl_IsJob_l0F (a0 : List Int) (a1 : Int) (r : Int → Option (Bool ⊕ Unit)) (x : Int) : Option (Bool ⊕ Unit) := impl_IsJob_l0K a0 a1 (fun a2 => r a2) some x
theorem impl_IsJob_l0c (a0 : List Int) (a1 : Int) (x : Int) : Ct fun r => impl_IsJob_l0F a0 a1 r x := by
  unfold impl_IsJob_l0F impl_IsJob_l0K
  repeat' (first | exact Ct.const | exact Ct.call | refine Ct.cond ?_ ?_ | refine Ct.bind ?_ fun _ => ?_ | refine Ct.sum (fun _ => ?_) fun _ => ?_)
def impl_IsJob_l0 (a0 : List Int) (a1 : Int) (a2 : Int) : Option (Bool ⊕ Unit) := lim (impl_IsJob_l0F a0 a1) a2
theorem impl_IsJob_l0_eq (a0 : List Int) (a1 : Int) (a2 : Int) : impl_IsJob_l0 a0 a1 a2 = impl_IsJob_l0K a0 a1 (impl_IsJob_l0 a0 a1) some a2 := lim_eq (impl_IsJob_l0c a0 a1) a2
theorem impl_IsJob_l0p {R : Type} (a0 : List Int) (a1 : Int) {rc : Int → Option (Bool ⊕ Unit)} {rc' : Int → Option R} {fin : (Bool ⊕ Unit) → Option R} (hr : ∀ a2, Par fin (rc a2) (rc' a2)) (a2 : Int) : Par fin (impl_IsJob_l0K a0 a1 rc some a2) (impl_IsJob_l0K a0 a1 rc' fin a2) := by
  unfold impl_IsJob_l0K
  repeat' (first | exact .fin | exact .none | exact hr _ | refine .cond ?_ ?_ | refine .bind fun _ => ?_ | refine .sum (fun _ => ?_) fun _ => ?_)
def Limpl_IsJob_l0 : Loop := mkL ⟨[1, 21, 22, 23], [.slot 1], [], []⟩ simpl_IsJob_l0 ximpl_IsJob_l0 (fun (x : (Unit × (List Int) × Int × Int × Unit) × (((List (List Int)) × (List Int) × (List Int) × Int × Int × Int × Int × Int × Unit) × Unit)) => (x.1.2.1, (x.1.2.2.1, (x.2.1.1, (x.2.1.2.1, (x.2.1.2.2.1, (x.2.1.2.2.2.1, (x.2.1.2.2.2.2.1, (x.2.1.2.2.2.2.2.1, (x.2.1.2.2.2.2.2.2.1, x.2.1.2.2.2.2.2.2.2.1)))))))))) fun (x : (Unit × (List Int) × Int × Int × Unit) × (((List (List Int)) × (List Int) × (List Int) × Int × Int × Int × Int × Int × Unit) × Unit)) => impl_IsJob_l0 x.1.2.1 x.1.2.2.1 x.1.2.2.2.1
def impl_IsJobK {R : Type} (fin : Bool → Option R) (x0 : DJob) : Option R :=
  (impl_areValued x0.1 x0.2.2.1).bind fun y1 =>
  cond (!y1)
  (fin false)
  (cond ((x0.2.1.length : Int) != (x0.1.length : Int))
    (fin false)
    ((impl_IsJob_l0 x0.2.1 (x0.2.1.length : Int) 0).bind fun y3 =>
      sumO y3 (fun y4 =>
      fin y4)
      (fun y5 =>
      cond (decide (x0.2.2.2.1.1 ≥ 0))
        (cond (decide (x0.2.2.2.1.1 ≤ 1000000))
          (cond (decide (x0.2.2.2.1.2.1 ≥ 0))
            (cond (decide (x0.2.2.2.1.2.1 ≤ 1000000))
              (cond (decide (x0.2.2.2.2.1 ≥ 1))
                (cond (decide (x0.2.2.2.2.1 ≤ 6))
                  (cond (decide (x0.2.2.2.2.2.1 ≥ 1))
                    (cond (decide (x0.2.2.2.2.2.1 ≤ x0.2.2.2.2.2.2.1))
                      (fin (decide (x0.2.2.2.2.2.2.1 ≤ 20)))
                      (fin false))
                    (fin false))
                  (fin false))
                (fin false))
              (fin false))
            (fin false))
          (fin false))
        (fin false))))
def impl_IsJob (x0 : DJob) : Option (Bool) := impl_IsJobK some x0
theorem p49 {R : Type} (fin : Bool → Option R) (x0 : DJob) : Par fin (impl_IsJobK some x0) (impl_IsJobK fin x0) := by
  unfold impl_IsJobK
  repeat' (first | exact .fin | exact .none | refine .cond ?_ ?_ | refine .bind fun _ => ?_ | refine .sum (fun _ => ?_) fun _ => ?_)
def or49 : Ora := { lo := addL 4 (Limpl_IsJob_l0) lo0, fin := [] }
theorem impl_IsJob_l0e (a0 : List Int) (a1 : Int) (a3 : List (List Int)) (a4 : List Int) (a5 : List Int) (a6 : Int) (a7 : Int) (a8 : Int) (a9 : Int) (a10 : Int) (k : Nat) (a2 : Int) : loopC Try.prog EL49 or49 ((loopsIn (codeOf Try.f49)).getD 0 .skip) (Limpl_IsJob_l0).h (Limpl_IsJob_l0).ho Try.f49.ntmps (k + 1) (simpl_IsJob_l0.out (((), (a0, (a1, (a2, ())))), ((a3, (a4, (a5, (a6, (a7, (a8, (a9, (a10, ())))))))), ()))) =
    impl_IsJob_l0K a0 a1 (fun a2 => loopC Try.prog EL49 or49 ((loopsIn (codeOf Try.f49)).getD 0 .skip) (Limpl_IsJob_l0).h (Limpl_IsJob_l0).ho Try.f49.ntmps k (simpl_IsJob_l0.out (((), (a0, (a1, (a2, ())))), ((a3, (a4, (a5, (a6, (a7, (a8, (a9, (a10, ())))))))), ())))) (fun y => some (XS.out ximpl_IsJob_l0 (a0, (a1, (a3, (a4, (a5, (a6, (a7, (a8, (a9, a10))))))))) y)) a2 := by kernel_rfl
theorem impl_IsJob_l0o : LoopOk Try.prog EL49 or49 Try.f49.ntmps ((loopsIn (codeOf Try.f49)).getD 0 .skip) (Limpl_IsJob_l0) :=
  loop_lim (hs := simpl_IsJob_l0) (xs := ximpl_IsJob_l0) (ι := fun (x : (Unit × (List Int) × Int × Int × Unit) × (((List (List Int)) × (List Int) × (List Int) × Int × Int × Int × Int × Int × Unit) × Unit)) => (x.1.2.1, (x.1.2.2.1, (x.2.1.1, (x.2.1.2.1, (x.2.1.2.2.1, (x.2.1.2.2.2.1, (x.2.1.2.2.2.2.1, (x.2.1.2.2.2.2.2.1, (x.2.1.2.2.2.2.2.2.1, x.2.1.2.2.2.2.2.2.2.1)))))))))) (φ := fun (x : (Unit × (List Int) × Int × Int × Unit) × (((List (List Int)) × (List Int) × (List Int) × Int × Int × Int × Int × Int × Unit) × Unit)) => x.1.2.2.2.1) (ψ := fun (i : (List Int) × Int × (List (List Int)) × (List Int) × (List Int) × Int × Int × Int × Int × Int) (v : Int) => (((), (i.1, (i.2.1, (v, ())))), ((i.2.2.1, (i.2.2.2.1, (i.2.2.2.2.1, (i.2.2.2.2.2.1, (i.2.2.2.2.2.2.1, (i.2.2.2.2.2.2.2.1, (i.2.2.2.2.2.2.2.2.1, (i.2.2.2.2.2.2.2.2.2, ())))))))), ()))) (F := fun (i : (List Int) × Int × (List (List Int)) × (List Int) × (List Int) × Int × Int × Int × Int × Int) => impl_IsJob_l0F i.1 i.2.1) (fun _ => rfl) fun i k hk v => Par.of_eq (impl_IsJob_l0e i.1 i.2.1 i.2.2.1 i.2.2.2.1 i.2.2.2.2.1 i.2.2.2.2.2.1 i.2.2.2.2.2.2.1 i.2.2.2.2.2.2.2.1 i.2.2.2.2.2.2.2.2.1 i.2.2.2.2.2.2.2.2.2 k v) (impl_IsJob_l0p i.1 i.2.1 (fun a2 => hk a2) v)
def c49 : Callee := mkC [.agg [.ro TJob]] 1 [.one (.ro .bool)] fun x => impl_IsJob x
theorem e49 (x : PK.dens [.agg [.ro TJob]]) : evalFn Try.prog EL49 or49 Try.f49 (PK.outs [.agg [.ro TJob]] x) =
    impl_IsJobK (fun y => some (tupOf ((PK.outs [.one (.ro .bool)] y).take 1), (PK.outs [.one (.ro .bool)] y).drop 1)) x := by kernel_rfl
theorem o49 : LoOk Try.prog EL49 or49 Try.f49.ntmps (loopsIn (codeOf Try.f49)) :=
  LoOk.mk (m := 1) (by kernel_rfl) fun i hi => match i, hi with
    | 0, _ => ⟨Limpl_IsJob_l0, by kernel_rfl, impl_IsJob_l0o⟩
    | i + 1, hi => absurd hi (by omega)
theorem k49 : CalleeOk Try.prog 49 c49 := callee_mk Try.func49 (code := codeOf Try.f49) (by kernel_rfl) vL49 mixed o49 fun x y h => (e49 x).trans (p49 _ x y h)

/-- impl.isPlan -/
def EL57 : Nat → Option Callee := env0
theorem vL57 : EnvOk Try.prog EL57 := EnvOk.nil
def simpl_isPlan_l0 : LS := ⟨[(2, .one (.fix (.ptr 0 0))), (22, .one (.dat (.slice (.int .i64)))), (23, .one (.dat (.int .i64))), (24, .one (.dat (.int .i64)))], [.box [.dat (.slice (.slice (.int .i64))), .dat (.slice (.int .i64)), .dat (.slice (.int .i64)), .dat (.int .i64), .dat (.int .i64), .dat (.int .i64), .dat (.int .i64), .dat (.int .i64)]], []⟩
def simpl_isPlan_l0x0 : LS := ⟨[(4, .one (.dat .bool))], [], []⟩
def simpl_isPlan_l0x1 : LS := ⟨[], [], []⟩
def ximpl_isPlan_l0 : List (XS ((List Int) × Int × (List (List Int)) × (List Int) × (List Int) × Int × Int × Int × Int × Int)) := [⟨.ret, ⟨[4], [], [], []⟩, simpl_isPlan_l0x0, Bool, fun i y => ((y, ()), ())⟩,
  ⟨.exit 0, ⟨[], [], [], []⟩, simpl_isPlan_l0x1, Unit, fun i y => ((), ())⟩]
def impl_isPlan_l0K {R : Type} (a0 : List Int) (a1 : Int) (a8 : Int) (rc : Int → Option R) (fin : (Bool ⊕ Unit) → Option R) (a2 : Int) : Option R :=
  cond (decide (a2 < a1))
  ((lat a0 a2).bind fun e1 =>
    cond (decide (e1 < (-1)))
    (fin (.inl false))
    (cond (decide (e1 ≥ a8))
      (fin (.inl false))
      (rc (IntKind.i64.wrap (a2 + 1)))))
  (fin (.inr ()))
def impl_isPlan_l0F (a0 : List Int) (a1 : Int) (a8 : Int) (r : Int → Option (Bool ⊕ Unit)) (x : Int) : Option (Bool ⊕ Unit) := impl_isPlan_l0K a0 a1 a8 (fun a2 => r a2) some x
theorem impl_isPlan_l0c (a0 : List Int) (a1 : Int) (a8 : Int) (x : Int) : Ct fun r => impl_isPlan_l0F a0 a1 a8 r x := by
  unfold impl_isPlan_l0F impl_isPlan_l0K
  repeat' (first | exact Ct.const | exact Ct.call | refine Ct.cond ?_ ?_ | refine Ct.bind ?_ fun _ => ?_ | refine Ct.sum (fun _ => ?_) fun _ => ?_)
def impl_isPlan_l0 (a0 : List Int) (a1 : Int) (a8 : Int) (a2 : Int) : Option (Bool ⊕ Unit) := lim (impl_isPlan_l0F a0 a1 a8) a2
theorem impl_isPlan_l0_eq (a0 : List Int) (a1 : Int) (a8 : Int) (a2 : Int) : impl_isPlan_l0 a0 a1 a8 a2 = impl_isPlan_l0K a0 a1 a8 (impl_isPlan_l0 a0 a1 a8) some a2 := lim_eq (impl_isPlan_l0c a0 a1 a8) a2
theorem impl_isPlan_l0p {R : Type} (a0 : List Int) (a1 : Int) (a8 : Int) {rc : Int → Option (Bool ⊕ Unit)} {rc' : Int → Option R} {fin : (Bool ⊕ Unit) → Option R} (hr : ∀ a2, Par fin (rc a2) (rc' a2)) (a2 : Int) : Par fin (impl_isPlan_l0K a0 a1 a8 rc some a2) (impl_isPlan_l0K a0 a1 a8 rc' fin a2) := by
  unfold impl_isPlan_l0K
  repeat' (first | exact .fin | exact .none | exact hr _ | refine .cond ?_ ?_ | refine .bind fun _ => ?_ | refine .sum (fun _ => ?_) fun _ => ?_)
def Limpl_isPlan_l0 : Loop := mkL ⟨[2, 22, 23, 24], [.slot 2], [], []⟩ simpl_isPlan_l0 ximpl_isPlan_l0 (fun (x : (Unit × (List Int) × Int × Int × Unit) × (((List (List Int)) × (List Int) × (List Int) × Int × Int × Int × Int × Int × Unit) × Unit)) => (x.1.2.1, (x.1.2.2.1, (x.2.1.1, (x.2.1.2.1, (x.2.1.2.2.1, (x.2.1.2.2.2.1, (x.2.1.2.2.2.2.1, (x.2.1.2.2.2.2.2.1, (x.2.1.2.2.2.2.2.2.1, x.2.1.2.2.2.2.2.2.2.1)))))))))) fun (x : (Unit × (List Int) × Int × Int × Unit) × (((List (List Int)) × (List Int) × (List Int) × Int × Int × Int × Int × Int × Unit) × Unit)) => impl_isPlan_l0 x.1.2.1 x.1.2.2.1 x.2.1.2.2.2.2.2.1 x.1.2.2.2.1
def impl_isPlanK {R : Type} (fin : Bool → Option R) (x0 : DJob) (x1 : DPlan) : Option R :=
  cond (x1.1 != x0.2.2.2.2.1)
  (fin false)
  (cond ((x1.2.1.length : Int) != (x0.1.length : Int))
    (fin false)
    ((impl_isPlan_l0 x1.2.1 (x1.2.1.length : Int) x0.2.2.2.2.1 0).bind fun y2 =>
      sumO y2 (fun y3 =>
      fin y3)
      (fun y4 =>
      fin true)))
def impl_isPlan (x0 : DJob) (x1 : DPlan) : Option (Bool) := impl_isPlanK some x0 x1
theorem p57 {R : Type} (fin : Bool → Option R) (x0 : DJob) (x1 : DPlan) : Par fin (impl_isPlanK some x0 x1) (impl_isPlanK fin x0 x1) := by
  unfold impl_isPlanK
  repeat' (first | exact .fin | exact .none | refine .cond ?_ ?_ | refine .bind fun _ => ?_ | refine .sum (fun _ => ?_) fun _ => ?_)
def or57 : Ora := { lo := addL 4 (Limpl_isPlan_l0) lo0, fin := [] }
theorem impl_isPlan_l0e (a0 : List Int) (a1 : Int) (a3 : List (List Int)) (a4 : List Int) (a5 : List Int) (a6 : Int) (a7 : Int) (a8 : Int) (a9 : Int) (a10 : Int) (k : Nat) (a2 : Int) : loopC Try.prog EL57 or57 ((loopsIn (codeOf Try.f57)).getD 0 .skip) (Limpl_isPlan_l0).h (Limpl_isPlan_l0).ho Try.f57.ntmps (k + 1) (simpl_isPlan_l0.out (((), (a0, (a1, (a2, ())))), ((a3, (a4, (a5, (a6, (a7, (a8, (a9, (a10, ())))))))), ()))) =
    impl_isPlan_l0K a0 a1 a8 (fun a2 => loopC Try.prog EL57 or57 ((loopsIn (codeOf Try.f57)).getD 0 .skip) (Limpl_isPlan_l0).h (Limpl_isPlan_l0).ho Try.f57.ntmps k (simpl_isPlan_l0.out (((), (a0, (a1, (a2, ())))), ((a3, (a4, (a5, (a6, (a7, (a8, (a9, (a10, ())))))))), ())))) (fun y => some (XS.out ximpl_isPlan_l0 (a0, (a1, (a3, (a4, (a5, (a6, (a7, (a8, (a9, a10))))))))) y)) a2 := by kernel_rfl
theorem impl_isPlan_l0o : LoopOk Try.prog EL57 or57 Try.f57.ntmps ((loopsIn (codeOf Try.f57)).getD 0 .skip) (Limpl_isPlan_l0) :=
  loop_lim (hs := simpl_isPlan_l0) (xs := ximpl_isPlan_l0) (ι := fun (x : (Unit × (List Int) × Int × Int × Unit) × (((List (List Int)) × (List Int) × (List Int) × Int × Int × Int × Int × Int × Unit) × Unit)) => (x.1.2.1, (x.1.2.2.1, (x.2.1.1, (x.2.1.2.1, (x.2.1.2.2.1, (x.2.1.2.2.2.1, (x.2.1.2.2.2.2.1, (x.2.1.2.2.2.2.2.1, (x.2.1.2.2.2.2.2.2.1, x.2.1.2.2.2.2.2.2.2.1)))))))))) (φ := fun (x : (Unit × (List Int) × Int × Int × Unit) × (((List (List Int)) × (List Int) × (List Int) × Int × Int × Int × Int × Int × Unit) × Unit)) => x.1.2.2.2.1) (ψ := fun (i : (List Int) × Int × (List (List Int)) × (List Int) × (List Int) × Int × Int × Int × Int × Int) (v : Int) => (((), (i.1, (i.2.1, (v, ())))), ((i.2.2.1, (i.2.2.2.1, (i.2.2.2.2.1, (i.2.2.2.2.2.1, (i.2.2.2.2.2.2.1, (i.2.2.2.2.2.2.2.1, (i.2.2.2.2.2.2.2.2.1, (i.2.2.2.2.2.2.2.2.2, ())))))))), ()))) (F := fun (i : (List Int) × Int × (List (List Int)) × (List Int) × (List Int) × Int × Int × Int × Int × Int) => impl_isPlan_l0F i.1 i.2.1 i.2.2.2.2.2.2.2.1) (fun _ => rfl) fun i k hk v => Par.of_eq (impl_isPlan_l0e i.1 i.2.1 i.2.2.1 i.2.2.2.1 i.2.2.2.2.1 i.2.2.2.2.2.1 i.2.2.2.2.2.2.1 i.2.2.2.2.2.2.2.1 i.2.2.2.2.2.2.2.2.1 i.2.2.2.2.2.2.2.2.2 k v) (impl_isPlan_l0p i.1 i.2.1 i.2.2.2.2.2.2.2.1 (fun a2 => hk a2) v)
def c57 : Callee := mkC [.agg [.ro TJob], .agg [.ro TPlan]] 1 [.one (.ro .bool)] fun x => impl_isPlan x.1 x.2
theorem e57 (x : PK.dens [.agg [.ro TJob], .agg [.ro TPlan]]) : evalFn Try.prog EL57 or57 Try.f57 (PK.outs [.agg [.ro TJob], .agg [.ro TPlan]] x) =
    impl_isPlanK (fun y => some (tupOf ((PK.outs [.one (.ro .bool)] y).take 1), (PK.outs [.one (.ro .bool)] y).drop 1)) x.1 x.2 := by kernel_rfl
theorem o57 : LoOk Try.prog EL57 or57 Try.f57.ntmps (loopsIn (codeOf Try.f57)) :=
  LoOk.mk (m := 1) (by kernel_rfl) fun i hi => match i, hi with
    | 0, _ => ⟨Limpl_isPlan_l0, by kernel_rfl, impl_isPlan_l0o⟩
    | i + 1, hi => absurd hi (by omega)
theorem k57 : CalleeOk Try.prog 57 c57 := callee_mk Try.func57 (code := codeOf Try.f57) (by kernel_rfl) vL57 mixed o57 fun x y h => (e57 x).trans (p57 _ x.1 x.2 y h)

/-- spec.l1In -/
def EL69 : Nat → Option Callee := env0
theorem vL69 : EnvOk Try.prog EL69 := EnvOk.nil
def spec_l1InK {R : Type} (fin : Bool → Option R) (x0 : Int) (x1 : Int) (x2 : Int) : Option R :=
  cond (decide (x0 ≥ x1))
  (fin (decide (x0 ≤ x2)))
  (fin false)
def spec_l1In (x0 : Int) (x1 : Int) (x2 : Int) : Option (Bool) := spec_l1InK some x0 x1 x2
theorem p69 {R : Type} (fin : Bool → Option R) (x0 : Int) (x1 : Int) (x2 : Int) : Par fin (spec_l1InK some x0 x1 x2) (spec_l1InK fin x0 x1 x2) := by
  unfold spec_l1InK
  repeat' (first | exact .fin | exact .none | refine .cond ?_ ?_ | refine .bind fun _ => ?_ | refine .sum (fun _ => ?_) fun _ => ?_)
def c69 : Callee := mkC [.one (.ro (.int .i64)), .one (.ro (.int .i64)), .one (.ro (.int .i64))] 1 [.one (.ro .bool)] fun x => spec_l1In x.1 x.2.1 x.2.2
theorem e69 (x : PK.dens [.one (.ro (.int .i64)), .one (.ro (.int .i64)), .one (.ro (.int .i64))]) : evalFn Try.prog EL69 or0 Try.f69 (PK.outs [.one (.ro (.int .i64)), .one (.ro (.int .i64)), .one (.ro (.int .i64))] x) =
    spec_l1InK (fun y => some (tupOf ((PK.outs [.one (.ro .bool)] y).take 1), (PK.outs [.one (.ro .bool)] y).drop 1)) x.1 x.2.1 x.2.2 := by kernel_rfl
theorem k69 : CalleeOk Try.prog 69 c69 := callee_mk Try.func69 (code := codeOf Try.f69) (by kernel_rfl) vL69 mixed (LoOk.nil (by kernel_rfl)) fun x y h => (e69 x).trans (p69 _ x.1 x.2.1 x.2.2 y h)

/-- spec.l1Rising -/
def EL101 : Nat → Option Callee := addE 69 c69 env0
theorem vL101 : EnvOk Try.prog EL101 := EnvOk.nil.add Try.func69 rfl (by kernel_rfl) k69
def sspec_l1Rising_l0 : LS := ⟨[(0, .one (.dat (.slice (.int .i64)))), (1, .one (.dat (.int .i64))), (2, .one (.dat (.int .i64))), (9, .one (.dat (.slice (.int .i64)))), (10, .one (.dat (.int .i64))), (11, .one (.dat (.int .i64)))], [], []⟩
def sspec_l1Rising_l0x0 : LS := ⟨[(6, .one (.dat .bool))], [], []⟩
def sspec_l1Rising_l0x1 : LS := ⟨[], [], []⟩
def xspec_l1Rising_l0 : List (XS ((List Int) × Int × Int × (List Int) × Int)) := [⟨.ret, ⟨[6], [], [], []⟩, sspec_l1Rising_l0x0, Bool, fun i y => ((y, ()), ())⟩,
  ⟨.exit 0, ⟨[], [], [], []⟩, sspec_l1Rising_l0x1, Unit, fun i y => ((), ())⟩]
def spec_l1Rising_l0K {R : Type} (a0 : List Int) (a1 : Int) (a2 : Int) (a3 : List Int) (a4 : Int) (rc : Int → Option R) (fin : (Bool ⊕ Unit) → Option R) (a5 : Int) : Option R :=
  cond (decide (a5 < a4))
  ((lat a3 a5).bind fun e1 =>
    (spec_l1In e1 a1 a2).bind fun y2 =>
    cond (!y2)
    (fin (.inl false))
    (cond (decide (a5 > 0))
      ((lat a0 (IntKind.i64.wrap (a5 - 1))).bind fun e3 =>
        cond (decide (e3 ≥ e1))
        (fin (.inl false))
        (rc (IntKind.i64.wrap (a5 + 1))))
      (rc (IntKind.i64.wrap (a5 + 1)))))
  (fin (.inr ()))
def spec_l1Rising_l0F (a0 : List Int) (a1 : Int) (a2 : Int) (a3 : List Int) (a4 : Int) (r : Int → Option (Bool ⊕ Unit)) (x : Int) : Option (Bool ⊕ Unit) := spec_l1Rising_l0K a0 a1 a2 a3 a4 (fun a5 => r a5) some x
theorem spec_l1Rising_l0c (a0 : List Int) (a1 : Int) (a2 : Int) (a3 : List Int) (a4 : Int) (x : Int) : Ct fun r => spec_l1Rising_l0F a0 a1 a2 a3 a4 r x := by
  unfold spec_l1Rising_l0F spec_l1Rising_l0K
  repeat' (first | exact Ct.const | exact Ct.call | refine Ct.cond ?_ ?_ | refine Ct.bind ?_ fun _ => ?_ | refine Ct.sum (fun _ => ?_) fun _ => ?_)
def spec_l1Rising_l0 (a0 : List Int) (a1 : Int) (a2 : Int) (a3 : List Int) (a4 : Int) (a5 : Int) : Option (Bool ⊕ Unit) := lim (spec_l1Rising_l0F a0 a1 a2 a3 a4) a5
theorem spec_l1Rising_l0_eq (a0 : List Int) (a1 : Int) (a2 : Int) (a3 : List Int) (a4 : Int) (a5 : Int) : spec_l1Rising_l0 a0 a1 a2 a3 a4 a5 = spec_l1Rising_l0K a0 a1 a2 a3 a4 (spec_l1Rising_l0 a0 a1 a2 a3 a4) some a5 := lim_eq (spec_l1Rising_l0c a0 a1 a2 a3 a4) a5
theorem spec_l1Rising_l0p {R : Type} (a0 : List Int) (a1 : Int) (a2 : Int) (a3 : List Int) (a4 : Int) {rc : Int → Option (Bool ⊕ Unit)} {rc' : Int → Option R} {fin : (Bool ⊕ Unit) → Option R} (hr : ∀ a5, Par fin (rc a5) (rc' a5)) (a5 : Int) : Par fin (spec_l1Rising_l0K a0 a1 a2 a3 a4 rc some a5) (spec_l1Rising_l0K a0 a1 a2 a3 a4 rc' fin a5) := by
  unfold spec_l1Rising_l0K
  repeat' (first | exact .fin | exact .none | exact hr _ | refine .cond ?_ ?_ | refine .bind fun _ => ?_ | refine .sum (fun _ => ?_) fun _ => ?_)
def Lspec_l1Rising_l0 : Loop := mkL ⟨[0, 1, 2, 9, 10, 11], [], [], []⟩ sspec_l1Rising_l0 xspec_l1Rising_l0 (fun (x : ((List Int) × Int × Int × (List Int) × Int × Int × Unit) × (Unit)) => (x.1.1, (x.1.2.1, (x.1.2.2.1, (x.1.2.2.2.1, x.1.2.2.2.2.1))))) fun (x : ((List Int) × Int × Int × (List Int) × Int × Int × Unit) × (Unit)) => spec_l1Rising_l0 x.1.1 x.1.2.1 x.1.2.2.1 x.1.2.2.2.1 x.1.2.2.2.2.1 x.1.2.2.2.2.2.1
def spec_l1RisingK {R : Type} (fin : Bool → Option R) (x0 : List Int) (x1 : Int) (x2 : Int) : Option R :=
  (spec_l1Rising_l0 x0 x1 x2 x0 (x0.length : Int) 0).bind fun y4 =>
  sumO y4 (fun y5 =>
  fin y5)
  (fun y6 =>
  fin true)
def spec_l1Rising (x0 : List Int) (x1 : Int) (x2 : Int) : Option (Bool) := spec_l1RisingK some x0 x1 x2
theorem p101 {R : Type} (fin : Bool → Option R) (x0 : List Int) (x1 : Int) (x2 : Int) : Par fin (spec_l1RisingK some x0 x1 x2) (spec_l1RisingK fin x0 x1 x2) := by
  unfold spec_l1RisingK
  repeat' (first | exact .fin | exact .none | refine .cond ?_ ?_ | refine .bind fun _ => ?_ | refine .sum (fun _ => ?_) fun _ => ?_)
def or101 : Ora := { lo := addL 2 (Lspec_l1Rising_l0) lo0, fin := [] }
theorem spec_l1Rising_l0e (a0 : List Int) (a1 : Int) (a2 : Int) (a3 : List Int) (a4 : Int) (k : Nat) (a5 : Int) : loopC Try.prog EL101 or101 ((loopsIn (codeOf Try.f101)).getD 0 .skip) (Lspec_l1Rising_l0).h (Lspec_l1Rising_l0).ho Try.f101.ntmps (k + 1) (sspec_l1Rising_l0.out ((a0, (a1, (a2, (a3, (a4, (a5, ())))))), ())) =
    spec_l1Rising_l0K a0 a1 a2 a3 a4 (fun a5 => loopC Try.prog EL101 or101 ((loopsIn (codeOf Try.f101)).getD 0 .skip) (Lspec_l1Rising_l0).h (Lspec_l1Rising_l0).ho Try.f101.ntmps k (sspec_l1Rising_l0.out ((a0, (a1, (a2, (a3, (a4, (a5, ())))))), ()))) (fun y => some (XS.out xspec_l1Rising_l0 (a0, (a1, (a2, (a3, a4)))) y)) a5 := by kernel_rfl
theorem spec_l1Rising_l0o : LoopOk Try.prog EL101 or101 Try.f101.ntmps ((loopsIn (codeOf Try.f101)).getD 0 .skip) (Lspec_l1Rising_l0) :=
  loop_lim (hs := sspec_l1Rising_l0) (xs := xspec_l1Rising_l0) (ι := fun (x : ((List Int) × Int × Int × (List Int) × Int × Int × Unit) × (Unit)) => (x.1.1, (x.1.2.1, (x.1.2.2.1, (x.1.2.2.2.1, x.1.2.2.2.2.1))))) (φ := fun (x : ((List Int) × Int × Int × (List Int) × Int × Int × Unit) × (Unit)) => x.1.2.2.2.2.2.1) (ψ := fun (i : (List Int) × Int × Int × (List Int) × Int) (v : Int) => ((i.1, (i.2.1, (i.2.2.1, (i.2.2.2.1, (i.2.2.2.2, (v, ())))))), ())) (F := fun (i : (List Int) × Int × Int × (List Int) × Int) => spec_l1Rising_l0F i.1 i.2.1 i.2.2.1 i.2.2.2.1 i.2.2.2.2) (fun _ => rfl) fun i k hk v => Par.of_eq (spec_l1Rising_l0e i.1 i.2.1 i.2.2.1 i.2.2.2.1 i.2.2.2.2 k v) (spec_l1Rising_l0p i.1 i.2.1 i.2.2.1 i.2.2.2.1 i.2.2.2.2 (fun a5 => hk a5) v)
def c101 : Callee := mkC [.one (.ro (.slice (.int .i64))), .one (.ro (.int .i64)), .one (.ro (.int .i64))] 1 [.one (.ro .bool)] fun x => spec_l1Rising x.1 x.2.1 x.2.2
theorem e101 (x : PK.dens [.one (.ro (.slice (.int .i64))), .one (.ro (.int .i64)), .one (.ro (.int .i64))]) : evalFn Try.prog EL101 or101 Try.f101 (PK.outs [.one (.ro (.slice (.int .i64))), .one (.ro (.int .i64)), .one (.ro (.int .i64))] x) =
    spec_l1RisingK (fun y => some (tupOf ((PK.outs [.one (.ro .bool)] y).take 1), (PK.outs [.one (.ro .bool)] y).drop 1)) x.1 x.2.1 x.2.2 := by kernel_rfl
theorem o101 : LoOk Try.prog EL101 or101 Try.f101.ntmps (loopsIn (codeOf Try.f101)) :=
  LoOk.mk (m := 1) (by kernel_rfl) fun i hi => match i, hi with
    | 0, _ => ⟨Lspec_l1Rising_l0, by kernel_rfl, spec_l1Rising_l0o⟩
    | i + 1, hi => absurd hi (by omega)
theorem k101 : CalleeOk Try.prog 101 c101 := callee_mk Try.func101 (code := codeOf Try.f101) (by kernel_rfl) vL101 mixed o101 fun x y h => (e101 x).trans (p101 _ x.1 x.2.1 x.2.2 y h)

/-- spec.clArcs -/
def EL96 : Nat → Option Callee := addE 69 c69 (addE 101 c101 env0)
theorem vL96 : EnvOk Try.prog EL96 := (EnvOk.nil.add Try.func101 rfl (by kernel_rfl) k101).add Try.func69 rfl (by kernel_rfl) k69
def sspec_clArcs_l0 : LS := ⟨[(0, .one (.dat (.slice (.slice (.int .i64))))), (5, .one (.dat (.slice (.slice (.int .i64))))), (6, .one (.dat (.int .i64))), (7, .one (.dat (.int .i64)))], [], []⟩
def sspec_clArcs_l0x0 : LS := ⟨[(2, .one (.dat .bool))], [], []⟩
def sspec_clArcs_l0x1 : LS := ⟨[(0, .one (.dat (.slice (.slice (.int .i64)))))], [], []⟩
def xspec_clArcs_l0 : List (XS ((List (List Int)) × (List (List Int)) × Int)) := [⟨.ret, ⟨[2], [], [], []⟩, sspec_clArcs_l0x0, Bool, fun i y => ((y, ()), ())⟩,
  ⟨.exit 0, ⟨[0], [], [], []⟩, sspec_clArcs_l0x1, Unit, fun i y => ((i.1, ()), ())⟩]
def spec_clArcs_l0K {R : Type} (a1 : List (List Int)) (a2 : Int) (rc : Int → Option R) (fin : (Bool ⊕ Unit) → Option R) (a3 : Int) : Option R :=
  cond (decide (a3 < a2))
  ((lat a1 a3).bind fun e1 =>
    (spec_l1Rising e1 0 (IntKind.i64.wrap (a3 - 1))).bind fun y2 =>
    cond (!y2)
    (fin (.inl false))
    (rc (IntKind.i64.wrap (a3 + 1))))
  (fin (.inr ()))
def spec_clArcs_l0F (a1 : List (List Int)) (a2 : Int) (r : Int → Option (Bool ⊕ Unit)) (x : Int) : Option (Bool ⊕ Unit) := spec_clArcs_l0K a1 a2 (fun a3 => r a3) some x
theorem spec_clArcs_l0c (a1 : List (List Int)) (a2 : Int) (x : Int) : Ct fun r => spec_clArcs_l0F a1 a2 r x := by
  unfold spec_clArcs_l0F spec_clArcs_l0K
  repeat' (first | exact Ct.const | exact Ct.call | refine Ct.cond ?_ ?_ | refine Ct.bind ?_ fun _ => ?_ | refine Ct.sum (fun _ => ?_) fun _ => ?_)
def spec_clArcs_l0 (a1 : List (List Int)) (a2 : Int) (a3 : Int) : Option (Bool ⊕ Unit) := lim (spec_clArcs_l0F a1 a2) a3
theorem spec_clArcs_l0_eq (a1 : List (List Int)) (a2 : Int) (a3 : Int) : spec_clArcs_l0 a1 a2 a3 = spec_clArcs_l0K a1 a2 (spec_clArcs_l0 a1 a2) some a3 := lim_eq (spec_clArcs_l0c a1 a2) a3
theorem spec_clArcs_l0p {R : Type} (a1 : List (List Int)) (a2 : Int) {rc : Int → Option (Bool ⊕ Unit)} {rc' : Int → Option R} {fin : (Bool ⊕ Unit) → Option R} (hr : ∀ a3, Par fin (rc a3) (rc' a3)) (a3 : Int) : Par fin (spec_clArcs_l0K a1 a2 rc some a3) (spec_clArcs_l0K a1 a2 rc' fin a3) := by
  unfold spec_clArcs_l0K
  repeat' (first | exact .fin | exact .none | exact hr _ | refine .cond ?_ ?_ | refine .bind fun _ => ?_ | refine .sum (fun _ => ?_) fun _ => ?_)
def Lspec_clArcs_l0 : Loop := mkL ⟨[0, 5, 6, 7], [], [], []⟩ sspec_clArcs_l0 xspec_clArcs_l0 (fun (x : ((List (List Int)) × (List (List Int)) × Int × Int × Unit) × (Unit)) => (x.1.1, (x.1.2.1, x.1.2.2.1))) fun (x : ((List (List Int)) × (List (List Int)) × Int × Int × Unit) × (Unit)) => spec_clArcs_l0 x.1.2.1 x.1.2.2.1 x.1.2.2.2.1
def spec_clArcsK {R : Type} (fin : Bool → Option R) (x0 : List (List Int)) : Option R :=
  (spec_clArcs_l0 x0 (x0.length : Int) 0).bind fun y3 =>
  sumO y3 (fun y4 =>
  fin y4)
  (fun y5 =>
  (spec_l1In (x0.length : Int) 1 120).bind fun y6 =>
    fin y6)
def spec_clArcs (x0 : List (List Int)) : Option (Bool) := spec_clArcsK some x0
theorem p96 {R : Type} (fin : Bool → Option R) (x0 : List (List Int)) : Par fin (spec_clArcsK some x0) (spec_clArcsK fin x0) := by
  unfold spec_clArcsK
  repeat' (first | exact .fin | exact .none | refine .cond ?_ ?_ | refine .bind fun _ => ?_ | refine .sum (fun _ => ?_) fun _ => ?_)
def or96 : Ora := { lo := addL 2 (Lspec_clArcs_l0) lo0, fin := [] }
theorem spec_clArcs_l0e (a0 : List (List Int)) (a1 : List (List Int)) (a2 : Int) (k : Nat) (a3 : Int) : loopC Try.prog EL96 or96 ((loopsIn (codeOf Try.f96)).getD 0 .skip) (Lspec_clArcs_l0).h (Lspec_clArcs_l0).ho Try.f96.ntmps (k + 1) (sspec_clArcs_l0.out ((a0, (a1, (a2, (a3, ())))), ())) =
    spec_clArcs_l0K a1 a2 (fun a3 => loopC Try.prog EL96 or96 ((loopsIn (codeOf Try.f96)).getD 0 .skip) (Lspec_clArcs_l0).h (Lspec_clArcs_l0).ho Try.f96.ntmps k (sspec_clArcs_l0.out ((a0, (a1, (a2, (a3, ())))), ()))) (fun y => some (XS.out xspec_clArcs_l0 (a0, (a1, a2)) y)) a3 := by kernel_rfl
theorem spec_clArcs_l0o : LoopOk Try.prog EL96 or96 Try.f96.ntmps ((loopsIn (codeOf Try.f96)).getD 0 .skip) (Lspec_clArcs_l0) :=
  loop_lim (hs := sspec_clArcs_l0) (xs := xspec_clArcs_l0) (ι := fun (x : ((List (List Int)) × (List (List Int)) × Int × Int × Unit) × (Unit)) => (x.1.1, (x.1.2.1, x.1.2.2.1))) (φ := fun (x : ((List (List Int)) × (List (List Int)) × Int × Int × Unit) × (Unit)) => x.1.2.2.2.1) (ψ := fun (i : (List (List Int)) × (List (List Int)) × Int) (v : Int) => ((i.1, (i.2.1, (i.2.2, (v, ())))), ())) (F := fun (i : (List (List Int)) × (List (List Int)) × Int) => spec_clArcs_l0F i.2.1 i.2.2) (fun _ => rfl) fun i k hk v => Par.of_eq (spec_clArcs_l0e i.1 i.2.1 i.2.2 k v) (spec_clArcs_l0p i.2.1 i.2.2 (fun a3 => hk a3) v)
def c96 : Callee := mkC [.one (.ro (.slice (.slice (.int .i64))))] 1 [.one (.ro .bool)] fun x => spec_clArcs x
theorem e96 (x : PK.dens [.one (.ro (.slice (.slice (.int .i64))))]) : evalFn Try.prog EL96 or96 Try.f96 (PK.outs [.one (.ro (.slice (.slice (.int .i64))))] x) =
    spec_clArcsK (fun y => some (tupOf ((PK.outs [.one (.ro .bool)] y).take 1), (PK.outs [.one (.ro .bool)] y).drop 1)) x := by kernel_rfl
theorem o96 : LoOk Try.prog EL96 or96 Try.f96.ntmps (loopsIn (codeOf Try.f96)) :=
  LoOk.mk (m := 1) (by kernel_rfl) fun i hi => match i, hi with
    | 0, _ => ⟨Lspec_clArcs_l0, by kernel_rfl, spec_clArcs_l0o⟩
    | i + 1, hi => absurd hi (by omega)
theorem k96 : CalleeOk Try.prog 96 c96 := callee_mk Try.func96 (code := codeOf Try.f96) (by kernel_rfl) vL96 mixed o96 fun x y h => (e96 x).trans (p96 _ x y h)

/-- spec.l1All -/
def EL87 : Nat → Option Callee := addE 69 c69 env0
theorem vL87 : EnvOk Try.prog EL87 := EnvOk.nil.add Try.func69 rfl (by kernel_rfl) k69
def sspec_l1All_l0 : LS := ⟨[(1, .one (.dat (.int .i64))), (2, .one (.dat (.int .i64))), (9, .one (.dat (.slice (.int .i64)))), (10, .one (.dat (.int .i64))), (11, .one (.dat (.int .i64)))], [], []⟩
def sspec_l1All_l0x0 : LS := ⟨[(6, .one (.dat .bool))], [], []⟩
def sspec_l1All_l0x1 : LS := ⟨[], [], []⟩
def xspec_l1All_l0 : List (XS (Int × Int × (List Int) × Int)) := [⟨.ret, ⟨[6], [], [], []⟩, sspec_l1All_l0x0, Bool, fun i y => ((y, ()), ())⟩,
  ⟨.exit 0, ⟨[], [], [], []⟩, sspec_l1All_l0x1, Unit, fun i y => ((), ())⟩]
def spec_l1All_l0K {R : Type} (a0 : Int) (a1 : Int) (a2 : List Int) (a3 : Int) (rc : Int → Option R) (fin : (Bool ⊕ Unit) → Option R) (a4 : Int) : Option R :=
  cond (decide (a4 < a3))
  ((lat a2 a4).bind fun e1 =>
    (spec_l1In e1 a0 a1).bind fun y2 =>
    cond (!y2)
    (fin (.inl false))
    (rc (IntKind.i64.wrap (a4 + 1))))
  (fin (.inr ()))
def spec_l1All_l0F (a0 : Int) (a1 : Int) (a2 : List Int) (a3 : Int) (r : Int → Option (Bool ⊕ Unit)) (x : Int) : Option (Bool ⊕ Unit) := spec_l1All_l0K a0 a1 a2 a3 (fun a4 => r a4) some x
theorem spec_l1All_l0c (a0 : Int) (a1 : Int) (a2 : List Int) (a3 : Int) (x : Int) : Ct fun r => spec_l1All_l0F a0 a1 a2 a3 r x := by
  unfold spec_l1All_l0F spec_l1All_l0K
  repeat' (first | exact Ct.const | exact Ct.call | refine Ct.cond ?_ ?_ | refine Ct.bind ?_ fun _ => ?_ | refine Ct.sum (fun _ => ?_) fun _ => ?_)
def spec_l1All_l0 (a0 : Int) (a1 : Int) (a2 : List Int) (a3 : Int) (a4 : Int) : Option (Bool ⊕ Unit) := lim (spec_l1All_l0F a0 a1 a2 a3) a4
theorem spec_l1All_l0_eq (a0 : Int) (a1 : Int) (a2 : List Int) (a3 : Int) (a4 : Int) : spec_l1All_l0 a0 a1 a2 a3 a4 = spec_l1All_l0K a0 a1 a2 a3 (spec_l1All_l0 a0 a1 a2 a3) some a4 := lim_eq (spec_l1All_l0c a0 a1 a2 a3) a4
theorem spec_l1All_l0p {R : Type} (a0 : Int) (a1 : Int) (a2 : List Int) (a3 : Int) {rc : Int → Option (Bool ⊕ Unit)} {rc' : Int → Option R} {fin : (Bool ⊕ Unit) → Option R} (hr : ∀ a4, Par fin (rc a4) (rc' a4)) (a4 : Int) : Par fin (spec_l1All_l0K a0 a1 a2 a3 rc some a4) (spec_l1All_l0K a0 a1 a2 a3 rc' fin a4) := by
  unfold spec_l1All_l0K
  repeat' (first | exact .fin | exact .none | exact hr _ | refine .cond ?_ ?_ | refine .bind fun _ => ?_ | refine .sum (fun _ => ?_) fun _ => ?_)
def Lspec_l1All_l0 : Loop := mkL ⟨[1, 2, 9, 10, 11], [], [], []⟩ sspec_l1All_l0 xspec_l1All_l0 (fun (x : (Int × Int × (List Int) × Int × Int × Unit) × (Unit)) => (x.1.1, (x.1.2.1, (x.1.2.2.1, x.1.2.2.2.1)))) fun (x : (Int × Int × (List Int) × Int × Int × Unit) × (Unit)) => spec_l1All_l0 x.1.1 x.1.2.1 x.1.2.2.1 x.1.2.2.2.1 x.1.2.2.2.2.1
def spec_l1AllK {R : Type} (fin : Bool → Option R) (x0 : List Int) (x1 : Int) (x2 : Int) : Option R :=
  (spec_l1All_l0 x1 x2 x0 (x0.length : Int) 0).bind fun y3 =>
  sumO y3 (fun y4 =>
  fin y4)
  (fun y5 =>
  fin true)
def spec_l1All (x0 : List Int) (x1 : Int) (x2 : Int) : Option (Bool) := spec_l1AllK some x0 x1 x2
theorem p87 {R : Type} (fin : Bool → Option R) (x0 : List Int) (x1 : Int) (x2 : Int) : Par fin (spec_l1AllK some x0 x1 x2) (spec_l1AllK fin x0 x1 x2) := by
  unfold spec_l1AllK
  repeat' (first | exact .fin | exact .none | refine .cond ?_ ?_ | refine .bind fun _ => ?_ | refine .sum (fun _ => ?_) fun _ => ?_)
def or87 : Ora := { lo := addL 2 (Lspec_l1All_l0) lo0, fin := [] }
theorem spec_l1All_l0e (a0 : Int) (a1 : Int) (a2 : List Int) (a3 : Int) (k : Nat) (a4 : Int) : loopC Try.prog EL87 or87 ((loopsIn (codeOf Try.f87)).getD 0 .skip) (Lspec_l1All_l0).h (Lspec_l1All_l0).ho Try.f87.ntmps (k + 1) (sspec_l1All_l0.out ((a0, (a1, (a2, (a3, (a4, ()))))), ())) =
    spec_l1All_l0K a0 a1 a2 a3 (fun a4 => loopC Try.prog EL87 or87 ((loopsIn (codeOf Try.f87)).getD 0 .skip) (Lspec_l1All_l0).h (Lspec_l1All_l0).ho Try.f87.ntmps k (sspec_l1All_l0.out ((a0, (a1, (a2, (a3, (a4, ()))))), ()))) (fun y => some (XS.out xspec_l1All_l0 (a0, (a1, (a2, a3))) y)) a4 := by kernel_rfl
theorem spec_l1All_l0o : LoopOk Try.prog EL87 or87 Try.f87.ntmps ((loopsIn (codeOf Try.f87)).getD 0 .skip) (Lspec_l1All_l0) :=
  loop_lim (hs := sspec_l1All_l0) (xs := xspec_l1All_l0) (ι := fun (x : (Int × Int × (List Int) × Int × Int × Unit) × (Unit)) => (x.1.1, (x.1.2.1, (x.1.2.2.1, x.1.2.2.2.1)))) (φ := fun (x : (Int × Int × (List Int) × Int × Int × Unit) × (Unit)) => x.1.2.2.2.2.1) (ψ := fun (i : Int × Int × (List Int) × Int) (v : Int) => ((i.1, (i.2.1, (i.2.2.1, (i.2.2.2, (v, ()))))), ())) (F := fun (i : Int × Int × (List Int) × Int) => spec_l1All_l0F i.1 i.2.1 i.2.2.1 i.2.2.2) (fun _ => rfl) fun i k hk v => Par.of_eq (spec_l1All_l0e i.1 i.2.1 i.2.2.1 i.2.2.2 k v) (spec_l1All_l0p i.1 i.2.1 i.2.2.1 i.2.2.2 (fun a4 => hk a4) v)
def c87 : Callee := mkC [.one (.ro (.slice (.int .i64))), .one (.ro (.int .i64)), .one (.ro (.int .i64))] 1 [.one (.ro .bool)] fun x => spec_l1All x.1 x.2.1 x.2.2
theorem e87 (x : PK.dens [.one (.ro (.slice (.int .i64))), .one (.ro (.int .i64)), .one (.ro (.int .i64))]) : evalFn Try.prog EL87 or87 Try.f87 (PK.outs [.one (.ro (.slice (.int .i64))), .one (.ro (.int .i64)), .one (.ro (.int .i64))] x) =
    spec_l1AllK (fun y => some (tupOf ((PK.outs [.one (.ro .bool)] y).take 1), (PK.outs [.one (.ro .bool)] y).drop 1)) x.1 x.2.1 x.2.2 := by kernel_rfl
theorem o87 : LoOk Try.prog EL87 or87 Try.f87.ntmps (loopsIn (codeOf Try.f87)) :=
  LoOk.mk (m := 1) (by kernel_rfl) fun i hi => match i, hi with
    | 0, _ => ⟨Lspec_l1All_l0, by kernel_rfl, spec_l1All_l0o⟩
    | i + 1, hi => absurd hi (by omega)
theorem k87 : CalleeOk Try.prog 87 c87 := callee_mk Try.func87 (code := codeOf Try.f87) (by kernel_rfl) vL87 mixed o87 fun x y h => (e87 x).trans (p87 _ x.1 x.2.1 x.2.2 y h)

/-- spec.plJob -/
def EL80 : Nat → Option Callee := addE 69 c69 (addE 87 c87 (addE 96 c96 env0))
theorem vL80 : EnvOk Try.prog EL80 := ((EnvOk.nil.add Try.func96 rfl (by kernel_rfl) k96).add Try.func87 rfl (by kernel_rfl) k87).add Try.func69 rfl (by kernel_rfl) k69
def spec_plJobK {R : Type} (fin : Bool → Option R) (x0 : DJob) : Option R :=
  (spec_clArcs x0.1).bind fun y1 =>
  cond (!y1)
  (fin false)
  (cond ((x0.2.1.length : Int) != (x0.1.length : Int))
    (fin false)
    (cond ((x0.2.2.1.length : Int) != (x0.1.length : Int))
      (fin false)
      ((spec_l1All x0.2.1 0 10000).bind fun y2 =>
        cond (!y2)
        (fin false)
        ((spec_l1All x0.2.2.1 (-1000000) 1000000).bind fun y3 =>
          cond (!y3)
          (fin false)
          ((spec_l1In x0.2.2.2.1.1 0 1000000).bind fun y4 =>
            cond (y4)
            ((spec_l1In x0.2.2.2.1.2.1 0 1000000).bind fun y5 =>
              cond (y5)
              ((spec_l1In x0.2.2.2.2.1 1 6).bind fun y6 =>
                cond (y6)
                ((spec_l1In x0.2.2.2.2.2.2.1 1 20).bind fun y7 =>
                  cond (y7)
                  ((spec_l1In x0.2.2.2.2.2.1 1 x0.2.2.2.2.2.2.1).bind fun y8 =>
                    fin y8)
                  (fin false))
                (fin false))
              (fin false))
            (fin false))))))
def spec_plJob (x0 : DJob) : Option (Bool) := spec_plJobK some x0
theorem p80 {R : Type} (fin : Bool → Option R) (x0 : DJob) : Par fin (spec_plJobK some x0) (spec_plJobK fin x0) := by
  unfold spec_plJobK
  repeat' (first | exact .fin | exact .none | refine .cond ?_ ?_ | refine .bind fun _ => ?_ | refine .sum (fun _ => ?_) fun _ => ?_)
def c80 : Callee := mkC [.agg [.ro TJob]] 1 [.one (.ro .bool)] fun x => spec_plJob x
theorem e80 (x : PK.dens [.agg [.ro TJob]]) : evalFn Try.prog EL80 or0 Try.f80 (PK.outs [.agg [.ro TJob]] x) =
    spec_plJobK (fun y => some (tupOf ((PK.outs [.one (.ro .bool)] y).take 1), (PK.outs [.one (.ro .bool)] y).drop 1)) x := by kernel_rfl
theorem k80 : CalleeOk Try.prog 80 c80 := callee_mk Try.func80 (code := codeOf Try.f80) (by kernel_rfl) vL80 mixed (LoOk.nil (by kernel_rfl)) fun x y h => (e80 x).trans (p80 _ x y h)

/-- spec.plGood -/
def EL59 : Nat → Option Callee := addE 87 c87 env0
theorem vL59 : EnvOk Try.prog EL59 := EnvOk.nil.add Try.func87 rfl (by kernel_rfl) k87
def spec_plGoodK {R : Type} (fin : Bool → Option R) (x0 : DJob) (x1 : DPlan) : Option R :=
  cond (x1.1 == x0.2.2.2.2.1)
  (cond ((x1.2.1.length : Int) == (x0.1.length : Int))
    ((spec_l1All x1.2.1 (-1) (IntKind.i64.wrap (x0.2.2.2.2.1 - 1))).bind fun y1 =>
      fin y1)
    (fin false))
  (fin false)
def spec_plGood (x0 : DJob) (x1 : DPlan) : Option (Bool) := spec_plGoodK some x0 x1
theorem p59 {R : Type} (fin : Bool → Option R) (x0 : DJob) (x1 : DPlan) : Par fin (spec_plGoodK some x0 x1) (spec_plGoodK fin x0 x1) := by
  unfold spec_plGoodK
  repeat' (first | exact .fin | exact .none | refine .cond ?_ ?_ | refine .bind fun _ => ?_ | refine .sum (fun _ => ?_) fun _ => ?_)
def c59 : Callee := mkC [.agg [.ro TJob], .agg [.ro TPlan]] 1 [.one (.ro .bool)] fun x => spec_plGood x.1 x.2
theorem e59 (x : PK.dens [.agg [.ro TJob], .agg [.ro TPlan]]) : evalFn Try.prog EL59 or0 Try.f59 (PK.outs [.agg [.ro TJob], .agg [.ro TPlan]] x) =
    spec_plGoodK (fun y => some (tupOf ((PK.outs [.one (.ro .bool)] y).take 1), (PK.outs [.one (.ro .bool)] y).drop 1)) x.1 x.2 := by kernel_rfl
theorem k59 : CalleeOk Try.prog 59 c59 := callee_mk Try.func59 (code := codeOf Try.f59) (by kernel_rfl) vL59 mixed (LoOk.nil (by kernel_rfl)) fun x y h => (e59 x).trans (p59 _ x.1 x.2 y h)
end
end Go.OAI
