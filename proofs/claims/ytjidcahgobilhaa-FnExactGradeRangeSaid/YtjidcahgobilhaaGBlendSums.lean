/- Contracts: GBlendSums. -/
import Derived.Test.YtjidcahgobilhaaGIsWanted
import Derived.Test.YtjidcahgobilhaaGAreBins
namespace Go.OAI
open Go.Proofs
set_option linter.unusedVariables false
noncomputable section


/-- laws.toIntS -/
def EL21 : Nat → Option Callee := env0
theorem vL21 : EnvOk Try.prog EL21 := EnvOk.nil
def slaws_toIntS_l0 : LS := ⟨[(0, .one (.dat (.slice (.int .i64)))), (3, .one (.fix (.sref 0))), (4, .one (.dat (.int .i64)))], [.sl (.int .i64)], []⟩
def slaws_toIntS_l0x0 : LS := ⟨[(3, .one (.fix (.sref 0)))], [.sl (.int .i64)], []⟩
def xlaws_toIntS_l0 : List (XS (List Int)) := [⟨.exit 0, ⟨[3], [.slot 3], [], []⟩, slaws_toIntS_l0x0, List Int, fun i y => (((), ()), (y, ()))⟩]
def laws_toIntS_l0K {R : Type} (a0 : List Int) (rc : Int → List Int → Option R) (fin : List Int → Option R) (a1 : Int) (a2 : List Int) : Option R :=
  cond (decide (a1 < (a0.length : Int)))
  ((lat a0 a1).bind fun e1 =>
    cond (decide ((0 : Int) ≤ a1) && decide (a1 < (a2.length : Int)))
    ((some (a2.set (0 + a1.toNat) e1)).bind fun v2 =>
      rc (IntKind.i64.wrap (a1 + 1)) v2)
    (none))
  (fin a2)
def laws_toIntS_l0F (a0 : List Int) (r : (Int × (List Int)) → Option (List Int)) (x : Int × (List Int)) : Option (List Int) := laws_toIntS_l0K a0 (fun a1 a2 => r (a1, a2)) some x.1 x.2
theorem laws_toIntS_l0c (a0 : List Int) (x : Int × (List Int)) : Ct fun r => laws_toIntS_l0F a0 r x := by
  unfold laws_toIntS_l0F laws_toIntS_l0K
  repeat' (first | exact Ct.const | exact Ct.call | refine Ct.cond ?_ ?_ | refine Ct.bind ?_ fun _ => ?_ | refine Ct.sum (fun _ => ?_) fun _ => ?_)
def laws_toIntS_l0 (a0 : List Int) (a1 : Int) (a2 : List Int) : Option (List Int) := lim (laws_toIntS_l0F a0) (a1, a2)
theorem laws_toIntS_l0_eq (a0 : List Int) (a1 : Int) (a2 : List Int) : laws_toIntS_l0 a0 a1 a2 = laws_toIntS_l0K a0 (laws_toIntS_l0 a0) some a1 a2 := lim_eq (laws_toIntS_l0c a0) (a1, a2)
theorem laws_toIntS_l0p {R : Type} (a0 : List Int) {rc : Int → List Int → Option (List Int)} {rc' : Int → List Int → Option R} {fin : List Int → Option R} (hr : ∀ a1 a2, Par fin (rc a1 a2) (rc' a1 a2)) (a1 : Int) (a2 : List Int) : Par fin (laws_toIntS_l0K a0 rc some a1 a2) (laws_toIntS_l0K a0 rc' fin a1 a2) := by
  unfold laws_toIntS_l0K
  repeat' (first | exact .fin | exact .none | exact hr _ _ | refine .cond ?_ ?_ | refine .bind fun _ => ?_ | refine .sum (fun _ => ?_) fun _ => ?_)
def Llaws_toIntS_l0 : Loop := mkL ⟨[0, 3, 4], [.slot 3], [], []⟩ slaws_toIntS_l0 xlaws_toIntS_l0 (fun (x : ((List Int) × Unit × Int × Unit) × ((List Int) × Unit)) => x.1.1) fun (x : ((List Int) × Unit × Int × Unit) × ((List Int) × Unit)) => laws_toIntS_l0 x.1.1 x.1.2.2.1 x.2.1
def laws_toIntSK {R : Type} (fin : List Int → Option R) (x0 : List Int) : Option R :=
  cond (decide ((0 : Int) ≤ (x0.length : Int)) && (decide ((x0.length : Int) ≤ (x0.length : Int)) && decide ((x0.length : Int) ≤ 1099511627776)))
  ((some ((List.replicate ((x0.length : Int).toNat) 0 : List Int))).bind fun v1 =>
    (laws_toIntS_l0 x0 0 v1).bind fun y4 =>
    fin y4)
  (none)
def laws_toIntS (x0 : List Int) : Option (List Int) := laws_toIntSK some x0
theorem p21 {R : Type} (fin : List Int → Option R) (x0 : List Int) : Par fin (laws_toIntSK some x0) (laws_toIntSK fin x0) := by
  unfold laws_toIntSK
  repeat' (first | exact .fin | exact .none | refine .cond ?_ ?_ | refine .bind fun _ => ?_ | refine .sum (fun _ => ?_) fun _ => ?_)
def or21 : Ora := { lo := addL 3 (Llaws_toIntS_l0) lo0, fin := [] }
theorem laws_toIntS_l0e (a0 : List Int) (k : Nat) (a1 : Int) (a2 : List Int) : loopC Try.prog EL21 or21 ((loopsIn (codeOf Try.f21)).getD 0 .skip) (Llaws_toIntS_l0).h (Llaws_toIntS_l0).ho Try.f21.ntmps (k + 1) (slaws_toIntS_l0.out ((a0, ((), (a1, ()))), (a2, ()))) =
    laws_toIntS_l0K a0 (fun a1 a2 => loopC Try.prog EL21 or21 ((loopsIn (codeOf Try.f21)).getD 0 .skip) (Llaws_toIntS_l0).h (Llaws_toIntS_l0).ho Try.f21.ntmps k (slaws_toIntS_l0.out ((a0, ((), (a1, ()))), (a2, ())))) (fun y => some (XS.out xlaws_toIntS_l0 a0 y)) a1 a2 := by kernel_rfl
theorem laws_toIntS_l0o : LoopOk Try.prog EL21 or21 Try.f21.ntmps ((loopsIn (codeOf Try.f21)).getD 0 .skip) (Llaws_toIntS_l0) :=
  loop_lim (hs := slaws_toIntS_l0) (xs := xlaws_toIntS_l0) (ι := fun (x : ((List Int) × Unit × Int × Unit) × ((List Int) × Unit)) => x.1.1) (φ := fun (x : ((List Int) × Unit × Int × Unit) × ((List Int) × Unit)) => (x.1.2.2.1, x.2.1)) (ψ := fun (i : List Int) (v : Int × (List Int)) => ((i, ((), (v.1, ()))), (v.2, ()))) (F := fun (i : List Int) => laws_toIntS_l0F i) (fun _ => rfl) fun i k hk v => Par.of_eq (laws_toIntS_l0e i k v.1 v.2) (laws_toIntS_l0p i (fun a1 a2 => hk (a1, a2)) v.1 v.2)
def c21 : Callee := mkC [.one (.ro (.slice (.int .i64)))] 1 [.one (.sl (.int .i64))] fun x => laws_toIntS x
theorem e21 (x : PK.dens [.one (.ro (.slice (.int .i64)))]) : evalFn Try.prog EL21 or21 Try.f21 (PK.outs [.one (.ro (.slice (.int .i64)))] x) =
    laws_toIntSK (fun y => some (tupOf ((PK.outs [.one (.sl (.int .i64))] y).take 1), (PK.outs [.one (.sl (.int .i64))] y).drop 1)) x := by kernel_rfl
theorem o21 : LoOk Try.prog EL21 or21 Try.f21.ntmps (loopsIn (codeOf Try.f21)) :=
  LoOk.mk (m := 1) (by kernel_rfl) fun i hi => match i, hi with
    | 0, _ => ⟨Llaws_toIntS_l0, by kernel_rfl, laws_toIntS_l0o⟩
    | i + 1, hi => absurd hi (by omega)
theorem k21 : CalleeOk Try.prog 21 c21 := callee_mk Try.func21 (code := codeOf Try.f21) (by kernel_rfl) vL21 mixed o21 fun x y h => (e21 x).trans (p21 _ x y h)

/-- spec.blParts -/
def EL37 : Nat → Option Callee := addE 31 c31 (addE 34 c34 env0)
theorem vL37 : EnvOk Try.prog EL37 := (EnvOk.nil.add Try.func34 rfl (by kernel_rfl) k34).add Try.func31 rfl (by kernel_rfl) k31
def sspec_blParts_l0 : LS := ⟨[(1, .one (.dat (.slice (.int .i64)))), (17, .one (.dat (.slice TWanted))), (18, .one (.dat (.int .i64))), (19, .one (.dat (.int .i64)))], [], []⟩
def sspec_blParts_l0x0 : LS := ⟨[(4, .one (.dat .bool))], [], []⟩
def sspec_blParts_l0x1 : LS := ⟨[], [], []⟩
def xspec_blParts_l0 : List (XS ((List Int) × (List DWanted) × Int)) := [⟨.ret, ⟨[4], [], [], []⟩, sspec_blParts_l0x0, Bool, fun i y => ((y, ()), ())⟩,
  ⟨.exit 0, ⟨[], [], [], []⟩, sspec_blParts_l0x1, Unit, fun i y => ((), ())⟩]
def spec_blParts_l0K {R : Type} (a0 : List Int) (a1 : List DWanted) (a2 : Int) (rc : Int → Option R) (fin : (Bool ⊕ Unit) → Option R) (a3 : Int) : Option R :=
  cond (decide (a3 < a2))
  ((lat a1 a3).bind fun e1 =>
    (lat a0 a3).bind fun e2 =>
    (spec_l1In e2 0 e1.1).bind fun y3 =>
    cond (!y3)
    (fin (.inl false))
    (rc (IntKind.i64.wrap (a3 + 1))))
  (fin (.inr ()))
def spec_blParts_l0F (a0 : List Int) (a1 : List DWanted) (a2 : Int) (r : Int → Option (Bool ⊕ Unit)) (x : Int) : Option (Bool ⊕ Unit) := spec_blParts_l0K a0 a1 a2 (fun a3 => r a3) some x
theorem spec_blParts_l0c (a0 : List Int) (a1 : List DWanted) (a2 : Int) (x : Int) : Ct fun r => spec_blParts_l0F a0 a1 a2 r x := by
  unfold spec_blParts_l0F spec_blParts_l0K
  repeat' (first | exact Ct.const | exact Ct.call | refine Ct.cond ?_ ?_ | refine Ct.bind ?_ fun _ => ?_ | refine Ct.sum (fun _ => ?_) fun _ => ?_)
def spec_blParts_l0 (a0 : List Int) (a1 : List DWanted) (a2 : Int) (a3 : Int) : Option (Bool ⊕ Unit) := lim (spec_blParts_l0F a0 a1 a2) a3
theorem spec_blParts_l0_eq (a0 : List Int) (a1 : List DWanted) (a2 : Int) (a3 : Int) : spec_blParts_l0 a0 a1 a2 a3 = spec_blParts_l0K a0 a1 a2 (spec_blParts_l0 a0 a1 a2) some a3 := lim_eq (spec_blParts_l0c a0 a1 a2) a3
theorem spec_blParts_l0p {R : Type} (a0 : List Int) (a1 : List DWanted) (a2 : Int) {rc : Int → Option (Bool ⊕ Unit)} {rc' : Int → Option R} {fin : (Bool ⊕ Unit) → Option R} (hr : ∀ a3, Par fin (rc a3) (rc' a3)) (a3 : Int) : Par fin (spec_blParts_l0K a0 a1 a2 rc some a3) (spec_blParts_l0K a0 a1 a2 rc' fin a3) := by
  unfold spec_blParts_l0K
  repeat' (first | exact .fin | exact .none | exact hr _ | refine .cond ?_ ?_ | refine .bind fun _ => ?_ | refine .sum (fun _ => ?_) fun _ => ?_)
def Lspec_blParts_l0 : Loop := mkL ⟨[1, 17, 18, 19], [], [], []⟩ sspec_blParts_l0 xspec_blParts_l0 (fun (x : ((List Int) × (List DWanted) × Int × Int × Unit) × (Unit)) => (x.1.1, (x.1.2.1, x.1.2.2.1))) fun (x : ((List Int) × (List DWanted) × Int × Int × Unit) × (Unit)) => spec_blParts_l0 x.1.1 x.1.2.1 x.1.2.2.1 x.1.2.2.2.1
def spec_blPartsK {R : Type} (fin : Bool → Option R) (x0 : List DWanted) (x1 : List Int) : Option R :=
  (spec_blBins x0).bind fun y1 =>
  cond (!y1)
  (fin false)
  (cond ((x1.length : Int) != (x0.length : Int))
    (fin false)
    ((spec_blParts_l0 x1 x0 (x0.length : Int) 0).bind fun y5 =>
      sumO y5 (fun y6 =>
      fin y6)
      (fun y7 =>
      fin true)))
def spec_blParts (x0 : List DWanted) (x1 : List Int) : Option (Bool) := spec_blPartsK some x0 x1
theorem p37 {R : Type} (fin : Bool → Option R) (x0 : List DWanted) (x1 : List Int) : Par fin (spec_blPartsK some x0 x1) (spec_blPartsK fin x0 x1) := by
  unfold spec_blPartsK
  repeat' (first | exact .fin | exact .none | refine .cond ?_ ?_ | refine .bind fun _ => ?_ | refine .sum (fun _ => ?_) fun _ => ?_)
def or37 : Ora := { lo := addL 4 (Lspec_blParts_l0) lo0, fin := [] }
theorem spec_blParts_l0e (a0 : List Int) (a1 : List DWanted) (a2 : Int) (k : Nat) (a3 : Int) : loopC Try.prog EL37 or37 ((loopsIn (codeOf Try.f37)).getD 0 .skip) (Lspec_blParts_l0).h (Lspec_blParts_l0).ho Try.f37.ntmps (k + 1) (sspec_blParts_l0.out ((a0, (a1, (a2, (a3, ())))), ())) =
    spec_blParts_l0K a0 a1 a2 (fun a3 => loopC Try.prog EL37 or37 ((loopsIn (codeOf Try.f37)).getD 0 .skip) (Lspec_blParts_l0).h (Lspec_blParts_l0).ho Try.f37.ntmps k (sspec_blParts_l0.out ((a0, (a1, (a2, (a3, ())))), ()))) (fun y => some (XS.out xspec_blParts_l0 (a0, (a1, a2)) y)) a3 := by kernel_rfl
theorem spec_blParts_l0o : LoopOk Try.prog EL37 or37 Try.f37.ntmps ((loopsIn (codeOf Try.f37)).getD 0 .skip) (Lspec_blParts_l0) :=
  loop_lim (hs := sspec_blParts_l0) (xs := xspec_blParts_l0) (ι := fun (x : ((List Int) × (List DWanted) × Int × Int × Unit) × (Unit)) => (x.1.1, (x.1.2.1, x.1.2.2.1))) (φ := fun (x : ((List Int) × (List DWanted) × Int × Int × Unit) × (Unit)) => x.1.2.2.2.1) (ψ := fun (i : (List Int) × (List DWanted) × Int) (v : Int) => ((i.1, (i.2.1, (i.2.2, (v, ())))), ())) (F := fun (i : (List Int) × (List DWanted) × Int) => spec_blParts_l0F i.1 i.2.1 i.2.2) (fun _ => rfl) fun i k hk v => Par.of_eq (spec_blParts_l0e i.1 i.2.1 i.2.2 k v) (spec_blParts_l0p i.1 i.2.1 i.2.2 (fun a3 => hk a3) v)
def c37 : Callee := mkC [.one (.ro (.slice TWanted)), .one (.ro (.slice (.int .i64)))] 1 [.one (.ro .bool)] fun x => spec_blParts x.1 x.2
theorem e37 (x : PK.dens [.one (.ro (.slice TWanted)), .one (.ro (.slice (.int .i64)))]) : evalFn Try.prog EL37 or37 Try.f37 (PK.outs [.one (.ro (.slice TWanted)), .one (.ro (.slice (.int .i64)))] x) =
    spec_blPartsK (fun y => some (tupOf ((PK.outs [.one (.ro .bool)] y).take 1), (PK.outs [.one (.ro .bool)] y).drop 1)) x.1 x.2 := by kernel_rfl
theorem o37 : LoOk Try.prog EL37 or37 Try.f37.ntmps (loopsIn (codeOf Try.f37)) :=
  LoOk.mk (m := 1) (by kernel_rfl) fun i hi => match i, hi with
    | 0, _ => ⟨Lspec_blParts_l0, by kernel_rfl, spec_blParts_l0o⟩
    | i + 1, hi => absurd hi (by omega)
theorem k37 : CalleeOk Try.prog 37 c37 := callee_mk Try.func37 (code := codeOf Try.f37) (by kernel_rfl) vL37 mixed o37 fun x y h => (e37 x).trans (p37 _ x.1 x.2 y h)

/-- spec.blSums -/
def EL38 : Nat → Option Callee := env0
theorem vL38 : EnvOk Try.prog EL38 := EnvOk.nil
def sspec_blSums_l1 : LS := ⟨[(1, .one (.dat (.slice (.int .i64)))), (5, .one (.fix (.sref 0))), (6, .one (.dat (.int .i64))), (11, .one (.dat (.slice TWanted))), (12, .one (.dat (.int .i64))), (13, .one (.dat (.int .i64))), (24, .one (.fix (.sref 1))), (25, .one (.dat (.int .i64))), (26, .one (.dat (.int .i64)))], [.sl (.int .i64), .sl (.int .i64)], []⟩
def sspec_blSums_l1x0 : LS := ⟨[(1, .one (.dat (.slice (.int .i64)))), (5, .one (.fix (.sref 0))), (11, .one (.dat (.slice TWanted))), (12, .one (.dat (.int .i64))), (13, .one (.dat (.int .i64)))], [.sl (.int .i64)], []⟩
def xspec_blSums_l1 : List (XS ((List Int) × Int × (List DWanted) × Int × Int × Int × (List Int))) := [⟨.exit 2, ⟨[1, 5, 11, 12, 13], [.slot 5], [], []⟩, sspec_blSums_l1x0, List Int, fun i y => ((i.1, ((), (i.2.2.1, (i.2.2.2.1, (i.2.2.2.2.1, ()))))), (y, ()))⟩]
def spec_blSums_l1K {R : Type} (a0 : List Int) (a1 : Int) (a5 : Int) (a8 : List Int) (rc : Int → List Int → Option R) (fin : List Int → Option R) (a6 : Int) (a7 : List Int) : Option R :=
  cond (decide (a6 < a5))
  (cond (decide ((0 : Int) ≤ a6) && decide (a6 < (a8.length : Int)))
    (cond (decide ((0 : Int) ≤ a6) && decide (a6 < (a7.length : Int)))
      ((lat a0 a1).bind fun e1 =>
        (some (IntKind.i64.wrap ((a7.getD (0 + a6.toNat) 0) + (IntKind.i64.wrap (e1 * (a8.getD (0 + a6.toNat) 0)))))).bind fun v2 =>
        cond (decide ((0 : Int) ≤ a6) && decide (a6 < (a7.length : Int)))
        ((some (a7.set (0 + a6.toNat) v2)).bind fun v3 =>
          rc (IntKind.i64.wrap (a6 + 1)) v3)
        (none))
      (none))
    (none))
  (fin a7)
def spec_blSums_l1F (a0 : List Int) (a1 : Int) (a5 : Int) (a8 : List Int) (r : (Int × (List Int)) → Option (List Int)) (x : Int × (List Int)) : Option (List Int) := spec_blSums_l1K a0 a1 a5 a8 (fun a6 a7 => r (a6, a7)) some x.1 x.2
theorem spec_blSums_l1c (a0 : List Int) (a1 : Int) (a5 : Int) (a8 : List Int) (x : Int × (List Int)) : Ct fun r => spec_blSums_l1F a0 a1 a5 a8 r x := by
  unfold spec_blSums_l1F spec_blSums_l1K
  repeat' (first | exact Ct.const | exact Ct.call | refine Ct.cond ?_ ?_ | refine Ct.bind ?_ fun _ => ?_ | refine Ct.sum (fun _ => ?_) fun _ => ?_)
def spec_blSums_l1 (a0 : List Int) (a1 : Int) (a5 : Int) (a8 : List Int) (a6 : Int) (a7 : List Int) : Option (List Int) := lim (spec_blSums_l1F a0 a1 a5 a8) (a6, a7)
theorem spec_blSums_l1_eq (a0 : List Int) (a1 : Int) (a5 : Int) (a8 : List Int) (a6 : Int) (a7 : List Int) : spec_blSums_l1 a0 a1 a5 a8 a6 a7 = spec_blSums_l1K a0 a1 a5 a8 (spec_blSums_l1 a0 a1 a5 a8) some a6 a7 := lim_eq (spec_blSums_l1c a0 a1 a5 a8) (a6, a7)
theorem spec_blSums_l1p {R : Type} (a0 : List Int) (a1 : Int) (a5 : Int) (a8 : List Int) {rc : Int → List Int → Option (List Int)} {rc' : Int → List Int → Option R} {fin : List Int → Option R} (hr : ∀ a6 a7, Par fin (rc a6 a7) (rc' a6 a7)) (a6 : Int) (a7 : List Int) : Par fin (spec_blSums_l1K a0 a1 a5 a8 rc some a6 a7) (spec_blSums_l1K a0 a1 a5 a8 rc' fin a6 a7) := by
  unfold spec_blSums_l1K
  repeat' (first | exact .fin | exact .none | exact hr _ _ | refine .cond ?_ ?_ | refine .bind fun _ => ?_ | refine .sum (fun _ => ?_) fun _ => ?_)
def Lspec_blSums_l1 : Loop := mkL ⟨[1, 5, 6, 11, 12, 13, 24, 25, 26], [.slot 5, .slot 24], [], []⟩ sspec_blSums_l1 xspec_blSums_l1 (fun (x : ((List Int) × Unit × Int × (List DWanted) × Int × Int × Unit × Int × Int × Unit) × ((List Int) × (List Int) × Unit)) => (x.1.1, (x.1.2.2.1, (x.1.2.2.2.1, (x.1.2.2.2.2.1, (x.1.2.2.2.2.2.1, (x.1.2.2.2.2.2.2.2.1, x.2.2.1))))))) fun (x : ((List Int) × Unit × Int × (List DWanted) × Int × Int × Unit × Int × Int × Unit) × ((List Int) × (List Int) × Unit)) => spec_blSums_l1 x.1.1 x.1.2.2.1 x.1.2.2.2.2.2.2.2.1 x.2.2.1 x.1.2.2.2.2.2.2.2.2.1 x.2.1
def sspec_blSums_l0 : LS := ⟨[(1, .one (.dat (.slice (.int .i64)))), (5, .one (.fix (.sref 0))), (11, .one (.dat (.slice TWanted))), (12, .one (.dat (.int .i64))), (13, .one (.dat (.int .i64)))], [.sl (.int .i64)], []⟩
def sspec_blSums_l0x0 : LS := ⟨[(5, .one (.fix (.sref 0)))], [.sl (.int .i64)], []⟩
def xspec_blSums_l0 : List (XS ((List Int) × (List DWanted) × Int)) := [⟨.exit 0, ⟨[5], [.slot 5], [], []⟩, sspec_blSums_l0x0, List Int, fun i y => (((), ()), (y, ()))⟩]
def spec_blSums_l0K {R : Type} (a0 : List Int) (a1 : List DWanted) (a2 : Int) (rc : Int → List Int → Option R) (fin : List Int → Option R) (a3 : Int) (a4 : List Int) : Option R :=
  cond (decide (a3 < a2))
  ((lat a1 a3).bind fun e1 =>
    (spec_blSums_l1 a0 a3 ([1, e1.2.1, e1.2.2.1, e1.2.2.2.1].length : Int) [1, e1.2.1, e1.2.2.1, e1.2.2.2.1] 0 a4).bind fun y5 =>
    rc (IntKind.i64.wrap (a3 + 1)) y5)
  (fin a4)
def spec_blSums_l0F (a0 : List Int) (a1 : List DWanted) (a2 : Int) (r : (Int × (List Int)) → Option (List Int)) (x : Int × (List Int)) : Option (List Int) := spec_blSums_l0K a0 a1 a2 (fun a3 a4 => r (a3, a4)) some x.1 x.2
theorem spec_blSums_l0c (a0 : List Int) (a1 : List DWanted) (a2 : Int) (x : Int × (List Int)) : Ct fun r => spec_blSums_l0F a0 a1 a2 r x := by
  unfold spec_blSums_l0F spec_blSums_l0K
  repeat' (first | exact Ct.const | exact Ct.call | refine Ct.cond ?_ ?_ | refine Ct.bind ?_ fun _ => ?_ | refine Ct.sum (fun _ => ?_) fun _ => ?_)
def spec_blSums_l0 (a0 : List Int) (a1 : List DWanted) (a2 : Int) (a3 : Int) (a4 : List Int) : Option (List Int) := lim (spec_blSums_l0F a0 a1 a2) (a3, a4)
theorem spec_blSums_l0_eq (a0 : List Int) (a1 : List DWanted) (a2 : Int) (a3 : Int) (a4 : List Int) : spec_blSums_l0 a0 a1 a2 a3 a4 = spec_blSums_l0K a0 a1 a2 (spec_blSums_l0 a0 a1 a2) some a3 a4 := lim_eq (spec_blSums_l0c a0 a1 a2) (a3, a4)
theorem spec_blSums_l0p {R : Type} (a0 : List Int) (a1 : List DWanted) (a2 : Int) {rc : Int → List Int → Option (List Int)} {rc' : Int → List Int → Option R} {fin : List Int → Option R} (hr : ∀ a3 a4, Par fin (rc a3 a4) (rc' a3 a4)) (a3 : Int) (a4 : List Int) : Par fin (spec_blSums_l0K a0 a1 a2 rc some a3 a4) (spec_blSums_l0K a0 a1 a2 rc' fin a3 a4) := by
  unfold spec_blSums_l0K
  repeat' (first | exact .fin | exact .none | exact hr _ _ | refine .cond ?_ ?_ | refine .bind fun _ => ?_ | refine .sum (fun _ => ?_) fun _ => ?_)
def Lspec_blSums_l0 : Loop := mkL ⟨[1, 5, 11, 12, 13], [.slot 5], [], []⟩ sspec_blSums_l0 xspec_blSums_l0 (fun (x : ((List Int) × Unit × (List DWanted) × Int × Int × Unit) × ((List Int) × Unit)) => (x.1.1, (x.1.2.2.1, x.1.2.2.2.1))) fun (x : ((List Int) × Unit × (List DWanted) × Int × Int × Unit) × ((List Int) × Unit)) => spec_blSums_l0 x.1.1 x.1.2.2.1 x.1.2.2.2.1 x.1.2.2.2.2.1 x.2.1
def spec_blSumsK {R : Type} (fin : List Int → Option R) (x0 : List DWanted) (x1 : List Int) : Option R :=
  (some ((List.replicate 4 0 : List Int))).bind fun v1 =>
  (spec_blSums_l0 x1 x0 (x0.length : Int) 0 v1).bind fun y7 =>
  fin y7
def spec_blSums (x0 : List DWanted) (x1 : List Int) : Option (List Int) := spec_blSumsK some x0 x1
theorem p38 {R : Type} (fin : List Int → Option R) (x0 : List DWanted) (x1 : List Int) : Par fin (spec_blSumsK some x0 x1) (spec_blSumsK fin x0 x1) := by
  unfold spec_blSumsK
  repeat' (first | exact .fin | exact .none | refine .cond ?_ ?_ | refine .bind fun _ => ?_ | refine .sum (fun _ => ?_) fun _ => ?_)
def or38 : Ora := { lo := addL 3 (Lspec_blSums_l0) (addL 6 (Lspec_blSums_l1) lo0), fin := [] }
theorem spec_blSums_l1e (a0 : List Int) (a1 : Int) (a2 : List DWanted) (a3 : Int) (a4 : Int) (a5 : Int) (a8 : List Int) (k : Nat) (a6 : Int) (a7 : List Int) : loopC Try.prog EL38 or38 ((loopsIn (codeOf Try.f38)).getD 1 .skip) (Lspec_blSums_l1).h (Lspec_blSums_l1).ho Try.f38.ntmps (k + 1) (sspec_blSums_l1.out ((a0, ((), (a1, (a2, (a3, (a4, ((), (a5, (a6, ()))))))))), (a7, (a8, ())))) =
    spec_blSums_l1K a0 a1 a5 a8 (fun a6 a7 => loopC Try.prog EL38 or38 ((loopsIn (codeOf Try.f38)).getD 1 .skip) (Lspec_blSums_l1).h (Lspec_blSums_l1).ho Try.f38.ntmps k (sspec_blSums_l1.out ((a0, ((), (a1, (a2, (a3, (a4, ((), (a5, (a6, ()))))))))), (a7, (a8, ()))))) (fun y => some (XS.out xspec_blSums_l1 (a0, (a1, (a2, (a3, (a4, (a5, a8)))))) y)) a6 a7 := by kernel_rfl
theorem spec_blSums_l1o : LoopOk Try.prog EL38 or38 Try.f38.ntmps ((loopsIn (codeOf Try.f38)).getD 1 .skip) (Lspec_blSums_l1) :=
  loop_lim (hs := sspec_blSums_l1) (xs := xspec_blSums_l1) (ι := fun (x : ((List Int) × Unit × Int × (List DWanted) × Int × Int × Unit × Int × Int × Unit) × ((List Int) × (List Int) × Unit)) => (x.1.1, (x.1.2.2.1, (x.1.2.2.2.1, (x.1.2.2.2.2.1, (x.1.2.2.2.2.2.1, (x.1.2.2.2.2.2.2.2.1, x.2.2.1))))))) (φ := fun (x : ((List Int) × Unit × Int × (List DWanted) × Int × Int × Unit × Int × Int × Unit) × ((List Int) × (List Int) × Unit)) => (x.1.2.2.2.2.2.2.2.2.1, x.2.1)) (ψ := fun (i : (List Int) × Int × (List DWanted) × Int × Int × Int × (List Int)) (v : Int × (List Int)) => ((i.1, ((), (i.2.1, (i.2.2.1, (i.2.2.2.1, (i.2.2.2.2.1, ((), (i.2.2.2.2.2.1, (v.1, ()))))))))), (v.2, (i.2.2.2.2.2.2, ())))) (F := fun (i : (List Int) × Int × (List DWanted) × Int × Int × Int × (List Int)) => spec_blSums_l1F i.1 i.2.1 i.2.2.2.2.2.1 i.2.2.2.2.2.2) (fun _ => rfl) fun i k hk v => Par.of_eq (spec_blSums_l1e i.1 i.2.1 i.2.2.1 i.2.2.2.1 i.2.2.2.2.1 i.2.2.2.2.2.1 i.2.2.2.2.2.2 k v.1 v.2) (spec_blSums_l1p i.1 i.2.1 i.2.2.2.2.2.1 i.2.2.2.2.2.2 (fun a6 a7 => hk (a6, a7)) v.1 v.2)
theorem spec_blSums_l0e (a0 : List Int) (a1 : List DWanted) (a2 : Int) (k : Nat) (a3 : Int) (a4 : List Int) : loopC Try.prog EL38 or38 ((loopsIn (codeOf Try.f38)).getD 0 .skip) (Lspec_blSums_l0).h (Lspec_blSums_l0).ho Try.f38.ntmps (k + 1) (sspec_blSums_l0.out ((a0, ((), (a1, (a2, (a3, ()))))), (a4, ()))) =
    spec_blSums_l0K a0 a1 a2 (fun a3 a4 => loopC Try.prog EL38 or38 ((loopsIn (codeOf Try.f38)).getD 0 .skip) (Lspec_blSums_l0).h (Lspec_blSums_l0).ho Try.f38.ntmps k (sspec_blSums_l0.out ((a0, ((), (a1, (a2, (a3, ()))))), (a4, ())))) (fun y => some (XS.out xspec_blSums_l0 (a0, (a1, a2)) y)) a3 a4 := by kernel_rfl
theorem spec_blSums_l0o : LoopOk Try.prog EL38 or38 Try.f38.ntmps ((loopsIn (codeOf Try.f38)).getD 0 .skip) (Lspec_blSums_l0) :=
  loop_lim (hs := sspec_blSums_l0) (xs := xspec_blSums_l0) (ι := fun (x : ((List Int) × Unit × (List DWanted) × Int × Int × Unit) × ((List Int) × Unit)) => (x.1.1, (x.1.2.2.1, x.1.2.2.2.1))) (φ := fun (x : ((List Int) × Unit × (List DWanted) × Int × Int × Unit) × ((List Int) × Unit)) => (x.1.2.2.2.2.1, x.2.1)) (ψ := fun (i : (List Int) × (List DWanted) × Int) (v : Int × (List Int)) => ((i.1, ((), (i.2.1, (i.2.2, (v.1, ()))))), (v.2, ()))) (F := fun (i : (List Int) × (List DWanted) × Int) => spec_blSums_l0F i.1 i.2.1 i.2.2) (fun _ => rfl) fun i k hk v => Par.of_eq (spec_blSums_l0e i.1 i.2.1 i.2.2 k v.1 v.2) (spec_blSums_l0p i.1 i.2.1 i.2.2 (fun a3 a4 => hk (a3, a4)) v.1 v.2)
def c38 : Callee := mkC [.one (.ro (.slice TWanted)), .one (.ro (.slice (.int .i64)))] 1 [.one (.sl (.int .i64))] fun x => spec_blSums x.1 x.2
theorem e38 (x : PK.dens [.one (.ro (.slice TWanted)), .one (.ro (.slice (.int .i64)))]) : evalFn Try.prog EL38 or38 Try.f38 (PK.outs [.one (.ro (.slice TWanted)), .one (.ro (.slice (.int .i64)))] x) =
    spec_blSumsK (fun y => some (tupOf ((PK.outs [.one (.sl (.int .i64))] y).take 1), (PK.outs [.one (.sl (.int .i64))] y).drop 1)) x.1 x.2 := by kernel_rfl
theorem o38 : LoOk Try.prog EL38 or38 Try.f38.ntmps (loopsIn (codeOf Try.f38)) :=
  LoOk.mk (m := 2) (by kernel_rfl) fun i hi => match i, hi with
    | 0, _ => ⟨Lspec_blSums_l0, by kernel_rfl, spec_blSums_l0o⟩
    | 1, _ => ⟨Lspec_blSums_l1, by kernel_rfl, spec_blSums_l1o⟩
    | i + 2, hi => absurd hi (by omega)
theorem k38 : CalleeOk Try.prog 38 c38 := callee_mk Try.func38 (code := codeOf Try.f38) (by kernel_rfl) vL38 mixed o38 fun x y h => (e38 x).trans (p38 _ x.1 x.2 y h)

/-- spec.BlendSums -/
def EL20 : Nat → Option Callee := addE 38 c38 (addE 37 c37 env0)
theorem vL20 : EnvOk Try.prog EL20 := (EnvOk.nil.add Try.func37 rfl (by kernel_rfl) k37).add Try.func38 rfl (by kernel_rfl) k38
def spec_BlendSumsK {R : Type} (fin : Int × Int × Int × Int × Bool → Option R) (x0 : List DWanted) (x1 : List Int) : Option R :=
  (spec_blParts x0 x1).bind fun y1 =>
  cond (!y1)
  (fin (0, (0, (0, (0, false)))))
  ((spec_blSums x0 x1).bind fun y2 =>
    cond (decide ((0 : Int) < (y2.length : Int)))
    (cond (decide ((1 : Int) < (y2.length : Int)))
      (cond (decide ((2 : Int) < (y2.length : Int)))
        (cond (decide ((3 : Int) < (y2.length : Int)))
          (fin (y2.getD (0 + 0) 0, (y2.getD (0 + 1) 0, (y2.getD (0 + 2) 0, (y2.getD (0 + 3) 0, true)))))
          (none))
        (none))
      (none))
    (none))
def spec_BlendSums (x0 : List DWanted) (x1 : List Int) : Option (Int × Int × Int × Int × Bool) := spec_BlendSumsK some x0 x1
theorem p20 {R : Type} (fin : Int × Int × Int × Int × Bool → Option R) (x0 : List DWanted) (x1 : List Int) : Par fin (spec_BlendSumsK some x0 x1) (spec_BlendSumsK fin x0 x1) := by
  unfold spec_BlendSumsK
  repeat' (first | exact .fin | exact .none | refine .cond ?_ ?_ | refine .bind fun _ => ?_ | refine .sum (fun _ => ?_) fun _ => ?_)
def c20 : Callee := mkC [.one (.ro (.slice TWanted)), .one (.ro (.slice (.int .i64)))] 5 [.one (.ro (.int .i64)), .one (.ro (.int .i64)), .one (.ro (.int .i64)), .one (.ro (.int .i64)), .one (.ro .bool)] fun x => spec_BlendSums x.1 x.2
theorem e20 (x : PK.dens [.one (.ro (.slice TWanted)), .one (.ro (.slice (.int .i64)))]) : evalFn Try.prog EL20 or0 Try.f20 (PK.outs [.one (.ro (.slice TWanted)), .one (.ro (.slice (.int .i64)))] x) =
    spec_BlendSumsK (fun y => some (tupOf ((PK.outs [.one (.ro (.int .i64)), .one (.ro (.int .i64)), .one (.ro (.int .i64)), .one (.ro (.int .i64)), .one (.ro .bool)] y).take 5), (PK.outs [.one (.ro (.int .i64)), .one (.ro (.int .i64)), .one (.ro (.int .i64)), .one (.ro (.int .i64)), .one (.ro .bool)] y).drop 5)) x.1 x.2 := by kernel_rfl
theorem k20 : CalleeOk Try.prog 20 c20 := callee_mk Try.func20 (code := codeOf Try.f20) (by kernel_rfl) vL20 mixed (LoOk.nil (by kernel_rfl)) fun x y h => (e20 x).trans (p20 _ x.1 x.2 y h)

/-- impl.areParts -/
def EL39 : Nat → Option Callee := env0
theorem vL39 : EnvOk Try.prog EL39 := EnvOk.nil
def simpl_areParts_l0 : LS := ⟨[(0, .one (.dat (.slice TWanted))), (12, .one (.dat (.slice (.int .i64)))), (13, .one (.dat (.int .i64))), (14, .one (.dat (.int .i64)))], [], []⟩
def simpl_areParts_l0x0 : LS := ⟨[(4, .one (.dat .bool))], [], []⟩
def simpl_areParts_l0x1 : LS := ⟨[], [], []⟩
def ximpl_areParts_l0 : List (XS ((List DWanted) × (List Int) × Int)) := [⟨.ret, ⟨[4], [], [], []⟩, simpl_areParts_l0x0, Bool, fun i y => ((y, ()), ())⟩,
  ⟨.exit 0, ⟨[], [], [], []⟩, simpl_areParts_l0x1, Unit, fun i y => ((), ())⟩]
def impl_areParts_l0K {R : Type} (a0 : List DWanted) (a1 : List Int) (a2 : Int) (rc : Int → Option R) (fin : (Bool ⊕ Unit) → Option R) (a3 : Int) : Option R :=
  cond (decide (a3 < a2))
  ((lat a1 a3).bind fun e1 =>
    cond (decide (e1 < 0))
    (fin (.inl false))
    ((lat a0 a3).bind fun e2 =>
      cond (decide (e1 > e2.1))
      (fin (.inl false))
      (rc (IntKind.i64.wrap (a3 + 1)))))
  (fin (.inr ()))
def impl_areParts_l0F (a0 : List DWanted) (a1 : List Int) (a2 : Int) (r : Int → Option (Bool ⊕ Unit)) (x : Int) : Option (Bool ⊕ Unit) := impl_areParts_l0K a0 a1 a2 (fun a3 => r a3) some x
theorem impl_areParts_l0c (a0 : List DWanted) (a1 : List Int) (a2 : Int) (x : Int) : Ct fun r => impl_areParts_l0F a0 a1 a2 r x := by
  unfold impl_areParts_l0F impl_areParts_l0K
  repeat' (first | exact Ct.const | exact Ct.call | refine Ct.cond ?_ ?_ | refine Ct.bind ?_ fun _ => ?_ | refine Ct.sum (fun _ => ?_) fun _ => ?_)
def impl_areParts_l0 (a0 : List DWanted) (a1 : List Int) (a2 : Int) (a3 : Int) : Option (Bool ⊕ Unit) := lim (impl_areParts_l0F a0 a1 a2) a3
theorem impl_areParts_l0_eq (a0 : List DWanted) (a1 : List Int) (a2 : Int) (a3 : Int) : impl_areParts_l0 a0 a1 a2 a3 = impl_areParts_l0K a0 a1 a2 (impl_areParts_l0 a0 a1 a2) some a3 := lim_eq (impl_areParts_l0c a0 a1 a2) a3
theorem impl_areParts_l0p {R : Type} (a0 : List DWanted) (a1 : List Int) (a2 : Int) {rc : Int → Option (Bool ⊕ Unit)} {rc' : Int → Option R} {fin : (Bool ⊕ Unit) → Option R} (hr : ∀ a3, Par fin (rc a3) (rc' a3)) (a3 : Int) : Par fin (impl_areParts_l0K a0 a1 a2 rc some a3) (impl_areParts_l0K a0 a1 a2 rc' fin a3) := by
  unfold impl_areParts_l0K
  repeat' (first | exact .fin | exact .none | exact hr _ | refine .cond ?_ ?_ | refine .bind fun _ => ?_ | refine .sum (fun _ => ?_) fun _ => ?_)
def Limpl_areParts_l0 : Loop := mkL ⟨[0, 12, 13, 14], [], [], []⟩ simpl_areParts_l0 ximpl_areParts_l0 (fun (x : ((List DWanted) × (List Int) × Int × Int × Unit) × (Unit)) => (x.1.1, (x.1.2.1, x.1.2.2.1))) fun (x : ((List DWanted) × (List Int) × Int × Int × Unit) × (Unit)) => impl_areParts_l0 x.1.1 x.1.2.1 x.1.2.2.1 x.1.2.2.2.1
def impl_arePartsK {R : Type} (fin : Bool → Option R) (x0 : List DWanted) (x1 : List Int) : Option R :=
  cond ((x1.length : Int) != (x0.length : Int))
  (fin false)
  ((impl_areParts_l0 x0 x1 (x1.length : Int) 0).bind fun y3 =>
    sumO y3 (fun y4 =>
    fin y4)
    (fun y5 =>
    fin true))
def impl_areParts (x0 : List DWanted) (x1 : List Int) : Option (Bool) := impl_arePartsK some x0 x1
theorem p39 {R : Type} (fin : Bool → Option R) (x0 : List DWanted) (x1 : List Int) : Par fin (impl_arePartsK some x0 x1) (impl_arePartsK fin x0 x1) := by
  unfold impl_arePartsK
  repeat' (first | exact .fin | exact .none | refine .cond ?_ ?_ | refine .bind fun _ => ?_ | refine .sum (fun _ => ?_) fun _ => ?_)
def or39 : Ora := { lo := addL 4 (Limpl_areParts_l0) lo0, fin := [] }
theorem impl_areParts_l0e (a0 : List DWanted) (a1 : List Int) (a2 : Int) (k : Nat) (a3 : Int) : loopC Try.prog EL39 or39 ((loopsIn (codeOf Try.f39)).getD 0 .skip) (Limpl_areParts_l0).h (Limpl_areParts_l0).ho Try.f39.ntmps (k + 1) (simpl_areParts_l0.out ((a0, (a1, (a2, (a3, ())))), ())) =
    impl_areParts_l0K a0 a1 a2 (fun a3 => loopC Try.prog EL39 or39 ((loopsIn (codeOf Try.f39)).getD 0 .skip) (Limpl_areParts_l0).h (Limpl_areParts_l0).ho Try.f39.ntmps k (simpl_areParts_l0.out ((a0, (a1, (a2, (a3, ())))), ()))) (fun y => some (XS.out ximpl_areParts_l0 (a0, (a1, a2)) y)) a3 := by kernel_rfl
theorem impl_areParts_l0o : LoopOk Try.prog EL39 or39 Try.f39.ntmps ((loopsIn (codeOf Try.f39)).getD 0 .skip) (Limpl_areParts_l0) :=
  loop_lim (hs := simpl_areParts_l0) (xs := ximpl_areParts_l0) (ι := fun (x : ((List DWanted) × (List Int) × Int × Int × Unit) × (Unit)) => (x.1.1, (x.1.2.1, x.1.2.2.1))) (φ := fun (x : ((List DWanted) × (List Int) × Int × Int × Unit) × (Unit)) => x.1.2.2.2.1) (ψ := fun (i : (List DWanted) × (List Int) × Int) (v : Int) => ((i.1, (i.2.1, (i.2.2, (v, ())))), ())) (F := fun (i : (List DWanted) × (List Int) × Int) => impl_areParts_l0F i.1 i.2.1 i.2.2) (fun _ => rfl) fun i k hk v => Par.of_eq (impl_areParts_l0e i.1 i.2.1 i.2.2 k v) (impl_areParts_l0p i.1 i.2.1 i.2.2 (fun a3 => hk a3) v)
def c39 : Callee := mkC [.one (.ro (.slice TWanted)), .one (.ro (.slice (.int .i64)))] 1 [.one (.ro .bool)] fun x => impl_areParts x.1 x.2
theorem e39 (x : PK.dens [.one (.ro (.slice TWanted)), .one (.ro (.slice (.int .i64)))]) : evalFn Try.prog EL39 or39 Try.f39 (PK.outs [.one (.ro (.slice TWanted)), .one (.ro (.slice (.int .i64)))] x) =
    impl_arePartsK (fun y => some (tupOf ((PK.outs [.one (.ro .bool)] y).take 1), (PK.outs [.one (.ro .bool)] y).drop 1)) x.1 x.2 := by kernel_rfl
theorem o39 : LoOk Try.prog EL39 or39 Try.f39.ntmps (loopsIn (codeOf Try.f39)) :=
  LoOk.mk (m := 1) (by kernel_rfl) fun i hi => match i, hi with
    | 0, _ => ⟨Limpl_areParts_l0, by kernel_rfl, impl_areParts_l0o⟩
    | i + 1, hi => absurd hi (by omega)
theorem k39 : CalleeOk Try.prog 39 c39 := callee_mk Try.func39 (code := codeOf Try.f39) (by kernel_rfl) vL39 mixed o39 fun x y h => (e39 x).trans (p39 _ x.1 x.2 y h)

/-- impl.blendSums -/
def EL40 : Nat → Option Callee := env0
theorem vL40 : EnvOk Try.prog EL40 := EnvOk.nil
def simpl_blendSums_l0 : LS := ⟨[(0, .one (.dat (.slice TWanted))), (4, .one (.fix (.ptr 0 0))), (5, .one (.fix (.ptr 1 0))), (9, .one (.dat (.slice (.int .i64)))), (10, .one (.dat (.int .i64))), (11, .one (.dat (.int .i64)))], [.box [.dat (.int .i64), .dat (.int .i64), .dat (.int .i64), .dat (.int .i64)], .box [.dat (.int .i64), .dat (.int .i64), .dat (.int .i64), .dat (.int .i64)]], []⟩
def simpl_blendSums_l0x0 : LS := ⟨[(4, .one (.fix (.ptr 0 0))), (5, .one (.fix (.ptr 1 0)))], [.box [.dat (.int .i64), .dat (.int .i64), .dat (.int .i64), .dat (.int .i64)], .box [.dat (.int .i64), .dat (.int .i64), .dat (.int .i64), .dat (.int .i64)]], []⟩
def ximpl_blendSums_l0 : List (XS ((List DWanted) × (List Int) × Int × Int × Int × Int × Int)) := [⟨.exit 0, ⟨[4, 5], [.slot 4, .slot 5], [], []⟩, simpl_blendSums_l0x0, Int × Int × Int × Int, fun i y => (((), ((), ())), ((i.2.2.2.1, (i.2.2.2.2.1, (i.2.2.2.2.2.1, (i.2.2.2.2.2.2, ())))), ((y.1, (y.2.1, (y.2.2.1, (y.2.2.2, ())))), ())))⟩]
def impl_blendSums_l0K {R : Type} (a0 : List DWanted) (a1 : List Int) (a2 : Int) (rc : Int → Int → Int → Int → Int → Option R) (fin : Int × Int × Int × Int → Option R) (a3 : Int) (a8 : Int) (a9 : Int) (a10 : Int) (a11 : Int) : Option R :=
  cond (decide (a3 < a2))
  ((lat a1 a3).bind fun e1 =>
    (lat a0 a3).bind fun e2 =>
    (lat a0 a3).bind fun e3 =>
    (lat a0 a3).bind fun e4 =>
    rc (IntKind.i64.wrap (a3 + 1)) (IntKind.i64.wrap (a8 + e1)) (IntKind.i64.wrap (a9 + (IntKind.i64.wrap (e1 * e2.2.1)))) (IntKind.i64.wrap (a10 + (IntKind.i64.wrap (e1 * e3.2.2.1)))) (IntKind.i64.wrap (a11 + (IntKind.i64.wrap (e1 * e4.2.2.2.1)))))
  (fin (a8, (a9, (a10, a11))))
def impl_blendSums_l0F (a0 : List DWanted) (a1 : List Int) (a2 : Int) (r : (Int × Int × Int × Int × Int) → Option (Int × Int × Int × Int)) (x : Int × Int × Int × Int × Int) : Option (Int × Int × Int × Int) := impl_blendSums_l0K a0 a1 a2 (fun a3 a8 a9 a10 a11 => r (a3, (a8, (a9, (a10, a11))))) some x.1 x.2.1 x.2.2.1 x.2.2.2.1 x.2.2.2.2
theorem impl_blendSums_l0c (a0 : List DWanted) (a1 : List Int) (a2 : Int) (x : Int × Int × Int × Int × Int) : Ct fun r => impl_blendSums_l0F a0 a1 a2 r x := by
  unfold impl_blendSums_l0F impl_blendSums_l0K
  repeat' (first | exact Ct.const | exact Ct.call | refine Ct.cond ?_ ?_ | refine Ct.bind ?_ fun _ => ?_ | refine Ct.sum (fun _ => ?_) fun _ => ?_)
def impl_blendSums_l0 (a0 : List DWanted) (a1 : List Int) (a2 : Int) (a3 : Int) (a8 : Int) (a9 : Int) (a10 : Int) (a11 : Int) : Option (Int × Int × Int × Int) := lim (impl_blendSums_l0F a0 a1 a2) (a3, (a8, (a9, (a10, a11))))
theorem impl_blendSums_l0_eq (a0 : List DWanted) (a1 : List Int) (a2 : Int) (a3 : Int) (a8 : Int) (a9 : Int) (a10 : Int) (a11 : Int) : impl_blendSums_l0 a0 a1 a2 a3 a8 a9 a10 a11 = impl_blendSums_l0K a0 a1 a2 (impl_blendSums_l0 a0 a1 a2) some a3 a8 a9 a10 a11 := lim_eq (impl_blendSums_l0c a0 a1 a2) (a3, (a8, (a9, (a10, a11))))
theorem impl_blendSums_l0p {R : Type} (a0 : List DWanted) (a1 : List Int) (a2 : Int) {rc : Int → Int → Int → Int → Int → Option (Int × Int × Int × Int)} {rc' : Int → Int → Int → Int → Int → Option R} {fin : Int × Int × Int × Int → Option R} (hr : ∀ a3 a8 a9 a10 a11, Par fin (rc a3 a8 a9 a10 a11) (rc' a3 a8 a9 a10 a11)) (a3 : Int) (a8 : Int) (a9 : Int) (a10 : Int) (a11 : Int) : Par fin (impl_blendSums_l0K a0 a1 a2 rc some a3 a8 a9 a10 a11) (impl_blendSums_l0K a0 a1 a2 rc' fin a3 a8 a9 a10 a11) := by
  unfold impl_blendSums_l0K
  repeat' (first | exact .fin | exact .none | exact hr _ _ _ _ _ | refine .cond ?_ ?_ | refine .bind fun _ => ?_ | refine .sum (fun _ => ?_) fun _ => ?_)
def Limpl_blendSums_l0 : Loop := mkL ⟨[0, 4, 5, 9, 10, 11], [.slot 4, .slot 5], [], []⟩ simpl_blendSums_l0 ximpl_blendSums_l0 (fun (x : ((List DWanted) × Unit × Unit × (List Int) × Int × Int × Unit) × ((Int × Int × Int × Int × Unit) × (Int × Int × Int × Int × Unit) × Unit)) => (x.1.1, (x.1.2.2.2.1, (x.1.2.2.2.2.1, (x.2.1.1, (x.2.1.2.1, (x.2.1.2.2.1, x.2.1.2.2.2.1))))))) fun (x : ((List DWanted) × Unit × Unit × (List Int) × Int × Int × Unit) × ((Int × Int × Int × Int × Unit) × (Int × Int × Int × Int × Unit) × Unit)) => impl_blendSums_l0 x.1.1 x.1.2.2.2.1 x.1.2.2.2.2.1 x.1.2.2.2.2.2.1 x.2.2.1.1 x.2.2.1.2.1 x.2.2.1.2.2.1 x.2.2.1.2.2.2.1
def impl_blendSumsK {R : Type} (fin : DWanted → Option R) (x0 : List DWanted) (x1 : List Int) : Option R :=
  (impl_blendSums_l0 x0 x1 (x1.length : Int) 0 0 0 0 0).bind fun y5 =>
  fin (y5.1, (y5.2.1, (y5.2.2.1, (y5.2.2.2, ()))))
def impl_blendSums (x0 : List DWanted) (x1 : List Int) : Option (DWanted) := impl_blendSumsK some x0 x1
theorem p40 {R : Type} (fin : DWanted → Option R) (x0 : List DWanted) (x1 : List Int) : Par fin (impl_blendSumsK some x0 x1) (impl_blendSumsK fin x0 x1) := by
  unfold impl_blendSumsK
  repeat' (first | exact .fin | exact .none | refine .cond ?_ ?_ | refine .bind fun _ => ?_ | refine .sum (fun _ => ?_) fun _ => ?_)
def or40 : Ora := { lo := addL 3 (Limpl_blendSums_l0) lo0, fin := [] }
theorem impl_blendSums_l0e (a0 : List DWanted) (a1 : List Int) (a2 : Int) (a4 : Int) (a5 : Int) (a6 : Int) (a7 : Int) (k : Nat) (a3 : Int) (a8 : Int) (a9 : Int) (a10 : Int) (a11 : Int) : loopC Try.prog EL40 or40 ((loopsIn (codeOf Try.f40)).getD 0 .skip) (Limpl_blendSums_l0).h (Limpl_blendSums_l0).ho Try.f40.ntmps (k + 1) (simpl_blendSums_l0.out ((a0, ((), ((), (a1, (a2, (a3, ())))))), ((a4, (a5, (a6, (a7, ())))), ((a8, (a9, (a10, (a11, ())))), ())))) =
    impl_blendSums_l0K a0 a1 a2 (fun a3 a8 a9 a10 a11 => loopC Try.prog EL40 or40 ((loopsIn (codeOf Try.f40)).getD 0 .skip) (Limpl_blendSums_l0).h (Limpl_blendSums_l0).ho Try.f40.ntmps k (simpl_blendSums_l0.out ((a0, ((), ((), (a1, (a2, (a3, ())))))), ((a4, (a5, (a6, (a7, ())))), ((a8, (a9, (a10, (a11, ())))), ()))))) (fun y => some (XS.out ximpl_blendSums_l0 (a0, (a1, (a2, (a4, (a5, (a6, a7)))))) y)) a3 a8 a9 a10 a11 := by kernel_rfl
theorem impl_blendSums_l0o : LoopOk Try.prog EL40 or40 Try.f40.ntmps ((loopsIn (codeOf Try.f40)).getD 0 .skip) (Limpl_blendSums_l0) :=
  loop_lim (hs := simpl_blendSums_l0) (xs := ximpl_blendSums_l0) (ι := fun (x : ((List DWanted) × Unit × Unit × (List Int) × Int × Int × Unit) × ((Int × Int × Int × Int × Unit) × (Int × Int × Int × Int × Unit) × Unit)) => (x.1.1, (x.1.2.2.2.1, (x.1.2.2.2.2.1, (x.2.1.1, (x.2.1.2.1, (x.2.1.2.2.1, x.2.1.2.2.2.1))))))) (φ := fun (x : ((List DWanted) × Unit × Unit × (List Int) × Int × Int × Unit) × ((Int × Int × Int × Int × Unit) × (Int × Int × Int × Int × Unit) × Unit)) => (x.1.2.2.2.2.2.1, (x.2.2.1.1, (x.2.2.1.2.1, (x.2.2.1.2.2.1, x.2.2.1.2.2.2.1))))) (ψ := fun (i : (List DWanted) × (List Int) × Int × Int × Int × Int × Int) (v : Int × Int × Int × Int × Int) => ((i.1, ((), ((), (i.2.1, (i.2.2.1, (v.1, ())))))), ((i.2.2.2.1, (i.2.2.2.2.1, (i.2.2.2.2.2.1, (i.2.2.2.2.2.2, ())))), ((v.2.1, (v.2.2.1, (v.2.2.2.1, (v.2.2.2.2, ())))), ())))) (F := fun (i : (List DWanted) × (List Int) × Int × Int × Int × Int × Int) => impl_blendSums_l0F i.1 i.2.1 i.2.2.1) (fun _ => rfl) fun i k hk v => Par.of_eq (impl_blendSums_l0e i.1 i.2.1 i.2.2.1 i.2.2.2.1 i.2.2.2.2.1 i.2.2.2.2.2.1 i.2.2.2.2.2.2 k v.1 v.2.1 v.2.2.1 v.2.2.2.1 v.2.2.2.2) (impl_blendSums_l0p i.1 i.2.1 i.2.2.1 (fun a3 a8 a9 a10 a11 => hk (a3, (a8, (a9, (a10, a11))))) v.1 v.2.1 v.2.2.1 v.2.2.2.1 v.2.2.2.2)
def c40 : Callee := mkC [.one (.ro (.slice TWanted)), .one (.ro (.slice (.int .i64)))] 1 [.agg [.ro TWanted]] fun x => impl_blendSums x.1 x.2
theorem e40 (x : PK.dens [.one (.ro (.slice TWanted)), .one (.ro (.slice (.int .i64)))]) : evalFn Try.prog EL40 or40 Try.f40 (PK.outs [.one (.ro (.slice TWanted)), .one (.ro (.slice (.int .i64)))] x) =
    impl_blendSumsK (fun y => some (tupOf ((PK.outs [.agg [.ro TWanted]] y).take 1), (PK.outs [.agg [.ro TWanted]] y).drop 1)) x.1 x.2 := by kernel_rfl
theorem o40 : LoOk Try.prog EL40 or40 Try.f40.ntmps (loopsIn (codeOf Try.f40)) :=
  LoOk.mk (m := 1) (by kernel_rfl) fun i hi => match i, hi with
    | 0, _ => ⟨Limpl_blendSums_l0, by kernel_rfl, impl_blendSums_l0o⟩
    | i + 1, hi => absurd hi (by omega)
theorem k40 : CalleeOk Try.prog 40 c40 := callee_mk Try.func40 (code := codeOf Try.f40) (by kernel_rfl) vL40 mixed o40 fun x y h => (e40 x).trans (p40 _ x.1 x.2 y h)

/-- impl.BlendSums -/
def EL22 : Nat → Option Callee := addE 40 c40 (addE 39 c39 (addE 18 c18 env0))
theorem vL22 : EnvOk Try.prog EL22 := ((EnvOk.nil.add Try.func18 rfl (by kernel_rfl) k18).add Try.func39 rfl (by kernel_rfl) k39).add Try.func40 rfl (by kernel_rfl) k40
def impl_BlendSumsK {R : Type} (fin : Int × Int × Int × Int × Bool → Option R) (x0 : List DWanted) (x1 : List Int) : Option R :=
  (impl_AreBins x0).bind fun y1 =>
  cond (!y1)
  (fin (0, (0, (0, (0, false)))))
  ((impl_areParts x0 x1).bind fun y2 =>
    cond (!y2)
    (fin (0, (0, (0, (0, false)))))
    ((impl_blendSums x0 x1).bind fun y3 =>
      fin (y3.1, (y3.2.1, (y3.2.2.1, (y3.2.2.2.1, true))))))
def impl_BlendSums (x0 : List DWanted) (x1 : List Int) : Option (Int × Int × Int × Int × Bool) := impl_BlendSumsK some x0 x1
theorem p22 {R : Type} (fin : Int × Int × Int × Int × Bool → Option R) (x0 : List DWanted) (x1 : List Int) : Par fin (impl_BlendSumsK some x0 x1) (impl_BlendSumsK fin x0 x1) := by
  unfold impl_BlendSumsK
  repeat' (first | exact .fin | exact .none | refine .cond ?_ ?_ | refine .bind fun _ => ?_ | refine .sum (fun _ => ?_) fun _ => ?_)
def c22 : Callee := mkC [.one (.ro (.slice TWanted)), .one (.ro (.slice (.int .i64)))] 5 [.one (.ro (.int .i64)), .one (.ro (.int .i64)), .one (.ro (.int .i64)), .one (.ro (.int .i64)), .one (.ro .bool)] fun x => impl_BlendSums x.1 x.2
theorem e22 (x : PK.dens [.one (.ro (.slice TWanted)), .one (.ro (.slice (.int .i64)))]) : evalFn Try.prog EL22 or0 Try.f22 (PK.outs [.one (.ro (.slice TWanted)), .one (.ro (.slice (.int .i64)))] x) =
    impl_BlendSumsK (fun y => some (tupOf ((PK.outs [.one (.ro (.int .i64)), .one (.ro (.int .i64)), .one (.ro (.int .i64)), .one (.ro (.int .i64)), .one (.ro .bool)] y).take 5), (PK.outs [.one (.ro (.int .i64)), .one (.ro (.int .i64)), .one (.ro (.int .i64)), .one (.ro (.int .i64)), .one (.ro .bool)] y).drop 5)) x.1 x.2 := by kernel_rfl
theorem k22 : CalleeOk Try.prog 22 c22 := callee_mk Try.func22 (code := codeOf Try.f22) (by kernel_rfl) vL22 mixed (LoOk.nil (by kernel_rfl)) fun x y h => (e22 x).trans (p22 _ x.1 x.2 y h)

/-- laws.eqIntS -/
def EL23 : Nat → Option Callee := env0
theorem vL23 : EnvOk Try.prog EL23 := EnvOk.nil
def slaws_eqIntS_l0 : LS := ⟨[(0, .one (.dat (.slice (.int .i64)))), (1, .one (.dat (.slice (.int .i64)))), (5, .one (.dat (.int .i64)))], [], []⟩
def slaws_eqIntS_l0x0 : LS := ⟨[(4, .one (.dat .bool))], [], []⟩
def slaws_eqIntS_l0x1 : LS := ⟨[], [], []⟩
def xlaws_eqIntS_l0 : List (XS ((List Int) × (List Int))) := [⟨.ret, ⟨[4], [], [], []⟩, slaws_eqIntS_l0x0, Bool, fun i y => ((y, ()), ())⟩,
  ⟨.exit 0, ⟨[], [], [], []⟩, slaws_eqIntS_l0x1, Unit, fun i y => ((), ())⟩]
def laws_eqIntS_l0K {R : Type} (a0 : List Int) (a1 : List Int) (rc : Int → Option R) (fin : (Bool ⊕ Unit) → Option R) (a2 : Int) : Option R :=
  cond (decide (a2 < (a0.length : Int)))
  ((lat a0 a2).bind fun e1 =>
    (lat a1 a2).bind fun e2 =>
    cond (e1 != e2)
    (fin (.inl false))
    (rc (IntKind.i64.wrap (a2 + 1))))
  (fin (.inr ()))
def laws_eqIntS_l0F (a0 : List Int) (a1 : List Int) (r : Int → Option (Bool ⊕ Unit)) (x : Int) : Option (Bool ⊕ Unit) := laws_eqIntS_l0K a0 a1 (fun a2 => r a2) some x
theorem laws_eqIntS_l0c (a0 : List Int) (a1 : List Int) (x : Int) : Ct fun r => laws_eqIntS_l0F a0 a1 r x := by
  unfold laws_eqIntS_l0F laws_eqIntS_l0K
  repeat' (first | exact Ct.const | exact Ct.call | refine Ct.cond ?_ ?_ | refine Ct.bind ?_ fun _ => ?_ | refine Ct.sum (fun _ => ?_) fun _ => ?_)
def laws_eqIntS_l0 (a0 : List Int) (a1 : List Int) (a2 : Int) : Option (Bool ⊕ Unit) := lim (laws_eqIntS_l0F a0 a1) a2
theorem laws_eqIntS_l0_eq (a0 : List Int) (a1 : List Int) (a2 : Int) : laws_eqIntS_l0 a0 a1 a2 = laws_eqIntS_l0K a0 a1 (laws_eqIntS_l0 a0 a1) some a2 := lim_eq (laws_eqIntS_l0c a0 a1) a2
theorem laws_eqIntS_l0p {R : Type} (a0 : List Int) (a1 : List Int) {rc : Int → Option (Bool ⊕ Unit)} {rc' : Int → Option R} {fin : (Bool ⊕ Unit) → Option R} (hr : ∀ a2, Par fin (rc a2) (rc' a2)) (a2 : Int) : Par fin (laws_eqIntS_l0K a0 a1 rc some a2) (laws_eqIntS_l0K a0 a1 rc' fin a2) := by
  unfold laws_eqIntS_l0K
  repeat' (first | exact .fin | exact .none | exact hr _ | refine .cond ?_ ?_ | refine .bind fun _ => ?_ | refine .sum (fun _ => ?_) fun _ => ?_)
def Llaws_eqIntS_l0 : Loop := mkL ⟨[0, 1, 5], [], [], []⟩ slaws_eqIntS_l0 xlaws_eqIntS_l0 (fun (x : ((List Int) × (List Int) × Int × Unit) × (Unit)) => (x.1.1, x.1.2.1)) fun (x : ((List Int) × (List Int) × Int × Unit) × (Unit)) => laws_eqIntS_l0 x.1.1 x.1.2.1 x.1.2.2.1
def laws_eqIntSK {R : Type} (fin : Bool → Option R) (x0 : List Int) (x1 : List Int) : Option R :=
  cond ((x0.length : Int) != (x1.length : Int))
  (fin false)
  ((laws_eqIntS_l0 x0 x1 0).bind fun y3 =>
    sumO y3 (fun y4 =>
    fin y4)
    (fun y5 =>
    fin true))
def laws_eqIntS (x0 : List Int) (x1 : List Int) : Option (Bool) := laws_eqIntSK some x0 x1
theorem p23 {R : Type} (fin : Bool → Option R) (x0 : List Int) (x1 : List Int) : Par fin (laws_eqIntSK some x0 x1) (laws_eqIntSK fin x0 x1) := by
  unfold laws_eqIntSK
  repeat' (first | exact .fin | exact .none | refine .cond ?_ ?_ | refine .bind fun _ => ?_ | refine .sum (fun _ => ?_) fun _ => ?_)
def or23 : Ora := { lo := addL 4 (Llaws_eqIntS_l0) lo0, fin := [] }
theorem laws_eqIntS_l0e (a0 : List Int) (a1 : List Int) (k : Nat) (a2 : Int) : loopC Try.prog EL23 or23 ((loopsIn (codeOf Try.f23)).getD 0 .skip) (Llaws_eqIntS_l0).h (Llaws_eqIntS_l0).ho Try.f23.ntmps (k + 1) (slaws_eqIntS_l0.out ((a0, (a1, (a2, ()))), ())) =
    laws_eqIntS_l0K a0 a1 (fun a2 => loopC Try.prog EL23 or23 ((loopsIn (codeOf Try.f23)).getD 0 .skip) (Llaws_eqIntS_l0).h (Llaws_eqIntS_l0).ho Try.f23.ntmps k (slaws_eqIntS_l0.out ((a0, (a1, (a2, ()))), ()))) (fun y => some (XS.out xlaws_eqIntS_l0 (a0, a1) y)) a2 := by kernel_rfl
theorem laws_eqIntS_l0o : LoopOk Try.prog EL23 or23 Try.f23.ntmps ((loopsIn (codeOf Try.f23)).getD 0 .skip) (Llaws_eqIntS_l0) :=
  loop_lim (hs := slaws_eqIntS_l0) (xs := xlaws_eqIntS_l0) (ι := fun (x : ((List Int) × (List Int) × Int × Unit) × (Unit)) => (x.1.1, x.1.2.1)) (φ := fun (x : ((List Int) × (List Int) × Int × Unit) × (Unit)) => x.1.2.2.1) (ψ := fun (i : (List Int) × (List Int)) (v : Int) => ((i.1, (i.2, (v, ()))), ())) (F := fun (i : (List Int) × (List Int)) => laws_eqIntS_l0F i.1 i.2) (fun _ => rfl) fun i k hk v => Par.of_eq (laws_eqIntS_l0e i.1 i.2 k v) (laws_eqIntS_l0p i.1 i.2 (fun a2 => hk a2) v)
def c23 : Callee := mkC [.one (.ro (.slice (.int .i64))), .one (.ro (.slice (.int .i64)))] 1 [.one (.ro .bool)] fun x => laws_eqIntS x.1 x.2
theorem e23 (x : PK.dens [.one (.ro (.slice (.int .i64))), .one (.ro (.slice (.int .i64)))]) : evalFn Try.prog EL23 or23 Try.f23 (PK.outs [.one (.ro (.slice (.int .i64))), .one (.ro (.slice (.int .i64)))] x) =
    laws_eqIntSK (fun y => some (tupOf ((PK.outs [.one (.ro .bool)] y).take 1), (PK.outs [.one (.ro .bool)] y).drop 1)) x.1 x.2 := by kernel_rfl
theorem o23 : LoOk Try.prog EL23 or23 Try.f23.ntmps (loopsIn (codeOf Try.f23)) :=
  LoOk.mk (m := 1) (by kernel_rfl) fun i hi => match i, hi with
    | 0, _ => ⟨Llaws_eqIntS_l0, by kernel_rfl, laws_eqIntS_l0o⟩
    | i + 1, hi => absurd hi (by omega)
theorem k23 : CalleeOk Try.prog 23 c23 := callee_mk Try.func23 (code := codeOf Try.f23) (by kernel_rfl) vL23 mixed o23 fun x y h => (e23 x).trans (p23 _ x.1 x.2 y h)

/-- laws.FnExactBlendSums -/
def EL6 : Nat → Option Callee := addE 23 c23 (addE 19 c19 (addE 22 c22 (addE 20 c20 (addE 21 c21 (addE 17 c17 (addE 15 c15 env0))))))
theorem vL6 : EnvOk Try.prog EL6 := ((((((EnvOk.nil.add Try.func15 rfl (by kernel_rfl) k15).add Try.func17 rfl (by kernel_rfl) k17).add Try.func21 rfl (by kernel_rfl) k21).add Try.func20 rfl (by kernel_rfl) k20).add Try.func22 rfl (by kernel_rfl) k22).add Try.func19 rfl (by kernel_rfl) k19).add Try.func23 rfl (by kernel_rfl) k23
def laws_FnExactBlendSumsK {R : Type} (fin : Bool → Option R) (x0 : List DWanted) (x1 : List Int) : Option R :=
  cond (decide ((x1.length : Int) > 1048576))
  (fin true)
  ((laws_szBinS x0 1048576).bind fun y1 =>
    cond (decide (y1 < 0))
    (fin true)
    ((laws_toBinS x0).bind fun y2 =>
      (laws_toIntS x1).bind fun y3 =>
      (spec_BlendSums y2 y3).bind fun y4 =>
      (laws_toBinS x0).bind fun y5 =>
      (laws_toIntS x1).bind fun y6 =>
      (impl_BlendSums y5 y6).bind fun y7 =>
      cond (y7.1 != y4.1)
      (fin false)
      (cond (y7.2.1 != y4.2.1)
        (fin false)
        (cond (y7.2.2.1 != y4.2.2.1)
          (fin false)
          (cond (y7.2.2.2.1 != y4.2.2.2.1)
            (fin false)
            (cond (!(y7.2.2.2.2 == y4.2.2.2.2))
              (fin false)
              ((laws_toBinS x0).bind fun y8 =>
                (laws_eqBinS y5 y8).bind fun y9 =>
                cond (!y9)
                (fin false)
                ((laws_toIntS x1).bind fun y10 =>
                  (laws_eqIntS y6 y10).bind fun y11 =>
                  cond (!y11)
                  (fin false)
                  (fin true)))))))))
def laws_FnExactBlendSums (x0 : List DWanted) (x1 : List Int) : Option (Bool) := laws_FnExactBlendSumsK some x0 x1
theorem p6 {R : Type} (fin : Bool → Option R) (x0 : List DWanted) (x1 : List Int) : Par fin (laws_FnExactBlendSumsK some x0 x1) (laws_FnExactBlendSumsK fin x0 x1) := by
  unfold laws_FnExactBlendSumsK
  repeat' (first | exact .fin | exact .none | refine .cond ?_ ?_ | refine .bind fun _ => ?_ | refine .sum (fun _ => ?_) fun _ => ?_)
def c6 : Callee := mkC [.one (.ro (.slice TWanted)), .one (.ro (.slice (.int .i64)))] 1 [.one (.ro .bool)] fun x => laws_FnExactBlendSums x.1 x.2
theorem e6 (x : PK.dens [.one (.ro (.slice TWanted)), .one (.ro (.slice (.int .i64)))]) : evalFn Try.prog EL6 or0 Try.f6 (PK.outs [.one (.ro (.slice TWanted)), .one (.ro (.slice (.int .i64)))] x) =
    laws_FnExactBlendSumsK (fun y => some (tupOf ((PK.outs [.one (.ro .bool)] y).take 1), (PK.outs [.one (.ro .bool)] y).drop 1)) x.1 x.2 := by kernel_rfl
theorem k6 : CalleeOk Try.prog 6 c6 := callee_mk Try.func6 (code := codeOf Try.f6) (by kernel_rfl) vL6 mixed (LoOk.nil (by kernel_rfl)) fun x y h => (e6 x).trans (p6 _ x.1 x.2 y h)
end
end Go.OAI
