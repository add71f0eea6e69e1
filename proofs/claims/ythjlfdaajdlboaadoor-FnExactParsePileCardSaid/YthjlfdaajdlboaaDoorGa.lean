/- Contracts. -/
import Derived.Test.YthjlfdaajdlboaaDoorK3
import Derived.Test.YthjlfdaajdlboaaDoorProg
import Derived.Test.YthjlfdaajdlboaaDoorKL
namespace Go.OAI
open Go.Proofs
set_option linter.unusedVariables false
noncomputable section

@[reducible] def TLot : Ty := .pair (.int .i64) (.pair (.int .i64) .unit)
abbrev DLot : Type := Int × Int × Unit
@[reducible] def TPile : Ty := .pair .bool (.pair (.int .i64) (.pair (.slice TLot) .unit))
abbrev DPile : Type := Bool × Int × (List DLot) × Unit
def or0 : Ora := { lo := fun _ => none }
theorem mixed : Tryd.prog.follows .mixedOrders = true := by kernel_rfl

/-- spec.l1Split -/
def EL21 : Nat → Option Callee := env0
theorem vL21 : EnvOk Tryd.prog EL21 := EnvOk.nil
def sspec_l1Split_l0 : LS := ⟨[(0, .one (.dat .str)), (1, .one (.dat (.int .u8))), (5, .one (.fix (.sref 0))), (6, .one (.dat (.int .i64))), (7, .one (.dat (.int .i64)))], [.sl .str], []⟩
def sspec_l1Split_l0x0 : LS := ⟨[(0, .one (.dat .str)), (5, .one (.fix (.sref 0))), (6, .one (.dat (.int .i64)))], [.sl .str], []⟩
def xspec_l1Split_l0 : List (XS (ByteArray × Int)) := [⟨.exit 0, ⟨[0, 5, 6], [.slot 5], [], []⟩, sspec_l1Split_l0x0, Int × (List ByteArray), fun i y => ((i.1, ((), (y.1, ()))), (y.2, ()))⟩]
def spec_l1Split_l0K {R : Type} (a0 : ByteArray) (a1 : Int) (rc : Int → Int → List ByteArray → Option R) (fin : Int × (List ByteArray) → Option R) (a2 : Int) (a3 : Int) (a4 : List ByteArray) : Option R :=
  cond (decide (a3 < (a0.size : Int)))
  ((bat a0 a3).bind fun e1 =>
    cond (e1 == a1)
    (cond (decide ((0 : Int) ≤ a2) && (decide (a2 ≤ a3) && decide (a3 ≤ (a0.size : Int))))
      ((some (a0.extract a2.toNat a3.toNat)).bind fun v2 =>
        cond (decide (a4.length + [v2].length ≤ 1099511627776))
        (rc (IntKind.i64.wrap (a3 + 1)) (IntKind.i64.wrap (a3 + 1)) (a4 ++ [v2]))
        (none))
      (none))
    (rc a2 (IntKind.i64.wrap (a3 + 1)) a4))
  (fin (a2, a4))
def spec_l1Split_l0F (a0 : ByteArray) (a1 : Int) (r : (Int × Int × (List ByteArray)) → Option (Int × (List ByteArray))) (x : Int × Int × (List ByteArray)) : Option (Int × (List ByteArray)) := spec_l1Split_l0K a0 a1 (fun a2 a3 a4 => r (a2, (a3, a4))) some x.1 x.2.1 x.2.2
theorem spec_l1Split_l0c (a0 : ByteArray) (a1 : Int) (x : Int × Int × (List ByteArray)) : Ct fun r => spec_l1Split_l0F a0 a1 r x := by
  unfold spec_l1Split_l0F spec_l1Split_l0K
  repeat' (first | exact Ct.const | exact Ct.call | refine Ct.cond ?_ ?_ | refine Ct.bind ?_ fun _ => ?_ | refine Ct.sum (fun _ => ?_) fun _ => ?_)
def spec_l1Split_l0 (a0 : ByteArray) (a1 : Int) (a2 : Int) (a3 : Int) (a4 : List ByteArray) : Option (Int × (List ByteArray)) := lim (spec_l1Split_l0F a0 a1) (a2, (a3, a4))
theorem spec_l1Split_l0_eq (a0 : ByteArray) (a1 : Int) (a2 : Int) (a3 : Int) (a4 : List ByteArray) : spec_l1Split_l0 a0 a1 a2 a3 a4 = spec_l1Split_l0K a0 a1 (spec_l1Split_l0 a0 a1) some a2 a3 a4 := lim_eq (spec_l1Split_l0c a0 a1) (a2, (a3, a4))
theorem spec_l1Split_l0p {R : Type} (a0 : ByteArray) (a1 : Int) {rc : Int → Int → List ByteArray → Option (Int × (List ByteArray))} {rc' : Int → Int → List ByteArray → Option R} {fin : Int × (List ByteArray) → Option R} (hr : ∀ a2 a3 a4, Par fin (rc a2 a3 a4) (rc' a2 a3 a4)) (a2 : Int) (a3 : Int) (a4 : List ByteArray) : Par fin (spec_l1Split_l0K a0 a1 rc some a2 a3 a4) (spec_l1Split_l0K a0 a1 rc' fin a2 a3 a4) := by
  unfold spec_l1Split_l0K
  repeat' (first | exact .fin | exact .none | exact hr _ _ _ | refine .cond ?_ ?_ | refine .bind fun _ => ?_ | refine .sum (fun _ => ?_) fun _ => ?_)
def Lspec_l1Split_l0 : Loop := mkL ⟨[0, 1, 5, 6, 7], [.slot 5], [], [.own (.slot 5) .str]⟩ sspec_l1Split_l0 xspec_l1Split_l0 (fun (x : (ByteArray × Int × Unit × Int × Int × Unit) × ((List ByteArray) × Unit)) => (x.1.1, x.1.2.1)) fun (x : (ByteArray × Int × Unit × Int × Int × Unit) × ((List ByteArray) × Unit)) => spec_l1Split_l0 x.1.1 x.1.2.1 x.1.2.2.2.1 x.1.2.2.2.2.1 x.2.1
def spec_l1SplitK {R : Type} (fin : List ByteArray → Option R) (x0 : ByteArray) (x1 : Int) : Option R :=
  (spec_l1Split_l0 x0 x1 0 0 []).bind fun y5 =>
  cond (decide ((0 : Int) ≤ y5.1) && (decide (y5.1 ≤ (x0.size : Int)) && decide ((x0.size : Int) ≤ (x0.size : Int))))
  ((some (x0.extract y5.1.toNat ((x0.size : Int).toNat))).bind fun v6 =>
    cond (decide (y5.2.length + [v6].length ≤ 1099511627776))
    ((some (y5.2 ++ [v6])).bind fun v7 =>
      fin v7)
    (none))
  (none)
def spec_l1Split (x0 : ByteArray) (x1 : Int) : Option (List ByteArray) := spec_l1SplitK some x0 x1
theorem p21 {R : Type} (fin : List ByteArray → Option R) (x0 : ByteArray) (x1 : Int) : Par fin (spec_l1SplitK some x0 x1) (spec_l1SplitK fin x0 x1) := by
  unfold spec_l1SplitK
  repeat' (first | exact .fin | exact .none | refine .cond ?_ ?_ | refine .bind fun _ => ?_ | refine .sum (fun _ => ?_) fun _ => ?_)
def or21 : Ora := { lo := addL 4 (Lspec_l1Split_l0) lo0, fin := [] }
theorem spec_l1Split_l0e (a0 : ByteArray) (a1 : Int) (k : Nat) (a2 : Int) (a3 : Int) (a4 : List ByteArray) : loopC Tryd.prog EL21 or21 ((loopsIn (codeOf Tryd.f21)).getD 0 .skip) (Lspec_l1Split_l0).h (Lspec_l1Split_l0).ho Tryd.f21.ntmps (k + 1) (sspec_l1Split_l0.out ((a0, (a1, ((), (a2, (a3, ()))))), (a4, ()))) =
    spec_l1Split_l0K a0 a1 (fun a2 a3 a4 => loopC Tryd.prog EL21 or21 ((loopsIn (codeOf Tryd.f21)).getD 0 .skip) (Lspec_l1Split_l0).h (Lspec_l1Split_l0).ho Tryd.f21.ntmps k (sspec_l1Split_l0.out ((a0, (a1, ((), (a2, (a3, ()))))), (a4, ())))) (fun y => some (XS.out xspec_l1Split_l0 (a0, a1) y)) a2 a3 a4 := by kernel_rfl
theorem spec_l1Split_l0o : LoopOk Tryd.prog EL21 or21 Tryd.f21.ntmps ((loopsIn (codeOf Tryd.f21)).getD 0 .skip) (Lspec_l1Split_l0) :=
  loop_lim (hs := sspec_l1Split_l0) (xs := xspec_l1Split_l0) (ι := fun (x : (ByteArray × Int × Unit × Int × Int × Unit) × ((List ByteArray) × Unit)) => (x.1.1, x.1.2.1)) (φ := fun (x : (ByteArray × Int × Unit × Int × Int × Unit) × ((List ByteArray) × Unit)) => (x.1.2.2.2.1, (x.1.2.2.2.2.1, x.2.1))) (ψ := fun (i : ByteArray × Int) (v : Int × Int × (List ByteArray)) => ((i.1, (i.2, ((), (v.1, (v.2.1, ()))))), (v.2.2, ()))) (F := fun (i : ByteArray × Int) => spec_l1Split_l0F i.1 i.2) (fun _ => rfl) fun i k hk v => Par.of_eq (spec_l1Split_l0e i.1 i.2 k v.1 v.2.1 v.2.2) (spec_l1Split_l0p i.1 i.2 (fun a2 a3 a4 => hk (a2, (a3, a4))) v.1 v.2.1 v.2.2)
def c21 : Callee := mkC [.one (.ro .str), .one (.ro (.int .u8))] 1 [.one (.sl .str)] fun x => spec_l1Split x.1 x.2
theorem e21 (x : PK.dens [.one (.ro .str), .one (.ro (.int .u8))]) : evalFn Tryd.prog EL21 or21 Tryd.f21 (PK.outs [.one (.ro .str), .one (.ro (.int .u8))] x) =
    spec_l1SplitK (fun y => some (tupOf ((PK.outs [.one (.sl .str)] y).take 1), (PK.outs [.one (.sl .str)] y).drop 1)) x.1 x.2 := by kernel_rfl
theorem o21 : LoOk Tryd.prog EL21 or21 Tryd.f21.ntmps (loopsIn (codeOf Tryd.f21)) :=
  LoOk.mk (m := 1) (by kernel_rfl) fun i hi => match i, hi with
    | 0, _ => ⟨Lspec_l1Split_l0, by kernel_rfl, spec_l1Split_l0o⟩
    | i + 1, hi => absurd hi (by omega)
theorem k21 : CalleeOk Tryd.prog 21 c21 := callee_mk Tryd.func21 (code := codeOf Tryd.f21) (by kernel_rfl) vL21 mixed o21 fun x y h => (e21 x).trans (p21 _ x.1 x.2 y h)

/-- spec.l1In -/
def EL30 : Nat → Option Callee := env0
theorem vL30 : EnvOk Tryd.prog EL30 := EnvOk.nil
def spec_l1InK {R : Type} (fin : Bool → Option R) (x0 : Int) (x1 : Int) (x2 : Int) : Option R :=
  cond (decide (x0 ≥ x1))
  (fin (decide (x0 ≤ x2)))
  (fin false)
def spec_l1In (x0 : Int) (x1 : Int) (x2 : Int) : Option (Bool) := spec_l1InK some x0 x1 x2
theorem p30 {R : Type} (fin : Bool → Option R) (x0 : Int) (x1 : Int) (x2 : Int) : Par fin (spec_l1InK some x0 x1 x2) (spec_l1InK fin x0 x1 x2) := by
  unfold spec_l1InK
  repeat' (first | exact .fin | exact .none | refine .cond ?_ ?_ | refine .bind fun _ => ?_ | refine .sum (fun _ => ?_) fun _ => ?_)
def c30 : Callee := mkC [.one (.ro (.int .i64)), .one (.ro (.int .i64)), .one (.ro (.int .i64))] 1 [.one (.ro .bool)] fun x => spec_l1In x.1 x.2.1 x.2.2
theorem e30 (x : PK.dens [.one (.ro (.int .i64)), .one (.ro (.int .i64)), .one (.ro (.int .i64))]) : evalFn Tryd.prog EL30 or0 Tryd.f30 (PK.outs [.one (.ro (.int .i64)), .one (.ro (.int .i64)), .one (.ro (.int .i64))] x) =
    spec_l1InK (fun y => some (tupOf ((PK.outs [.one (.ro .bool)] y).take 1), (PK.outs [.one (.ro .bool)] y).drop 1)) x.1 x.2.1 x.2.2 := by kernel_rfl
theorem k30 : CalleeOk Tryd.prog 30 c30 := callee_mk Tryd.func30 (code := codeOf Tryd.f30) (by kernel_rfl) vL30 mixed (LoOk.nil (by kernel_rfl)) fun x y h => (e30 x).trans (p30 _ x.1 x.2.1 x.2.2 y h)

/-- spec.spNumber -/
def EL22 : Nat → Option Callee := addE 30 c30 env0
theorem vL22 : EnvOk Tryd.prog EL22 := EnvOk.nil.add Tryd.func30 rfl (by kernel_rfl) k30
def sspec_spNumber_l0 : LS := ⟨[(0, .one (.dat .str)), (3, .one (.dat (.int .i64))), (4, .one (.dat (.int .i64)))], [], []⟩
def sspec_spNumber_l0x0 : LS := ⟨[(2, .one (.dat (.int .i64)))], [], []⟩
def sspec_spNumber_l0x1 : LS := ⟨[(3, .one (.dat (.int .i64)))], [], []⟩
def xspec_spNumber_l0 : List (XS (ByteArray)) := [⟨.ret, ⟨[2], [], [], []⟩, sspec_spNumber_l0x0, Int, fun i y => ((y, ()), ())⟩,
  ⟨.exit 0, ⟨[3], [], [], []⟩, sspec_spNumber_l0x1, Int, fun i y => ((y, ()), ())⟩]
def spec_spNumber_l0K {R : Type} (a0 : ByteArray) (rc : Int → Int → Option R) (fin : (Int ⊕ Int) → Option R) (a1 : Int) (a2 : Int) : Option R :=
  cond (decide (a2 < (a0.size : Int)))
  ((bat a0 a2).bind fun e1 =>
    cond (decide (e1 < 48))
    (fin (.inl (-1)))
    ((bat a0 a2).bind fun e2 =>
      cond (decide (e2 > 57))
      (fin (.inl (-1)))
      ((bat a0 a2).bind fun e3 =>
        (some (IntKind.i64.wrap ((IntKind.i64.wrap (10 * a1)) + (IntKind.i64.wrap (IntKind.u8.wrap (e3 - 48)))))).bind fun v4 =>
        rc v4 (IntKind.i64.wrap (a2 + 1)))))
  (fin (.inr a1))
def spec_spNumber_l0F (a0 : ByteArray) (r : (Int × Int) → Option (Int ⊕ Int)) (x : Int × Int) : Option (Int ⊕ Int) := spec_spNumber_l0K a0 (fun a1 a2 => r (a1, a2)) some x.1 x.2
theorem spec_spNumber_l0c (a0 : ByteArray) (x : Int × Int) : Ct fun r => spec_spNumber_l0F a0 r x := by
  unfold spec_spNumber_l0F spec_spNumber_l0K
  repeat' (first | exact Ct.const | exact Ct.call | refine Ct.cond ?_ ?_ | refine Ct.bind ?_ fun _ => ?_ | refine Ct.sum (fun _ => ?_) fun _ => ?_)
def spec_spNumber_l0 (a0 : ByteArray) (a1 : Int) (a2 : Int) : Option (Int ⊕ Int) := lim (spec_spNumber_l0F a0) (a1, a2)
theorem spec_spNumber_l0_eq (a0 : ByteArray) (a1 : Int) (a2 : Int) : spec_spNumber_l0 a0 a1 a2 = spec_spNumber_l0K a0 (spec_spNumber_l0 a0) some a1 a2 := lim_eq (spec_spNumber_l0c a0) (a1, a2)
theorem spec_spNumber_l0p {R : Type} (a0 : ByteArray) {rc : Int → Int → Option (Int ⊕ Int)} {rc' : Int → Int → Option R} {fin : (Int ⊕ Int) → Option R} (hr : ∀ a1 a2, Par fin (rc a1 a2) (rc' a1 a2)) (a1 : Int) (a2 : Int) : Par fin (spec_spNumber_l0K a0 rc some a1 a2) (spec_spNumber_l0K a0 rc' fin a1 a2) := by
  unfold spec_spNumber_l0K
  repeat' (first | exact .fin | exact .none | exact hr _ _ | refine .cond ?_ ?_ | refine .bind fun _ => ?_ | refine .sum (fun _ => ?_) fun _ => ?_)
def Lspec_spNumber_l0 : Loop := mkL ⟨[0, 3, 4], [], [], []⟩ sspec_spNumber_l0 xspec_spNumber_l0 (fun (x : (ByteArray × Int × Int × Unit) × (Unit)) => x.1.1) fun (x : (ByteArray × Int × Int × Unit) × (Unit)) => spec_spNumber_l0 x.1.1 x.1.2.1 x.1.2.2.1
def spec_spNumberK {R : Type} (fin : Int → Option R) (x0 : ByteArray) : Option R :=
  (spec_l1In (x0.size : Int) 1 10).bind fun y1 =>
  cond (!y1)
  (fin (-1))
  ((spec_spNumber_l0 x0 0 0).bind fun y6 =>
    sumO y6 (fun y7 =>
    fin y7)
    (fun y8 =>
    fin y8))
def spec_spNumber (x0 : ByteArray) : Option (Int) := spec_spNumberK some x0
theorem p22 {R : Type} (fin : Int → Option R) (x0 : ByteArray) : Par fin (spec_spNumberK some x0) (spec_spNumberK fin x0) := by
  unfold spec_spNumberK
  repeat' (first | exact .fin | exact .none | refine .cond ?_ ?_ | refine .bind fun _ => ?_ | refine .sum (fun _ => ?_) fun _ => ?_)
def or22 : Ora := { lo := addL 5 (Lspec_spNumber_l0) lo0, fin := [] }
theorem spec_spNumber_l0e (a0 : ByteArray) (k : Nat) (a1 : Int) (a2 : Int) : loopC Tryd.prog EL22 or22 ((loopsIn (codeOf Tryd.f22)).getD 0 .skip) (Lspec_spNumber_l0).h (Lspec_spNumber_l0).ho Tryd.f22.ntmps (k + 1) (sspec_spNumber_l0.out ((a0, (a1, (a2, ()))), ())) =
    spec_spNumber_l0K a0 (fun a1 a2 => loopC Tryd.prog EL22 or22 ((loopsIn (codeOf Tryd.f22)).getD 0 .skip) (Lspec_spNumber_l0).h (Lspec_spNumber_l0).ho Tryd.f22.ntmps k (sspec_spNumber_l0.out ((a0, (a1, (a2, ()))), ()))) (fun y => some (XS.out xspec_spNumber_l0 a0 y)) a1 a2 := by kernel_rfl
theorem spec_spNumber_l0o : LoopOk Tryd.prog EL22 or22 Tryd.f22.ntmps ((loopsIn (codeOf Tryd.f22)).getD 0 .skip) (Lspec_spNumber_l0) :=
  loop_lim (hs := sspec_spNumber_l0) (xs := xspec_spNumber_l0) (ι := fun (x : (ByteArray × Int × Int × Unit) × (Unit)) => x.1.1) (φ := fun (x : (ByteArray × Int × Int × Unit) × (Unit)) => (x.1.2.1, x.1.2.2.1)) (ψ := fun (i : ByteArray) (v : Int × Int) => ((i, (v.1, (v.2, ()))), ())) (F := fun (i : ByteArray) => spec_spNumber_l0F i) (fun _ => rfl) fun i k hk v => Par.of_eq (spec_spNumber_l0e i k v.1 v.2) (spec_spNumber_l0p i (fun a1 a2 => hk (a1, a2)) v.1 v.2)
def c22 : Callee := mkC [.one (.ro .str)] 1 [.one (.ro (.int .i64))] fun x => spec_spNumber x
theorem e22 (x : PK.dens [.one (.ro .str)]) : evalFn Tryd.prog EL22 or22 Tryd.f22 (PK.outs [.one (.ro .str)] x) =
    spec_spNumberK (fun y => some (tupOf ((PK.outs [.one (.ro (.int .i64))] y).take 1), (PK.outs [.one (.ro (.int .i64))] y).drop 1)) x := by kernel_rfl
theorem o22 : LoOk Tryd.prog EL22 or22 Tryd.f22.ntmps (loopsIn (codeOf Tryd.f22)) :=
  LoOk.mk (m := 1) (by kernel_rfl) fun i hi => match i, hi with
    | 0, _ => ⟨Lspec_spNumber_l0, by kernel_rfl, spec_spNumber_l0o⟩
    | i + 1, hi => absurd hi (by omega)
theorem k22 : CalleeOk Tryd.prog 22 c22 := callee_mk Tryd.func22 (code := codeOf Tryd.f22) (by kernel_rfl) vL22 mixed o22 fun x y h => (e22 x).trans (p22 _ x y h)

/-- spec.spLot -/
def EL28 : Nat → Option Callee := addE 30 c30 env0
theorem vL28 : EnvOk Tryd.prog EL28 := EnvOk.nil.add Tryd.func30 rfl (by kernel_rfl) k30
def spec_spLotK {R : Type} (fin : Bool → Option R) (x0 : DLot) : Option R :=
  (spec_l1In x0.1 1 1000000).bind fun y1 =>
  cond (y1)
  ((spec_l1In x0.2.1 0 (IntKind.i64.wrap (1000 * x0.1))).bind fun y2 =>
    fin y2)
  (fin false)
def spec_spLot (x0 : DLot) : Option (Bool) := spec_spLotK some x0
theorem p28 {R : Type} (fin : Bool → Option R) (x0 : DLot) : Par fin (spec_spLotK some x0) (spec_spLotK fin x0) := by
  unfold spec_spLotK
  repeat' (first | exact .fin | exact .none | refine .cond ?_ ?_ | refine .bind fun _ => ?_ | refine .sum (fun _ => ?_) fun _ => ?_)
def c28 : Callee := mkC [.agg [.ro TLot]] 1 [.one (.ro .bool)] fun x => spec_spLot x
theorem e28 (x : PK.dens [.agg [.ro TLot]]) : evalFn Tryd.prog EL28 or0 Tryd.f28 (PK.outs [.agg [.ro TLot]] x) =
    spec_spLotK (fun y => some (tupOf ((PK.outs [.one (.ro .bool)] y).take 1), (PK.outs [.one (.ro .bool)] y).drop 1)) x := by kernel_rfl
theorem k28 : CalleeOk Tryd.prog 28 c28 := callee_mk Tryd.func28 (code := codeOf Tryd.f28) (by kernel_rfl) vL28 mixed (LoOk.nil (by kernel_rfl)) fun x y h => (e28 x).trans (p28 _ x y h)

/-- spec.spSums -/
def EL29 : Nat → Option Callee := env0
theorem vL29 : EnvOk Tryd.prog EL29 := EnvOk.nil
def sspec_spSums_l0 : LS := ⟨[(4, .one (.dat (.int .i64))), (5, .one (.dat (.int .i64))), (8, .one (.dat (.slice TLot))), (9, .one (.dat (.int .i64))), (10, .one (.dat (.int .i64)))], [], []⟩
def sspec_spSums_l0x0 : LS := ⟨[(4, .one (.dat (.int .i64))), (5, .one (.dat (.int .i64)))], [], []⟩
def xspec_spSums_l0 : List (XS ((List DLot) × Int)) := [⟨.exit 0, ⟨[4, 5], [], [], []⟩, sspec_spSums_l0x0, Int × Int, fun i y => ((y.1, (y.2, ())), ())⟩]
def spec_spSums_l0K {R : Type} (a2 : List DLot) (a3 : Int) (rc : Int → Int → Int → Option R) (fin : Int × Int → Option R) (a0 : Int) (a1 : Int) (a4 : Int) : Option R :=
  cond (decide (a4 < a3))
  ((lat a2 a4).bind fun e1 =>
    rc (IntKind.i64.wrap (a0 + e1.1)) (IntKind.i64.wrap (a1 + e1.2.1)) (IntKind.i64.wrap (a4 + 1)))
  (fin (a0, a1))
def spec_spSums_l0F (a2 : List DLot) (a3 : Int) (r : (Int × Int × Int) → Option (Int × Int)) (x : Int × Int × Int) : Option (Int × Int) := spec_spSums_l0K a2 a3 (fun a0 a1 a4 => r (a0, (a1, a4))) some x.1 x.2.1 x.2.2
theorem spec_spSums_l0c (a2 : List DLot) (a3 : Int) (x : Int × Int × Int) : Ct fun r => spec_spSums_l0F a2 a3 r x := by
  unfold spec_spSums_l0F spec_spSums_l0K
  repeat' (first | exact Ct.const | exact Ct.call | refine Ct.cond ?_ ?_ | refine Ct.bind ?_ fun _ => ?_ | refine Ct.sum (fun _ => ?_) fun _ => ?_)
def spec_spSums_l0 (a2 : List DLot) (a3 : Int) (a0 : Int) (a1 : Int) (a4 : Int) : Option (Int × Int) := lim (spec_spSums_l0F a2 a3) (a0, (a1, a4))
theorem spec_spSums_l0_eq (a2 : List DLot) (a3 : Int) (a0 : Int) (a1 : Int) (a4 : Int) : spec_spSums_l0 a2 a3 a0 a1 a4 = spec_spSums_l0K a2 a3 (spec_spSums_l0 a2 a3) some a0 a1 a4 := lim_eq (spec_spSums_l0c a2 a3) (a0, (a1, a4))
theorem spec_spSums_l0p {R : Type} (a2 : List DLot) (a3 : Int) {rc : Int → Int → Int → Option (Int × Int)} {rc' : Int → Int → Int → Option R} {fin : Int × Int → Option R} (hr : ∀ a0 a1 a4, Par fin (rc a0 a1 a4) (rc' a0 a1 a4)) (a0 : Int) (a1 : Int) (a4 : Int) : Par fin (spec_spSums_l0K a2 a3 rc some a0 a1 a4) (spec_spSums_l0K a2 a3 rc' fin a0 a1 a4) := by
  unfold spec_spSums_l0K
  repeat' (first | exact .fin | exact .none | exact hr _ _ _ | refine .cond ?_ ?_ | refine .bind fun _ => ?_ | refine .sum (fun _ => ?_) fun _ => ?_)
def Lspec_spSums_l0 : Loop := mkL ⟨[4, 5, 8, 9, 10], [], [], []⟩ sspec_spSums_l0 xspec_spSums_l0 (fun (x : (Int × Int × (List DLot) × Int × Int × Unit) × (Unit)) => (x.1.2.2.1, x.1.2.2.2.1)) fun (x : (Int × Int × (List DLot) × Int × Int × Unit) × (Unit)) => spec_spSums_l0 x.1.2.2.1 x.1.2.2.2.1 x.1.1 x.1.2.1 x.1.2.2.2.2.1
def spec_spSumsK {R : Type} (fin : Int × Int → Option R) (x0 : List DLot) : Option R :=
  (spec_spSums_l0 x0 (x0.length : Int) 0 0 0).bind fun y2 =>
  fin y2
def spec_spSums (x0 : List DLot) : Option (Int × Int) := spec_spSumsK some x0
theorem p29 {R : Type} (fin : Int × Int → Option R) (x0 : List DLot) : Par fin (spec_spSumsK some x0) (spec_spSumsK fin x0) := by
  unfold spec_spSumsK
  repeat' (first | exact .fin | exact .none | refine .cond ?_ ?_ | refine .bind fun _ => ?_ | refine .sum (fun _ => ?_) fun _ => ?_)
def or29 : Ora := { lo := addL 3 (Lspec_spSums_l0) lo0, fin := [] }
theorem spec_spSums_l0e (a2 : List DLot) (a3 : Int) (k : Nat) (a0 : Int) (a1 : Int) (a4 : Int) : loopC Tryd.prog EL29 or29 ((loopsIn (codeOf Tryd.f29)).getD 0 .skip) (Lspec_spSums_l0).h (Lspec_spSums_l0).ho Tryd.f29.ntmps (k + 1) (sspec_spSums_l0.out ((a0, (a1, (a2, (a3, (a4, ()))))), ())) =
    spec_spSums_l0K a2 a3 (fun a0 a1 a4 => loopC Tryd.prog EL29 or29 ((loopsIn (codeOf Tryd.f29)).getD 0 .skip) (Lspec_spSums_l0).h (Lspec_spSums_l0).ho Tryd.f29.ntmps k (sspec_spSums_l0.out ((a0, (a1, (a2, (a3, (a4, ()))))), ()))) (fun y => some (XS.out xspec_spSums_l0 (a2, a3) y)) a0 a1 a4 := by kernel_rfl
theorem spec_spSums_l0o : LoopOk Tryd.prog EL29 or29 Tryd.f29.ntmps ((loopsIn (codeOf Tryd.f29)).getD 0 .skip) (Lspec_spSums_l0) :=
  loop_lim (hs := sspec_spSums_l0) (xs := xspec_spSums_l0) (ι := fun (x : (Int × Int × (List DLot) × Int × Int × Unit) × (Unit)) => (x.1.2.2.1, x.1.2.2.2.1)) (φ := fun (x : (Int × Int × (List DLot) × Int × Int × Unit) × (Unit)) => (x.1.1, (x.1.2.1, x.1.2.2.2.2.1))) (ψ := fun (i : (List DLot) × Int) (v : Int × Int × Int) => ((v.1, (v.2.1, (i.1, (i.2, (v.2.2, ()))))), ())) (F := fun (i : (List DLot) × Int) => spec_spSums_l0F i.1 i.2) (fun _ => rfl) fun i k hk v => Par.of_eq (spec_spSums_l0e i.1 i.2 k v.1 v.2.1 v.2.2) (spec_spSums_l0p i.1 i.2 (fun a0 a1 a4 => hk (a0, (a1, a4))) v.1 v.2.1 v.2.2)
def c29 : Callee := mkC [.one (.ro (.slice TLot))] 2 [.one (.ro (.int .i64)), .one (.ro (.int .i64))] fun x => spec_spSums x
theorem e29 (x : PK.dens [.one (.ro (.slice TLot))]) : evalFn Tryd.prog EL29 or29 Tryd.f29 (PK.outs [.one (.ro (.slice TLot))] x) =
    spec_spSumsK (fun y => some (tupOf ((PK.outs [.one (.ro (.int .i64)), .one (.ro (.int .i64))] y).take 2), (PK.outs [.one (.ro (.int .i64)), .one (.ro (.int .i64))] y).drop 2)) x := by kernel_rfl
theorem o29 : LoOk Tryd.prog EL29 or29 Tryd.f29.ntmps (loopsIn (codeOf Tryd.f29)) :=
  LoOk.mk (m := 1) (by kernel_rfl) fun i hi => match i, hi with
    | 0, _ => ⟨Lspec_spSums_l0, by kernel_rfl, spec_spSums_l0o⟩
    | i + 1, hi => absurd hi (by omega)
theorem k29 : CalleeOk Tryd.prog 29 c29 := callee_mk Tryd.func29 (code := codeOf Tryd.f29) (by kernel_rfl) vL29 mixed o29 fun x y h => (e29 x).trans (p29 _ x y h)

/-- spec.spGood -/
def EL15 : Nat → Option Callee := addE 30 c30 (addE 29 c29 (addE 28 c28 env0))
theorem vL15 : EnvOk Tryd.prog EL15 := ((EnvOk.nil.add Tryd.func28 rfl (by kernel_rfl) k28).add Tryd.func29 rfl (by kernel_rfl) k29).add Tryd.func30 rfl (by kernel_rfl) k30
def sspec_spGood_l0 : LS := ⟨[(1, .one (.fix (.ptr 0 0))), (8, .one (.dat (.slice TLot))), (9, .one (.dat (.int .i64))), (10, .one (.dat (.int .i64)))], [.box [.dat .bool, .dat (.int .i64), .dat (.slice TLot)]], []⟩
def sspec_spGood_l0x0 : LS := ⟨[(2, .one (.dat .bool))], [], []⟩
def sspec_spGood_l0x1 : LS := ⟨[(1, .one (.fix (.ptr 0 0)))], [.box [.dat .bool, .dat (.int .i64), .dat (.slice TLot)]], []⟩
def xspec_spGood_l0 : List (XS ((List DLot) × Int × Bool × Int × (List DLot))) := [⟨.ret, ⟨[2], [], [], []⟩, sspec_spGood_l0x0, Bool, fun i y => ((y, ()), ())⟩,
  ⟨.exit 0, ⟨[1], [.slot 1], [], []⟩, sspec_spGood_l0x1, Unit, fun i y => (((), ()), ((i.2.2.1, (i.2.2.2.1, (i.2.2.2.2, ()))), ()))⟩]
def spec_spGood_l0K {R : Type} (a0 : List DLot) (a1 : Int) (rc : Int → Option R) (fin : (Bool ⊕ Unit) → Option R) (a2 : Int) : Option R :=
  cond (decide (a2 < a1))
  ((lat a0 a2).bind fun e1 =>
    (spec_spLot e1).bind fun y2 =>
    cond (!y2)
    (fin (.inl false))
    (rc (IntKind.i64.wrap (a2 + 1))))
  (fin (.inr ()))
def spec_spGood_l0F (a0 : List DLot) (a1 : Int) (r : Int → Option (Bool ⊕ Unit)) (x : Int) : Option (Bool ⊕ Unit) := spec_spGood_l0K a0 a1 (fun a2 => r a2) some x
theorem spec_spGood_l0c (a0 : List DLot) (a1 : Int) (x : Int) : Ct fun r => spec_spGood_l0F a0 a1 r x := by
  unfold spec_spGood_l0F spec_spGood_l0K
  repeat' (first | exact Ct.const | exact Ct.call | refine Ct.cond ?_ ?_ | refine Ct.bind ?_ fun _ => ?_ | refine Ct.sum (fun _ => ?_) fun _ => ?_)
def spec_spGood_l0 (a0 : List DLot) (a1 : Int) (a2 : Int) : Option (Bool ⊕ Unit) := lim (spec_spGood_l0F a0 a1) a2
theorem spec_spGood_l0_eq (a0 : List DLot) (a1 : Int) (a2 : Int) : spec_spGood_l0 a0 a1 a2 = spec_spGood_l0K a0 a1 (spec_spGood_l0 a0 a1) some a2 := lim_eq (spec_spGood_l0c a0 a1) a2
theorem spec_spGood_l0p {R : Type} (a0 : List DLot) (a1 : Int) {rc : Int → Option (Bool ⊕ Unit)} {rc' : Int → Option R} {fin : (Bool ⊕ Unit) → Option R} (hr : ∀ a2, Par fin (rc a2) (rc' a2)) (a2 : Int) : Par fin (spec_spGood_l0K a0 a1 rc some a2) (spec_spGood_l0K a0 a1 rc' fin a2) := by
  unfold spec_spGood_l0K
  repeat' (first | exact .fin | exact .none | exact hr _ | refine .cond ?_ ?_ | refine .bind fun _ => ?_ | refine .sum (fun _ => ?_) fun _ => ?_)
def Lspec_spGood_l0 : Loop := mkL ⟨[1, 8, 9, 10], [.slot 1], [], []⟩ sspec_spGood_l0 xspec_spGood_l0 (fun (x : (Unit × (List DLot) × Int × Int × Unit) × ((Bool × Int × (List DLot) × Unit) × Unit)) => (x.1.2.1, (x.1.2.2.1, (x.2.1.1, (x.2.1.2.1, x.2.1.2.2.1))))) fun (x : (Unit × (List DLot) × Int × Int × Unit) × ((Bool × Int × (List DLot) × Unit) × Unit)) => spec_spGood_l0 x.1.2.1 x.1.2.2.1 x.1.2.2.2.1
def spec_spGoodK {R : Type} (fin : Bool → Option R) (x0 : DPile) : Option R :=
  (spec_spGood_l0 x0.2.2.1 (x0.2.2.1.length : Int) 0).bind fun y3 =>
  sumO y3 (fun y4 =>
  fin y4)
  (fun y5 =>
  (spec_spSums x0.2.2.1).bind fun y6 =>
    cond (decide ((x0.2.2.1.length : Int) ≤ 40))
    (cond (!x0.1)
      ((spec_l1In x0.2.1 0 10000000).bind fun y7 =>
        cond (y7)
        (fin (decide (y6.1 ≤ x0.2.1)))
        (fin false))
      (cond (decide ((x0.2.2.1.length : Int) ≤ 1))
        ((spec_l1In x0.2.1 0 10000000).bind fun y8 =>
          cond (y8)
          (fin (decide (y6.1 ≤ x0.2.1)))
          (fin false))
        (fin false)))
    (fin false))
def spec_spGood (x0 : DPile) : Option (Bool) := spec_spGoodK some x0
theorem p15 {R : Type} (fin : Bool → Option R) (x0 : DPile) : Par fin (spec_spGoodK some x0) (spec_spGoodK fin x0) := by
  unfold spec_spGoodK
  repeat' (first | exact .fin | exact .none | refine .cond ?_ ?_ | refine .bind fun _ => ?_ | refine .sum (fun _ => ?_) fun _ => ?_)
def or15 : Ora := { lo := addL 2 (Lspec_spGood_l0) lo0, fin := [] }
theorem spec_spGood_l0e (a0 : List DLot) (a1 : Int) (a3 : Bool) (a4 : Int) (a5 : List DLot) (k : Nat) (a2 : Int) : loopC Tryd.prog EL15 or15 ((loopsIn (codeOf Tryd.f15)).getD 0 .skip) (Lspec_spGood_l0).h (Lspec_spGood_l0).ho Tryd.f15.ntmps (k + 1) (sspec_spGood_l0.out (((), (a0, (a1, (a2, ())))), ((a3, (a4, (a5, ()))), ()))) =
    spec_spGood_l0K a0 a1 (fun a2 => loopC Tryd.prog EL15 or15 ((loopsIn (codeOf Tryd.f15)).getD 0 .skip) (Lspec_spGood_l0).h (Lspec_spGood_l0).ho Tryd.f15.ntmps k (sspec_spGood_l0.out (((), (a0, (a1, (a2, ())))), ((a3, (a4, (a5, ()))), ())))) (fun y => some (XS.out xspec_spGood_l0 (a0, (a1, (a3, (a4, a5)))) y)) a2 := by kernel_rfl
theorem spec_spGood_l0o : LoopOk Tryd.prog EL15 or15 Tryd.f15.ntmps ((loopsIn (codeOf Tryd.f15)).getD 0 .skip) (Lspec_spGood_l0) :=
  loop_lim (hs := sspec_spGood_l0) (xs := xspec_spGood_l0) (ι := fun (x : (Unit × (List DLot) × Int × Int × Unit) × ((Bool × Int × (List DLot) × Unit) × Unit)) => (x.1.2.1, (x.1.2.2.1, (x.2.1.1, (x.2.1.2.1, x.2.1.2.2.1))))) (φ := fun (x : (Unit × (List DLot) × Int × Int × Unit) × ((Bool × Int × (List DLot) × Unit) × Unit)) => x.1.2.2.2.1) (ψ := fun (i : (List DLot) × Int × Bool × Int × (List DLot)) (v : Int) => (((), (i.1, (i.2.1, (v, ())))), ((i.2.2.1, (i.2.2.2.1, (i.2.2.2.2, ()))), ()))) (F := fun (i : (List DLot) × Int × Bool × Int × (List DLot)) => spec_spGood_l0F i.1 i.2.1) (fun _ => rfl) fun i k hk v => Par.of_eq (spec_spGood_l0e i.1 i.2.1 i.2.2.1 i.2.2.2.1 i.2.2.2.2 k v) (spec_spGood_l0p i.1 i.2.1 (fun a2 => hk a2) v)
def c15 : Callee := mkC [.agg [.ro TPile]] 1 [.one (.ro .bool)] fun x => spec_spGood x
theorem e15 (x : PK.dens [.agg [.ro TPile]]) : evalFn Tryd.prog EL15 or15 Tryd.f15 (PK.outs [.agg [.ro TPile]] x) =
    spec_spGoodK (fun y => some (tupOf ((PK.outs [.one (.ro .bool)] y).take 1), (PK.outs [.one (.ro .bool)] y).drop 1)) x := by kernel_rfl
theorem o15 : LoOk Tryd.prog EL15 or15 Tryd.f15.ntmps (loopsIn (codeOf Tryd.f15)) :=
  LoOk.mk (m := 1) (by kernel_rfl) fun i hi => match i, hi with
    | 0, _ => ⟨Lspec_spGood_l0, by kernel_rfl, spec_spGood_l0o⟩
    | i + 1, hi => absurd hi (by omega)
theorem k15 : CalleeOk Tryd.prog 15 c15 := callee_mk Tryd.func15 (code := codeOf Tryd.f15) (by kernel_rfl) vL15 mixed o15 fun x y h => (e15 x).trans (p15 _ x y h)

/-- spec.l1Num -/
def EL31 : Nat → Option Callee := env0
theorem vL31 : EnvOk Tryd.prog EL31 := EnvOk.nil
def spec_l1NumK {R : Type} (slf : Int → Option (ByteArray)) (fin : ByteArray → Option R) (x0 : Int) : Option R :=
  cond (decide (x0 < 10))
  ((some (strOfNums [IntKind.u8.wrap (IntKind.i64.wrap (48 + x0))])).bind fun v1 =>
    fin v1)
  ((slf (IntKind.i64.wrap (x0.tdiv 10))).bind fun y2 =>
    (some (strOfNums [IntKind.u8.wrap (IntKind.i64.wrap (48 + (x0.tmod 10)))])).bind fun v3 =>
    cond (decide (y2.size + v3.size ≤ 9223372036854775807))
    (fin (y2 ++ v3))
    (none))
def spec_l1NumF (slf : Int → Option (ByteArray)) (x : Int) : Option (ByteArray) := spec_l1NumK slf some x
theorem spec_l1Numc (x : Int) : Ct fun slf => spec_l1NumF slf x := by
  unfold spec_l1NumF spec_l1NumK
  repeat' (first | exact Ct.const | exact Ct.call | refine Ct.cond ?_ ?_ | refine Ct.bind ?_ fun _ => ?_ | refine Ct.sum (fun _ => ?_) fun _ => ?_)
def spec_l1Num (x0 : Int) : Option (ByteArray) := lim spec_l1NumF x0
theorem spec_l1Num_eq (x0 : Int) : spec_l1Num x0 = spec_l1NumK (fun x => spec_l1Num x) some x0 := lim_eq spec_l1Numc x0
theorem p31 {R : Type} (slf : Int → Option (ByteArray)) (fin : ByteArray → Option R) (x0 : Int) : Par fin (spec_l1NumK slf some x0) (spec_l1NumK slf fin x0) := by
  unfold spec_l1NumK
  repeat' (first | exact .fin | exact .none | refine .cond ?_ ?_ | refine .bind fun _ => ?_ | refine .sum (fun _ => ?_) fun _ => ?_)
def c31 : Callee := mkC [.one (.ro (.int .i64))] 1 [.one (.ro .str)] fun x => spec_l1Num x
theorem e31 (slf : Int → Option (ByteArray)) (x : PK.dens [.one (.ro (.int .i64))]) : evalFn Tryd.prog (addE 31 (mkC [.one (.ro (.int .i64))] 1 [.one (.ro .str)] slf) EL31) or0 Tryd.f31 (PK.outs [.one (.ro (.int .i64))] x) =
    spec_l1NumK slf (fun y => some (tupOf ((PK.outs [.one (.ro .str)] y).take 1), (PK.outs [.one (.ro .str)] y).drop 1)) x := by kernel_rfl
theorem k31 : CalleeOk Tryd.prog 31 c31 := callee_rec (ps := [.one (.ro (.int .i64))]) (rs := [.one (.ro .str)]) (F := spec_l1NumF) fun slf hs => callee_mk Tryd.func31 (code := codeOf Tryd.f31) (by kernel_rfl) (vL31.add Tryd.func31 rfl (by kernel_rfl) hs) mixed (LoOk.nil (by kernel_rfl)) fun x y h => (e31 slf x).trans (p31 slf _ x y h)

/-- spec.spText -/
def EL16 : Nat → Option Callee := addE 31 c31 env0
theorem vL16 : EnvOk Tryd.prog EL16 := EnvOk.nil.add Tryd.func31 rfl (by kernel_rfl) k31
def sspec_spText_l0 : LS := ⟨[(3, .one (.dat .str)), (14, .one (.dat (.slice TLot))), (15, .one (.dat (.int .i64))), (16, .one (.dat (.int .i64)))], [], []⟩
def sspec_spText_l0x0 : LS := ⟨[(3, .one (.dat .str))], [], []⟩
def xspec_spText_l0 : List (XS ((List DLot) × Int)) := [⟨.exit 0, ⟨[3], [], [], []⟩, sspec_spText_l0x0, ByteArray, fun i y => ((y, ()), ())⟩]
def spec_spText_l0K {R : Type} (a1 : List DLot) (a2 : Int) (rc : ByteArray → Int → Option R) (fin : ByteArray → Option R) (a0 : ByteArray) (a3 : Int) : Option R :=
  cond (decide (a3 < a2))
  ((lat a1 a3).bind fun e1 =>
    (spec_l1Num e1.1).bind fun y2 =>
    cond (decide ((⟨#[32]⟩ : ByteArray).size + y2.size ≤ 9223372036854775807))
    ((some ((⟨#[32]⟩ : ByteArray) ++ y2)).bind fun v3 =>
      cond (decide (v3.size + (⟨#[32]⟩ : ByteArray).size ≤ 9223372036854775807))
      ((some (v3 ++ (⟨#[32]⟩ : ByteArray))).bind fun v4 =>
        (spec_l1Num e1.2.1).bind fun y5 =>
        cond (decide (v4.size + y5.size ≤ 9223372036854775807))
        (cond (decide (a0.size + (v4 ++ y5).size ≤ 9223372036854775807))
          ((some (a0 ++ (v4 ++ y5))).bind fun v6 =>
            rc v6 (IntKind.i64.wrap (a3 + 1)))
          (none))
        (none))
      (none))
    (none))
  (fin a0)
def spec_spText_l0F (a1 : List DLot) (a2 : Int) (r : (ByteArray × Int) → Option (ByteArray)) (x : ByteArray × Int) : Option (ByteArray) := spec_spText_l0K a1 a2 (fun a0 a3 => r (a0, a3)) some x.1 x.2
theorem spec_spText_l0c (a1 : List DLot) (a2 : Int) (x : ByteArray × Int) : Ct fun r => spec_spText_l0F a1 a2 r x := by
  unfold spec_spText_l0F spec_spText_l0K
  repeat' (first | exact Ct.const | exact Ct.call | refine Ct.cond ?_ ?_ | refine Ct.bind ?_ fun _ => ?_ | refine Ct.sum (fun _ => ?_) fun _ => ?_)
def spec_spText_l0 (a1 : List DLot) (a2 : Int) (a0 : ByteArray) (a3 : Int) : Option (ByteArray) := lim (spec_spText_l0F a1 a2) (a0, a3)
theorem spec_spText_l0_eq (a1 : List DLot) (a2 : Int) (a0 : ByteArray) (a3 : Int) : spec_spText_l0 a1 a2 a0 a3 = spec_spText_l0K a1 a2 (spec_spText_l0 a1 a2) some a0 a3 := lim_eq (spec_spText_l0c a1 a2) (a0, a3)
theorem spec_spText_l0p {R : Type} (a1 : List DLot) (a2 : Int) {rc : ByteArray → Int → Option (ByteArray)} {rc' : ByteArray → Int → Option R} {fin : ByteArray → Option R} (hr : ∀ a0 a3, Par fin (rc a0 a3) (rc' a0 a3)) (a0 : ByteArray) (a3 : Int) : Par fin (spec_spText_l0K a1 a2 rc some a0 a3) (spec_spText_l0K a1 a2 rc' fin a0 a3) := by
  unfold spec_spText_l0K
  repeat' (first | exact .fin | exact .none | exact hr _ _ | refine .cond ?_ ?_ | refine .bind fun _ => ?_ | refine .sum (fun _ => ?_) fun _ => ?_)
def Lspec_spText_l0 : Loop := mkL ⟨[3, 14, 15, 16], [], [], []⟩ sspec_spText_l0 xspec_spText_l0 (fun (x : (ByteArray × (List DLot) × Int × Int × Unit) × (Unit)) => (x.1.2.1, x.1.2.2.1)) fun (x : (ByteArray × (List DLot) × Int × Int × Unit) × (Unit)) => spec_spText_l0 x.1.2.1 x.1.2.2.1 x.1.1 x.1.2.2.2.1
def spec_spTextK {R : Type} (fin : ByteArray → Option R) (x0 : DPile) : Option R :=
  cond (x0.1)
  ((spec_l1Num x0.2.1).bind fun y1 =>
    cond (decide ((⟨#[109, 105, 120, 101, 100, 32]⟩ : ByteArray).size + y1.size ≤ 9223372036854775807))
    ((some ((⟨#[109, 105, 120, 101, 100, 32]⟩ : ByteArray) ++ y1)).bind fun v2 =>
      (spec_spText_l0 x0.2.2.1 (x0.2.2.1.length : Int) v2 0).bind fun y9 =>
      fin y9)
    (none))
  ((spec_l1Num x0.2.1).bind fun y10 =>
    cond (decide ((⟨#[111, 114, 100, 101, 114, 32]⟩ : ByteArray).size + y10.size ≤ 9223372036854775807))
    ((some ((⟨#[111, 114, 100, 101, 114, 32]⟩ : ByteArray) ++ y10)).bind fun v11 =>
      (spec_spText_l0 x0.2.2.1 (x0.2.2.1.length : Int) v11 0).bind fun y12 =>
      fin y12)
    (none))
def spec_spText (x0 : DPile) : Option (ByteArray) := spec_spTextK some x0
theorem p16 {R : Type} (fin : ByteArray → Option R) (x0 : DPile) : Par fin (spec_spTextK some x0) (spec_spTextK fin x0) := by
  unfold spec_spTextK
  repeat' (first | exact .fin | exact .none | refine .cond ?_ ?_ | refine .bind fun _ => ?_ | refine .sum (fun _ => ?_) fun _ => ?_)
def or16 : Ora := { lo := addL 6 (Lspec_spText_l0) lo0, fin := [] }
theorem spec_spText_l0e (a1 : List DLot) (a2 : Int) (k : Nat) (a0 : ByteArray) (a3 : Int) : loopC Tryd.prog EL16 or16 ((loopsIn (codeOf Tryd.f16)).getD 0 .skip) (Lspec_spText_l0).h (Lspec_spText_l0).ho Tryd.f16.ntmps (k + 1) (sspec_spText_l0.out ((a0, (a1, (a2, (a3, ())))), ())) =
    spec_spText_l0K a1 a2 (fun a0 a3 => loopC Tryd.prog EL16 or16 ((loopsIn (codeOf Tryd.f16)).getD 0 .skip) (Lspec_spText_l0).h (Lspec_spText_l0).ho Tryd.f16.ntmps k (sspec_spText_l0.out ((a0, (a1, (a2, (a3, ())))), ()))) (fun y => some (XS.out xspec_spText_l0 (a1, a2) y)) a0 a3 := by kernel_rfl
theorem spec_spText_l0o : LoopOk Tryd.prog EL16 or16 Tryd.f16.ntmps ((loopsIn (codeOf Tryd.f16)).getD 0 .skip) (Lspec_spText_l0) :=
  loop_lim (hs := sspec_spText_l0) (xs := xspec_spText_l0) (ι := fun (x : (ByteArray × (List DLot) × Int × Int × Unit) × (Unit)) => (x.1.2.1, x.1.2.2.1)) (φ := fun (x : (ByteArray × (List DLot) × Int × Int × Unit) × (Unit)) => (x.1.1, x.1.2.2.2.1)) (ψ := fun (i : (List DLot) × Int) (v : ByteArray × Int) => ((v.1, (i.1, (i.2, (v.2, ())))), ())) (F := fun (i : (List DLot) × Int) => spec_spText_l0F i.1 i.2) (fun _ => rfl) fun i k hk v => Par.of_eq (spec_spText_l0e i.1 i.2 k v.1 v.2) (spec_spText_l0p i.1 i.2 (fun a0 a3 => hk (a0, a3)) v.1 v.2)
def c16 : Callee := mkC [.agg [.ro TPile]] 1 [.one (.ro .str)] fun x => spec_spText x
theorem e16 (x : PK.dens [.agg [.ro TPile]]) : evalFn Tryd.prog EL16 or16 Tryd.f16 (PK.outs [.agg [.ro TPile]] x) =
    spec_spTextK (fun y => some (tupOf ((PK.outs [.one (.ro .str)] y).take 1), (PK.outs [.one (.ro .str)] y).drop 1)) x := by kernel_rfl
theorem o16 : LoOk Tryd.prog EL16 or16 Tryd.f16.ntmps (loopsIn (codeOf Tryd.f16)) :=
  LoOk.mk (m := 1) (by kernel_rfl) fun i hi => match i, hi with
    | 0, _ => ⟨Lspec_spText_l0, by kernel_rfl, spec_spText_l0o⟩
    | i + 1, hi => absurd hi (by omega)
theorem k16 : CalleeOk Tryd.prog 16 c16 := callee_mk Tryd.func16 (code := codeOf Tryd.f16) (by kernel_rfl) vL16 mixed o16 fun x y h => (e16 x).trans (p16 _ x y h)

/-- spec.ParsePile -/
def EL10 : Nat → Option Callee := addE 16 c16 (addE 15 c15 (addE 22 c22 (addE 21 c21 env0)))
theorem vL10 : EnvOk Tryd.prog EL10 := (((EnvOk.nil.add Tryd.func21 rfl (by kernel_rfl) k21).add Tryd.func22 rfl (by kernel_rfl) k22).add Tryd.func15 rfl (by kernel_rfl) k15).add Tryd.func16 rfl (by kernel_rfl) k16
def sspec_ParsePile_l0 : LS := ⟨[(0, .one (.dat .str)), (2, .one (.fix (.ptr 0 0))), (4, .one (.fix (.sref 1))), (5, .one (.fix (.ptr 2 0))), (6, .one (.dat (.int .i64)))], [.box [.dat .bool, .dat (.int .i64), .fix .nils], .sl .str, .box [.dat .bool, .dat (.int .i64), .fix (.sref 3)], .sl TLot], []⟩
def sspec_ParsePile_l0x0 : LS := ⟨[(0, .one (.dat .str)), (2, .one (.fix (.ptr 0 0))), (5, .one (.fix (.ptr 1 0)))], [.box [.dat .bool, .dat (.int .i64), .fix .nils], .box [.dat .bool, .dat (.int .i64), .fix (.sref 2)], .sl TLot], []⟩
def xspec_ParsePile_l0 : List (XS (ByteArray × Bool × Int × (List ByteArray) × Bool × Int)) := [⟨.exit 0, ⟨[0, 2, 5], [.slot 2, .slot 5, .cell 5 2], [], []⟩, sspec_ParsePile_l0x0, List DLot, fun i y => ((i.1, ((), ((), ()))), ((i.2.1, (i.2.2.1, ((), ()))), ((i.2.2.2.2.1, (i.2.2.2.2.2, ((), ()))), (y, ()))))⟩]
def spec_ParsePile_l0K {R : Type} (a4 : List ByteArray) (rc : Int → List DLot → Option R) (fin : List DLot → Option R) (a1 : Int) (a7 : List DLot) : Option R :=
  cond (decide (a1 < (a4.length : Int)))
  (cond (decide ((0 : Int) ≤ a1) && decide (a1 < (a4.length : Int)))
    ((spec_spNumber (a4.getD (0 + a1.toNat) ByteArray.empty)).bind fun y1 =>
      cond (decide ((0 : Int) ≤ IntKind.i64.wrap (a1 + 1)) && decide (IntKind.i64.wrap (a1 + 1) < (a4.length : Int)))
      ((spec_spNumber (a4.getD (0 + (IntKind.i64.wrap (a1 + 1)).toNat) ByteArray.empty)).bind fun y2 =>
        cond (decide (a7.length + [(y1, (y2, ()))].length ≤ 1099511627776))
        ((some (a7 ++ [(y1, (y2, ()))])).bind fun v3 =>
          rc (IntKind.i64.wrap (a1 + 2)) v3)
        (none))
      (none))
    (none))
  (fin a7)
def spec_ParsePile_l0F (a4 : List ByteArray) (r : (Int × (List DLot)) → Option (List DLot)) (x : Int × (List DLot)) : Option (List DLot) := spec_ParsePile_l0K a4 (fun a1 a7 => r (a1, a7)) some x.1 x.2
theorem spec_ParsePile_l0c (a4 : List ByteArray) (x : Int × (List DLot)) : Ct fun r => spec_ParsePile_l0F a4 r x := by
  unfold spec_ParsePile_l0F spec_ParsePile_l0K
  repeat' (first | exact Ct.const | exact Ct.call | refine Ct.cond ?_ ?_ | refine Ct.bind ?_ fun _ => ?_ | refine Ct.sum (fun _ => ?_) fun _ => ?_)
def spec_ParsePile_l0 (a4 : List ByteArray) (a1 : Int) (a7 : List DLot) : Option (List DLot) := lim (spec_ParsePile_l0F a4) (a1, a7)
theorem spec_ParsePile_l0_eq (a4 : List ByteArray) (a1 : Int) (a7 : List DLot) : spec_ParsePile_l0 a4 a1 a7 = spec_ParsePile_l0K a4 (spec_ParsePile_l0 a4) some a1 a7 := lim_eq (spec_ParsePile_l0c a4) (a1, a7)
theorem spec_ParsePile_l0p {R : Type} (a4 : List ByteArray) {rc : Int → List DLot → Option (List DLot)} {rc' : Int → List DLot → Option R} {fin : List DLot → Option R} (hr : ∀ a1 a7, Par fin (rc a1 a7) (rc' a1 a7)) (a1 : Int) (a7 : List DLot) : Par fin (spec_ParsePile_l0K a4 rc some a1 a7) (spec_ParsePile_l0K a4 rc' fin a1 a7) := by
  unfold spec_ParsePile_l0K
  repeat' (first | exact .fin | exact .none | exact hr _ _ | refine .cond ?_ ?_ | refine .bind fun _ => ?_ | refine .sum (fun _ => ?_) fun _ => ?_)
def Lspec_ParsePile_l0 : Loop := mkL ⟨[0, 2, 4, 5, 6], [.slot 2, .slot 4, .slot 5, .cell 5 2], [], [.own (.cell 5 2) TLot]⟩ sspec_ParsePile_l0 xspec_ParsePile_l0 (fun (x : (ByteArray × Unit × Unit × Unit × Int × Unit) × ((Bool × Int × Unit × Unit) × (List ByteArray) × (Bool × Int × Unit × Unit) × (List DLot) × Unit)) => (x.1.1, (x.2.1.1, (x.2.1.2.1, (x.2.2.1, (x.2.2.2.1.1, x.2.2.2.1.2.1)))))) fun (x : (ByteArray × Unit × Unit × Unit × Int × Unit) × ((Bool × Int × Unit × Unit) × (List ByteArray) × (Bool × Int × Unit × Unit) × (List DLot) × Unit)) => spec_ParsePile_l0 x.2.2.1 x.1.2.2.2.2.1 x.2.2.2.2.1
def spec_ParsePileK {R : Type} (fin : (Bool × Int × (List DLot)) × Bool → Option R) (x0 : ByteArray) : Option R :=
  (spec_l1Split x0 32).bind fun y1 =>
  cond (((y1.length : Int).tmod 2) != 0)
  (fin ((false, (0, [])), false))
  (cond (decide ((y1.length : Int) > 82))
    (fin ((false, (0, [])), false))
    (cond (decide ((0 : Int) < (y1.length : Int)))
      (cond (decide ((1 : Int) < (y1.length : Int)))
        ((spec_spNumber (y1.getD (0 + 1) ByteArray.empty)).bind fun y2 =>
          (spec_ParsePile_l0 y1 2 []).bind fun y9 =>
          (spec_spGood (eqS (y1.getD (0 + 0) ByteArray.empty) (⟨#[109, 105, 120, 101, 100]⟩ : ByteArray), (y2, (y9, ())))).bind fun y10 =>
          cond (!y10)
          (fin ((false, (0, [])), false))
          ((spec_spText (eqS (y1.getD (0 + 0) ByteArray.empty) (⟨#[109, 105, 120, 101, 100]⟩ : ByteArray), (y2, (y9, ())))).bind fun y11 =>
            cond (!(eqS y11 x0))
            (fin ((false, (0, [])), false))
            (fin ((eqS (y1.getD (0 + 0) ByteArray.empty) (⟨#[109, 105, 120, 101, 100]⟩ : ByteArray), (y2, y9)), true))))
        (none))
      (none)))
def spec_ParsePile (x0 : ByteArray) : Option ((Bool × Int × (List DLot)) × Bool) := spec_ParsePileK some x0
theorem p10 {R : Type} (fin : (Bool × Int × (List DLot)) × Bool → Option R) (x0 : ByteArray) : Par fin (spec_ParsePileK some x0) (spec_ParsePileK fin x0) := by
  unfold spec_ParsePileK
  repeat' (first | exact .fin | exact .none | refine .cond ?_ ?_ | refine .bind fun _ => ?_ | refine .sum (fun _ => ?_) fun _ => ?_)
def or10 : Ora := { lo := addL 6 (Lspec_ParsePile_l0) lo0, fin := [.own (.cell 2 2) TLot] }
theorem spec_ParsePile_l0e (a0 : ByteArray) (a2 : Bool) (a3 : Int) (a4 : List ByteArray) (a5 : Bool) (a6 : Int) (k : Nat) (a1 : Int) (a7 : List DLot) : loopC Tryd.prog EL10 or10 ((loopsIn (codeOf Tryd.f10)).getD 0 .skip) (Lspec_ParsePile_l0).h (Lspec_ParsePile_l0).ho Tryd.f10.ntmps (k + 1) (sspec_ParsePile_l0.out ((a0, ((), ((), ((), (a1, ()))))), ((a2, (a3, ((), ()))), (a4, ((a5, (a6, ((), ()))), (a7, ())))))) =
    spec_ParsePile_l0K a4 (fun a1 a7 => loopC Tryd.prog EL10 or10 ((loopsIn (codeOf Tryd.f10)).getD 0 .skip) (Lspec_ParsePile_l0).h (Lspec_ParsePile_l0).ho Tryd.f10.ntmps k (sspec_ParsePile_l0.out ((a0, ((), ((), ((), (a1, ()))))), ((a2, (a3, ((), ()))), (a4, ((a5, (a6, ((), ()))), (a7, ()))))))) (fun y => some (XS.out xspec_ParsePile_l0 (a0, (a2, (a3, (a4, (a5, a6))))) y)) a1 a7 := by kernel_rfl
theorem spec_ParsePile_l0o : LoopOk Tryd.prog EL10 or10 Tryd.f10.ntmps ((loopsIn (codeOf Tryd.f10)).getD 0 .skip) (Lspec_ParsePile_l0) :=
  loop_lim (hs := sspec_ParsePile_l0) (xs := xspec_ParsePile_l0) (ι := fun (x : (ByteArray × Unit × Unit × Unit × Int × Unit) × ((Bool × Int × Unit × Unit) × (List ByteArray) × (Bool × Int × Unit × Unit) × (List DLot) × Unit)) => (x.1.1, (x.2.1.1, (x.2.1.2.1, (x.2.2.1, (x.2.2.2.1.1, x.2.2.2.1.2.1)))))) (φ := fun (x : (ByteArray × Unit × Unit × Unit × Int × Unit) × ((Bool × Int × Unit × Unit) × (List ByteArray) × (Bool × Int × Unit × Unit) × (List DLot) × Unit)) => (x.1.2.2.2.2.1, x.2.2.2.2.1)) (ψ := fun (i : ByteArray × Bool × Int × (List ByteArray) × Bool × Int) (v : Int × (List DLot)) => ((i.1, ((), ((), ((), (v.1, ()))))), ((i.2.1, (i.2.2.1, ((), ()))), (i.2.2.2.1, ((i.2.2.2.2.1, (i.2.2.2.2.2, ((), ()))), (v.2, ())))))) (F := fun (i : ByteArray × Bool × Int × (List ByteArray) × Bool × Int) => spec_ParsePile_l0F i.2.2.2.1) (fun _ => rfl) fun i k hk v => Par.of_eq (spec_ParsePile_l0e i.1 i.2.1 i.2.2.1 i.2.2.2.1 i.2.2.2.2.1 i.2.2.2.2.2 k v.1 v.2) (spec_ParsePile_l0p i.2.2.2.1 (fun a1 a7 => hk (a1, a7)) v.1 v.2)
def c10 : Callee := mkC [.one (.ro .str)] 2 [.agg [.ro .bool, .ro (.int .i64), .sl TLot], .one (.ro .bool)] fun x => spec_ParsePile x
theorem e10 (x : PK.dens [.one (.ro .str)]) : evalFn Tryd.prog EL10 or10 Tryd.f10 (PK.outs [.one (.ro .str)] x) =
    spec_ParsePileK (fun y => some (tupOf ((PK.outs [.agg [.ro .bool, .ro (.int .i64), .sl TLot], .one (.ro .bool)] y).take 2), (PK.outs [.agg [.ro .bool, .ro (.int .i64), .sl TLot], .one (.ro .bool)] y).drop 2)) x := by kernel_rfl
theorem o10 : LoOk Tryd.prog EL10 or10 Tryd.f10.ntmps (loopsIn (codeOf Tryd.f10)) :=
  LoOk.mk (m := 1) (by kernel_rfl) fun i hi => match i, hi with
    | 0, _ => ⟨Lspec_ParsePile_l0, by kernel_rfl, spec_ParsePile_l0o⟩
    | i + 1, hi => absurd hi (by omega)
theorem k10 : CalleeOk Tryd.prog 10 c10 := callee_mk Tryd.func10 (code := codeOf Tryd.f10) (by kernel_rfl) vL10 mixed o10 fun x y h => (e10 x).trans (p10 _ x y h)

/-- impl.decimal -/
def EL39 : Nat → Option Callee := env0
theorem vL39 : EnvOk Tryd.prog EL39 := EnvOk.nil
def simpl_decimal_l0 : LS := ⟨[(0, .one (.dat .str)), (4, .one (.dat (.int .i64))), (5, .one (.dat (.int .i64)))], [], []⟩
def simpl_decimal_l0x0 : LS := ⟨[(2, .one (.dat (.int .i64))), (3, .one (.dat .bool))], [], []⟩
def simpl_decimal_l0x1 : LS := ⟨[(4, .one (.dat (.int .i64)))], [], []⟩
def ximpl_decimal_l0 : List (XS (ByteArray)) := [⟨.ret, ⟨[2, 3], [], [], []⟩, simpl_decimal_l0x0, Int × Bool, fun i y => ((y.1, (y.2, ())), ())⟩,
  ⟨.exit 0, ⟨[4], [], [], []⟩, simpl_decimal_l0x1, Int, fun i y => ((y, ()), ())⟩]
def impl_decimal_l0K {R : Type} (a0 : ByteArray) (rc : Int → Int → Option R) (fin : ((Int × Bool) ⊕ Int) → Option R) (a1 : Int) (a2 : Int) : Option R :=
  cond (decide (a2 < (a0.size : Int)))
  ((bat a0 a2).bind fun e1 =>
    cond (decide (e1 < 48))
    (fin (.inl (0, false)))
    ((bat a0 a2).bind fun e2 =>
      cond (decide (e2 > 57))
      (fin (.inl (0, false)))
      ((bat a0 a2).bind fun e3 =>
        (some (IntKind.i64.wrap ((IntKind.i64.wrap (10 * a1)) + (IntKind.i64.wrap (IntKind.u8.wrap (e3 - 48)))))).bind fun v4 =>
        rc v4 (IntKind.i64.wrap (a2 + 1)))))
  (fin (.inr a1))
def impl_decimal_l0F (a0 : ByteArray) (r : (Int × Int) → Option ((Int × Bool) ⊕ Int)) (x : Int × Int) : Option ((Int × Bool) ⊕ Int) := impl_decimal_l0K a0 (fun a1 a2 => r (a1, a2)) some x.1 x.2
theorem impl_decimal_l0c (a0 : ByteArray) (x : Int × Int) : Ct fun r => impl_decimal_l0F a0 r x := by
  unfold impl_decimal_l0F impl_decimal_l0K
  repeat' (first | exact Ct.const | exact Ct.call | refine Ct.cond ?_ ?_ | refine Ct.bind ?_ fun _ => ?_ | refine Ct.sum (fun _ => ?_) fun _ => ?_)
def impl_decimal_l0 (a0 : ByteArray) (a1 : Int) (a2 : Int) : Option ((Int × Bool) ⊕ Int) := lim (impl_decimal_l0F a0) (a1, a2)
theorem impl_decimal_l0_eq (a0 : ByteArray) (a1 : Int) (a2 : Int) : impl_decimal_l0 a0 a1 a2 = impl_decimal_l0K a0 (impl_decimal_l0 a0) some a1 a2 := lim_eq (impl_decimal_l0c a0) (a1, a2)
theorem impl_decimal_l0p {R : Type} (a0 : ByteArray) {rc : Int → Int → Option ((Int × Bool) ⊕ Int)} {rc' : Int → Int → Option R} {fin : ((Int × Bool) ⊕ Int) → Option R} (hr : ∀ a1 a2, Par fin (rc a1 a2) (rc' a1 a2)) (a1 : Int) (a2 : Int) : Par fin (impl_decimal_l0K a0 rc some a1 a2) (impl_decimal_l0K a0 rc' fin a1 a2) := by
  unfold impl_decimal_l0K
  repeat' (first | exact .fin | exact .none | exact hr _ _ | refine .cond ?_ ?_ | refine .bind fun _ => ?_ | refine .sum (fun _ => ?_) fun _ => ?_)
def Limpl_decimal_l0 : Loop := mkL ⟨[0, 4, 5], [], [], []⟩ simpl_decimal_l0 ximpl_decimal_l0 (fun (x : (ByteArray × Int × Int × Unit) × (Unit)) => x.1.1) fun (x : (ByteArray × Int × Int × Unit) × (Unit)) => impl_decimal_l0 x.1.1 x.1.2.1 x.1.2.2.1
def impl_decimalK {R : Type} (fin : Int × Bool → Option R) (x0 : ByteArray) : Option R :=
  cond (eqS x0 (⟨#[]⟩ : ByteArray))
  (fin (0, false))
  (cond (decide ((x0.size : Int) > 15))
    (fin (0, false))
    ((bat x0 0).bind fun e1 =>
      cond (e1 == 48)
      (cond (decide ((x0.size : Int) > 1))
        (fin (0, false))
        ((impl_decimal_l0 x0 0 0).bind fun y6 =>
          sumO y6 (fun y7 =>
          fin y7)
          (fun y8 =>
          fin (y8, true))))
      ((impl_decimal_l0 x0 0 0).bind fun y9 =>
        sumO y9 (fun y10 =>
        fin y10)
        (fun y11 =>
        fin (y11, true)))))
def impl_decimal (x0 : ByteArray) : Option (Int × Bool) := impl_decimalK some x0
theorem p39 {R : Type} (fin : Int × Bool → Option R) (x0 : ByteArray) : Par fin (impl_decimalK some x0) (impl_decimalK fin x0) := by
  unfold impl_decimalK
  repeat' (first | exact .fin | exact .none | refine .cond ?_ ?_ | refine .bind fun _ => ?_ | refine .sum (fun _ => ?_) fun _ => ?_)
def or39 : Ora := { lo := addL 5 (Limpl_decimal_l0) lo0, fin := [] }
theorem impl_decimal_l0e (a0 : ByteArray) (k : Nat) (a1 : Int) (a2 : Int) : loopC Tryd.prog EL39 or39 ((loopsIn (codeOf Tryd.f39)).getD 0 .skip) (Limpl_decimal_l0).h (Limpl_decimal_l0).ho Tryd.f39.ntmps (k + 1) (simpl_decimal_l0.out ((a0, (a1, (a2, ()))), ())) =
    impl_decimal_l0K a0 (fun a1 a2 => loopC Tryd.prog EL39 or39 ((loopsIn (codeOf Tryd.f39)).getD 0 .skip) (Limpl_decimal_l0).h (Limpl_decimal_l0).ho Tryd.f39.ntmps k (simpl_decimal_l0.out ((a0, (a1, (a2, ()))), ()))) (fun y => some (XS.out ximpl_decimal_l0 a0 y)) a1 a2 := by kernel_rfl
theorem impl_decimal_l0o : LoopOk Tryd.prog EL39 or39 Tryd.f39.ntmps ((loopsIn (codeOf Tryd.f39)).getD 0 .skip) (Limpl_decimal_l0) :=
  loop_lim (hs := simpl_decimal_l0) (xs := ximpl_decimal_l0) (ι := fun (x : (ByteArray × Int × Int × Unit) × (Unit)) => x.1.1) (φ := fun (x : (ByteArray × Int × Int × Unit) × (Unit)) => (x.1.2.1, x.1.2.2.1)) (ψ := fun (i : ByteArray) (v : Int × Int) => ((i, (v.1, (v.2, ()))), ())) (F := fun (i : ByteArray) => impl_decimal_l0F i) (fun _ => rfl) fun i k hk v => Par.of_eq (impl_decimal_l0e i k v.1 v.2) (impl_decimal_l0p i (fun a1 a2 => hk (a1, a2)) v.1 v.2)
def c39 : Callee := mkC [.one (.ro .str)] 2 [.one (.ro (.int .i64)), .one (.ro .bool)] fun x => impl_decimal x
theorem e39 (x : PK.dens [.one (.ro .str)]) : evalFn Tryd.prog EL39 or39 Tryd.f39 (PK.outs [.one (.ro .str)] x) =
    impl_decimalK (fun y => some (tupOf ((PK.outs [.one (.ro (.int .i64)), .one (.ro .bool)] y).take 2), (PK.outs [.one (.ro (.int .i64)), .one (.ro .bool)] y).drop 2)) x := by kernel_rfl
theorem o39 : LoOk Tryd.prog EL39 or39 Tryd.f39.ntmps (loopsIn (codeOf Tryd.f39)) :=
  LoOk.mk (m := 1) (by kernel_rfl) fun i hi => match i, hi with
    | 0, _ => ⟨Limpl_decimal_l0, by kernel_rfl, impl_decimal_l0o⟩
    | i + 1, hi => absurd hi (by omega)
theorem k39 : CalleeOk Tryd.prog 39 c39 := callee_mk Tryd.func39 (code := codeOf Tryd.f39) (by kernel_rfl) vL39 mixed o39 fun x y h => (e39 x).trans (p39 _ x y h)

/-- impl.decimals -/
def EL24 : Nat → Option Callee := addE 39 c39 (addE 38 c38 env0)
theorem vL24 : EnvOk Tryd.prog EL24 := (EnvOk.nil.add Tryd.func38 rfl (by kernel_rfl) k38).add Tryd.func39 rfl (by kernel_rfl) k39
def simpl_decimals_l0 : LS := ⟨[(7, .one (.fix (.sref 0))), (19, .one (.fix (.sref 1))), (20, .one (.dat (.int .i64))), (21, .one (.dat (.int .i64)))], [.sl (.int .i64), .sl .str], []⟩
def simpl_decimals_l0x0 : LS := ⟨[(4, .one (.fix .nils)), (5, .one (.dat .bool))], [], []⟩
def simpl_decimals_l0x1 : LS := ⟨[(7, .one (.fix (.sref 0)))], [.sl (.int .i64)], []⟩
def ximpl_decimals_l0 : List (XS (Int × (List ByteArray))) := [⟨.ret, ⟨[4, 5], [], [], []⟩, simpl_decimals_l0x0, Bool, fun i y => (((), (y, ())), ())⟩,
  ⟨.exit 0, ⟨[7], [.slot 7], [], []⟩, simpl_decimals_l0x1, List Int, fun i y => (((), ()), (y, ()))⟩]
def impl_decimals_l0K {R : Type} (a0 : Int) (a3 : List ByteArray) (rc : Int → List Int → Option R) (fin : (Bool ⊕ (List Int)) → Option R) (a1 : Int) (a2 : List Int) : Option R :=
  cond (decide (a1 < a0))
  (cond (decide ((0 : Int) ≤ a1) && decide (a1 < (a3.length : Int)))
    ((impl_decimal (a3.getD (0 + a1.toNat) ByteArray.empty)).bind fun y1 =>
      cond (!y1.2)
      (fin (.inl false))
      (cond (decide (a2.length + [y1.1].length ≤ 1099511627776))
        ((some (a2 ++ [y1.1])).bind fun v2 =>
          rc (IntKind.i64.wrap (a1 + 1)) v2)
        (none)))
    (none))
  (fin (.inr a2))
def impl_decimals_l0F (a0 : Int) (a3 : List ByteArray) (r : (Int × (List Int)) → Option (Bool ⊕ (List Int))) (x : Int × (List Int)) : Option (Bool ⊕ (List Int)) := impl_decimals_l0K a0 a3 (fun a1 a2 => r (a1, a2)) some x.1 x.2
theorem impl_decimals_l0c (a0 : Int) (a3 : List ByteArray) (x : Int × (List Int)) : Ct fun r => impl_decimals_l0F a0 a3 r x := by
  unfold impl_decimals_l0F impl_decimals_l0K
  repeat' (first | exact Ct.const | exact Ct.call | refine Ct.cond ?_ ?_ | refine Ct.bind ?_ fun _ => ?_ | refine Ct.sum (fun _ => ?_) fun _ => ?_)
def impl_decimals_l0 (a0 : Int) (a3 : List ByteArray) (a1 : Int) (a2 : List Int) : Option (Bool ⊕ (List Int)) := lim (impl_decimals_l0F a0 a3) (a1, a2)
theorem impl_decimals_l0_eq (a0 : Int) (a3 : List ByteArray) (a1 : Int) (a2 : List Int) : impl_decimals_l0 a0 a3 a1 a2 = impl_decimals_l0K a0 a3 (impl_decimals_l0 a0 a3) some a1 a2 := lim_eq (impl_decimals_l0c a0 a3) (a1, a2)
theorem impl_decimals_l0p {R : Type} (a0 : Int) (a3 : List ByteArray) {rc : Int → List Int → Option (Bool ⊕ (List Int))} {rc' : Int → List Int → Option R} {fin : (Bool ⊕ (List Int)) → Option R} (hr : ∀ a1 a2, Par fin (rc a1 a2) (rc' a1 a2)) (a1 : Int) (a2 : List Int) : Par fin (impl_decimals_l0K a0 a3 rc some a1 a2) (impl_decimals_l0K a0 a3 rc' fin a1 a2) := by
  unfold impl_decimals_l0K
  repeat' (first | exact .fin | exact .none | exact hr _ _ | refine .cond ?_ ?_ | refine .bind fun _ => ?_ | refine .sum (fun _ => ?_) fun _ => ?_)
def Limpl_decimals_l0 : Loop := mkL ⟨[7, 19, 20, 21], [.slot 7, .slot 19], [], []⟩ simpl_decimals_l0 ximpl_decimals_l0 (fun (x : (Unit × Unit × Int × Int × Unit) × ((List Int) × (List ByteArray) × Unit)) => (x.1.2.2.1, x.2.2.1)) fun (x : (Unit × Unit × Int × Int × Unit) × ((List Int) × (List ByteArray) × Unit)) => impl_decimals_l0 x.1.2.2.1 x.2.2.1 x.1.2.2.2.1 x.2.1
def impl_decimalsK {R : Type} (fin : (List Int) × Bool → Option R) (x0 : ByteArray) (x1 : Int) : Option R :=
  (lib_Split x0 (⟨#[32]⟩ : ByteArray)).bind fun y1 =>
  cond ((y1.length : Int) != x1)
  (fin ([], false))
  ((impl_decimals_l0 (y1.length : Int) y1 0 []).bind fun y4 =>
    sumO y4 (fun y5 =>
    fin ([], y5))
    (fun y6 =>
    fin (y6, true)))
def impl_decimals (x0 : ByteArray) (x1 : Int) : Option ((List Int) × Bool) := impl_decimalsK some x0 x1
theorem p24 {R : Type} (fin : (List Int) × Bool → Option R) (x0 : ByteArray) (x1 : Int) : Par fin (impl_decimalsK some x0 x1) (impl_decimalsK fin x0 x1) := by
  unfold impl_decimalsK
  repeat' (first | exact .fin | exact .none | refine .cond ?_ ?_ | refine .bind fun _ => ?_ | refine .sum (fun _ => ?_) fun _ => ?_)
def or24 : Ora := { lo := addL 6 (Limpl_decimals_l0) lo0, fin := [.own (.slot 4) (.int .i64)] }
theorem impl_decimals_l0e (a0 : Int) (a3 : List ByteArray) (k : Nat) (a1 : Int) (a2 : List Int) : loopC Tryd.prog EL24 or24 ((loopsIn (codeOf Tryd.f24)).getD 0 .skip) (Limpl_decimals_l0).h (Limpl_decimals_l0).ho Tryd.f24.ntmps (k + 1) (simpl_decimals_l0.out (((), ((), (a0, (a1, ())))), (a2, (a3, ())))) =
    impl_decimals_l0K a0 a3 (fun a1 a2 => loopC Tryd.prog EL24 or24 ((loopsIn (codeOf Tryd.f24)).getD 0 .skip) (Limpl_decimals_l0).h (Limpl_decimals_l0).ho Tryd.f24.ntmps k (simpl_decimals_l0.out (((), ((), (a0, (a1, ())))), (a2, (a3, ()))))) (fun y => some (XS.out ximpl_decimals_l0 (a0, a3) y)) a1 a2 := by kernel_rfl
theorem impl_decimals_l0o : LoopOk Tryd.prog EL24 or24 Tryd.f24.ntmps ((loopsIn (codeOf Tryd.f24)).getD 0 .skip) (Limpl_decimals_l0) :=
  loop_lim (hs := simpl_decimals_l0) (xs := ximpl_decimals_l0) (ι := fun (x : (Unit × Unit × Int × Int × Unit) × ((List Int) × (List ByteArray) × Unit)) => (x.1.2.2.1, x.2.2.1)) (φ := fun (x : (Unit × Unit × Int × Int × Unit) × ((List Int) × (List ByteArray) × Unit)) => (x.1.2.2.2.1, x.2.1)) (ψ := fun (i : Int × (List ByteArray)) (v : Int × (List Int)) => (((), ((), (i.1, (v.1, ())))), (v.2, (i.2, ())))) (F := fun (i : Int × (List ByteArray)) => impl_decimals_l0F i.1 i.2) (fun _ => rfl) fun i k hk v => Par.of_eq (impl_decimals_l0e i.1 i.2 k v.1 v.2) (impl_decimals_l0p i.1 i.2 (fun a1 a2 => hk (a1, a2)) v.1 v.2)
def c24 : Callee := mkC [.one (.ro .str), .one (.ro (.int .i64))] 2 [.one (.sl (.int .i64)), .one (.ro .bool)] fun x => impl_decimals x.1 x.2
theorem e24 (x : PK.dens [.one (.ro .str), .one (.ro (.int .i64))]) : evalFn Tryd.prog EL24 or24 Tryd.f24 (PK.outs [.one (.ro .str), .one (.ro (.int .i64))] x) =
    impl_decimalsK (fun y => some (tupOf ((PK.outs [.one (.sl (.int .i64)), .one (.ro .bool)] y).take 2), (PK.outs [.one (.sl (.int .i64)), .one (.ro .bool)] y).drop 2)) x.1 x.2 := by kernel_rfl
theorem o24 : LoOk Tryd.prog EL24 or24 Tryd.f24.ntmps (loopsIn (codeOf Tryd.f24)) :=
  LoOk.mk (m := 1) (by kernel_rfl) fun i hi => match i, hi with
    | 0, _ => ⟨Limpl_decimals_l0, by kernel_rfl, impl_decimals_l0o⟩
    | i + 1, hi => absurd hi (by omega)
theorem k24 : CalleeOk Tryd.prog 24 c24 := callee_mk Tryd.func24 (code := codeOf Tryd.f24) (by kernel_rfl) vL24 mixed o24 fun x y h => (e24 x).trans (p24 _ x.1 x.2 y h)

/-- impl.isLot -/
def EL33 : Nat → Option Callee := env0
theorem vL33 : EnvOk Tryd.prog EL33 := EnvOk.nil
def impl_isLotK {R : Type} (fin : Bool → Option R) (x0 : DLot) : Option R :=
  cond (decide (x0.1 ≥ 1))
  (cond (decide (x0.1 ≤ 1000000))
    (cond (decide (x0.2.1 ≥ 0))
      (fin (decide (x0.2.1 ≤ (IntKind.i64.wrap (1000 * x0.1)))))
      (fin false))
    (fin false))
  (fin false)
def impl_isLot (x0 : DLot) : Option (Bool) := impl_isLotK some x0
theorem p33 {R : Type} (fin : Bool → Option R) (x0 : DLot) : Par fin (impl_isLotK some x0) (impl_isLotK fin x0) := by
  unfold impl_isLotK
  repeat' (first | exact .fin | exact .none | refine .cond ?_ ?_ | refine .bind fun _ => ?_ | refine .sum (fun _ => ?_) fun _ => ?_)
def c33 : Callee := mkC [.agg [.ro TLot]] 1 [.one (.ro .bool)] fun x => impl_isLot x
theorem e33 (x : PK.dens [.agg [.ro TLot]]) : evalFn Tryd.prog EL33 or0 Tryd.f33 (PK.outs [.agg [.ro TLot]] x) =
    impl_isLotK (fun y => some (tupOf ((PK.outs [.one (.ro .bool)] y).take 1), (PK.outs [.one (.ro .bool)] y).drop 1)) x := by kernel_rfl
theorem k33 : CalleeOk Tryd.prog 33 c33 := callee_mk Tryd.func33 (code := codeOf Tryd.f33) (by kernel_rfl) vL33 mixed (LoOk.nil (by kernel_rfl)) fun x y h => (e33 x).trans (p33 _ x y h)

/-- impl.IsPile -/
def EL18 : Nat → Option Callee := addE 33 c33 env0
theorem vL18 : EnvOk Tryd.prog EL18 := EnvOk.nil.add Tryd.func33 rfl (by kernel_rfl) k33
def simpl_IsPile_l0 : LS := ⟨[(1, .one (.fix (.ptr 0 0))), (3, .one (.dat (.int .i64))), (31, .one (.dat (.slice TLot))), (32, .one (.dat (.int .i64))), (33, .one (.dat (.int .i64)))], [.box [.dat .bool, .dat (.int .i64), .dat (.slice TLot)]], []⟩
def simpl_IsPile_l0x0 : LS := ⟨[(2, .one (.dat .bool))], [], []⟩
def simpl_IsPile_l0x1 : LS := ⟨[(1, .one (.fix (.ptr 0 0))), (3, .one (.dat (.int .i64)))], [.box [.dat .bool, .dat (.int .i64), .dat (.slice TLot)]], []⟩
def ximpl_IsPile_l0 : List (XS ((List DLot) × Int × Bool × Int × (List DLot))) := [⟨.ret, ⟨[2], [], [], []⟩, simpl_IsPile_l0x0, Bool, fun i y => ((y, ()), ())⟩,
  ⟨.exit 0, ⟨[1, 3], [.slot 1], [], []⟩, simpl_IsPile_l0x1, Int, fun i y => (((), (y, ())), ((i.2.2.1, (i.2.2.2.1, (i.2.2.2.2, ()))), ()))⟩]
def impl_IsPile_l0K {R : Type} (a1 : List DLot) (a2 : Int) (rc : Int → Int → Option R) (fin : (Bool ⊕ Int) → Option R) (a0 : Int) (a3 : Int) : Option R :=
  cond (decide (a3 < a2))
  ((lat a1 a3).bind fun e1 =>
    (impl_isLot e1).bind fun y2 =>
    cond (!y2)
    (fin (.inl false))
    (rc (IntKind.i64.wrap (a0 + e1.1)) (IntKind.i64.wrap (a3 + 1))))
  (fin (.inr a0))
def impl_IsPile_l0F (a1 : List DLot) (a2 : Int) (r : (Int × Int) → Option (Bool ⊕ Int)) (x : Int × Int) : Option (Bool ⊕ Int) := impl_IsPile_l0K a1 a2 (fun a0 a3 => r (a0, a3)) some x.1 x.2
theorem impl_IsPile_l0c (a1 : List DLot) (a2 : Int) (x : Int × Int) : Ct fun r => impl_IsPile_l0F a1 a2 r x := by
  unfold impl_IsPile_l0F impl_IsPile_l0K
  repeat' (first | exact Ct.const | exact Ct.call | refine Ct.cond ?_ ?_ | refine Ct.bind ?_ fun _ => ?_ | refine Ct.sum (fun _ => ?_) fun _ => ?_)
def impl_IsPile_l0 (a1 : List DLot) (a2 : Int) (a0 : Int) (a3 : Int) : Option (Bool ⊕ Int) := lim (impl_IsPile_l0F a1 a2) (a0, a3)
theorem impl_IsPile_l0_eq (a1 : List DLot) (a2 : Int) (a0 : Int) (a3 : Int) : impl_IsPile_l0 a1 a2 a0 a3 = impl_IsPile_l0K a1 a2 (impl_IsPile_l0 a1 a2) some a0 a3 := lim_eq (impl_IsPile_l0c a1 a2) (a0, a3)
theorem impl_IsPile_l0p {R : Type} (a1 : List DLot) (a2 : Int) {rc : Int → Int → Option (Bool ⊕ Int)} {rc' : Int → Int → Option R} {fin : (Bool ⊕ Int) → Option R} (hr : ∀ a0 a3, Par fin (rc a0 a3) (rc' a0 a3)) (a0 : Int) (a3 : Int) : Par fin (impl_IsPile_l0K a1 a2 rc some a0 a3) (impl_IsPile_l0K a1 a2 rc' fin a0 a3) := by
  unfold impl_IsPile_l0K
  repeat' (first | exact .fin | exact .none | exact hr _ _ | refine .cond ?_ ?_ | refine .bind fun _ => ?_ | refine .sum (fun _ => ?_) fun _ => ?_)
def Limpl_IsPile_l0 : Loop := mkL ⟨[1, 3, 31, 32, 33], [.slot 1], [], []⟩ simpl_IsPile_l0 ximpl_IsPile_l0 (fun (x : (Unit × Int × (List DLot) × Int × Int × Unit) × ((Bool × Int × (List DLot) × Unit) × Unit)) => (x.1.2.2.1, (x.1.2.2.2.1, (x.2.1.1, (x.2.1.2.1, x.2.1.2.2.1))))) fun (x : (Unit × Int × (List DLot) × Int × Int × Unit) × ((Bool × Int × (List DLot) × Unit) × Unit)) => impl_IsPile_l0 x.1.2.2.1 x.1.2.2.2.1 x.1.2.1 x.1.2.2.2.2.1
def impl_IsPileK {R : Type} (fin : Bool → Option R) (x0 : DPile) : Option R :=
  cond (decide (x0.2.1 < 0))
  (fin false)
  (cond (decide (x0.2.1 > 10000000))
    (fin false)
    (cond (decide ((x0.2.2.1.length : Int) > 40))
      (fin false)
      (cond (x0.1)
        (cond (decide ((x0.2.2.1.length : Int) > 1))
          (fin false)
          ((impl_IsPile_l0 x0.2.2.1 (x0.2.2.1.length : Int) 0 0).bind fun y3 =>
            sumO y3 (fun y4 =>
            fin y4)
            (fun y5 =>
            fin (decide (y5 ≤ x0.2.1)))))
        ((impl_IsPile_l0 x0.2.2.1 (x0.2.2.1.length : Int) 0 0).bind fun y6 =>
          sumO y6 (fun y7 =>
          fin y7)
          (fun y8 =>
          fin (decide (y8 ≤ x0.2.1)))))))
def impl_IsPile (x0 : DPile) : Option (Bool) := impl_IsPileK some x0
theorem p18 {R : Type} (fin : Bool → Option R) (x0 : DPile) : Par fin (impl_IsPileK some x0) (impl_IsPileK fin x0) := by
  unfold impl_IsPileK
  repeat' (first | exact .fin | exact .none | refine .cond ?_ ?_ | refine .bind fun _ => ?_ | refine .sum (fun _ => ?_) fun _ => ?_)
def or18 : Ora := { lo := addL 5 (Limpl_IsPile_l0) lo0, fin := [] }
theorem impl_IsPile_l0e (a1 : List DLot) (a2 : Int) (a4 : Bool) (a5 : Int) (a6 : List DLot) (k : Nat) (a0 : Int) (a3 : Int) : loopC Tryd.prog EL18 or18 ((loopsIn (codeOf Tryd.f18)).getD 0 .skip) (Limpl_IsPile_l0).h (Limpl_IsPile_l0).ho Tryd.f18.ntmps (k + 1) (simpl_IsPile_l0.out (((), (a0, (a1, (a2, (a3, ()))))), ((a4, (a5, (a6, ()))), ()))) =
    impl_IsPile_l0K a1 a2 (fun a0 a3 => loopC Tryd.prog EL18 or18 ((loopsIn (codeOf Tryd.f18)).getD 0 .skip) (Limpl_IsPile_l0).h (Limpl_IsPile_l0).ho Tryd.f18.ntmps k (simpl_IsPile_l0.out (((), (a0, (a1, (a2, (a3, ()))))), ((a4, (a5, (a6, ()))), ())))) (fun y => some (XS.out ximpl_IsPile_l0 (a1, (a2, (a4, (a5, a6)))) y)) a0 a3 := by kernel_rfl
theorem impl_IsPile_l0o : LoopOk Tryd.prog EL18 or18 Tryd.f18.ntmps ((loopsIn (codeOf Tryd.f18)).getD 0 .skip) (Limpl_IsPile_l0) :=
  loop_lim (hs := simpl_IsPile_l0) (xs := ximpl_IsPile_l0) (ι := fun (x : (Unit × Int × (List DLot) × Int × Int × Unit) × ((Bool × Int × (List DLot) × Unit) × Unit)) => (x.1.2.2.1, (x.1.2.2.2.1, (x.2.1.1, (x.2.1.2.1, x.2.1.2.2.1))))) (φ := fun (x : (Unit × Int × (List DLot) × Int × Int × Unit) × ((Bool × Int × (List DLot) × Unit) × Unit)) => (x.1.2.1, x.1.2.2.2.2.1)) (ψ := fun (i : (List DLot) × Int × Bool × Int × (List DLot)) (v : Int × Int) => (((), (v.1, (i.1, (i.2.1, (v.2, ()))))), ((i.2.2.1, (i.2.2.2.1, (i.2.2.2.2, ()))), ()))) (F := fun (i : (List DLot) × Int × Bool × Int × (List DLot)) => impl_IsPile_l0F i.1 i.2.1) (fun _ => rfl) fun i k hk v => Par.of_eq (impl_IsPile_l0e i.1 i.2.1 i.2.2.1 i.2.2.2.1 i.2.2.2.2 k v.1 v.2) (impl_IsPile_l0p i.1 i.2.1 (fun a0 a3 => hk (a0, a3)) v.1 v.2)
def c18 : Callee := mkC [.agg [.ro TPile]] 1 [.one (.ro .bool)] fun x => impl_IsPile x
theorem e18 (x : PK.dens [.agg [.ro TPile]]) : evalFn Tryd.prog EL18 or18 Tryd.f18 (PK.outs [.agg [.ro TPile]] x) =
    impl_IsPileK (fun y => some (tupOf ((PK.outs [.one (.ro .bool)] y).take 1), (PK.outs [.one (.ro .bool)] y).drop 1)) x := by kernel_rfl
theorem o18 : LoOk Tryd.prog EL18 or18 Tryd.f18.ntmps (loopsIn (codeOf Tryd.f18)) :=
  LoOk.mk (m := 1) (by kernel_rfl) fun i hi => match i, hi with
    | 0, _ => ⟨Limpl_IsPile_l0, by kernel_rfl, impl_IsPile_l0o⟩
    | i + 1, hi => absurd hi (by omega)
theorem k18 : CalleeOk Tryd.prog 18 c18 := callee_mk Tryd.func18 (code := codeOf Tryd.f18) (by kernel_rfl) vL18 mixed o18 fun x y h => (e18 x).trans (p18 _ x y h)

/-- impl.ParsePile -/
def EL11 : Nat → Option Callee := addE 18 c18 (addE 24 c24 (addE 25 c25 (addE 23 c23 env0)))
theorem vL11 : EnvOk Tryd.prog EL11 := (((EnvOk.nil.add Tryd.func23 rfl (by kernel_rfl) k23).add Tryd.func25 rfl (by kernel_rfl) k25).add Tryd.func24 rfl (by kernel_rfl) k24).add Tryd.func18 rfl (by kernel_rfl) k18
def simpl_ParsePile_l0 : LS := ⟨[(2, .one (.fix (.ptr 0 0))), (4, .one (.fix (.ptr 1 0))), (7, .one (.fix (.sref 3))), (9, .one (.dat (.int .i64)))], [.box [.dat .bool, .dat (.int .i64), .fix .nils], .box [.dat .bool, .dat (.int .i64), .fix (.sref 2)], .sl TLot, .sl (.int .i64)], []⟩
def simpl_ParsePile_l0x0 : LS := ⟨[(2, .one (.fix (.ptr 0 0))), (4, .one (.fix (.ptr 1 0)))], [.box [.dat .bool, .dat (.int .i64), .fix .nils], .box [.dat .bool, .dat (.int .i64), .fix (.sref 2)], .sl TLot], []⟩
def ximpl_ParsePile_l0 : List (XS (Bool × Int × Bool × Int × (List Int))) := [⟨.exit 0, ⟨[2, 4], [.slot 2, .slot 4, .cell 4 2], [], []⟩, simpl_ParsePile_l0x0, List DLot, fun i y => (((), ((), ())), ((i.1, (i.2.1, ((), ()))), ((i.2.2.1, (i.2.2.2.1, ((), ()))), (y, ()))))⟩]
def impl_ParsePile_l0K {R : Type} (a6 : List Int) (rc : Int → List DLot → Option R) (fin : List DLot → Option R) (a0 : Int) (a5 : List DLot) : Option R :=
  cond (decide (a0 < (a6.length : Int)))
  (cond (decide ((0 : Int) ≤ a0) && decide (a0 < (a6.length : Int)))
    (cond (decide ((0 : Int) ≤ IntKind.i64.wrap (a0 + 1)) && decide (IntKind.i64.wrap (a0 + 1) < (a6.length : Int)))
      (cond (decide (a5.length + [(a6.getD (0 + a0.toNat) 0, (a6.getD (0 + (IntKind.i64.wrap (a0 + 1)).toNat) 0, ()))].length ≤ 1099511627776))
        ((some (a5 ++ [(a6.getD (0 + a0.toNat) 0, (a6.getD (0 + (IntKind.i64.wrap (a0 + 1)).toNat) 0, ()))])).bind fun v1 =>
          rc (IntKind.i64.wrap (a0 + 2)) v1)
        (none))
      (none))
    (none))
  (fin a5)
def impl_ParsePile_l0F (a6 : List Int) (r : (Int × (List DLot)) → Option (List DLot)) (x : Int × (List DLot)) : Option (List DLot) := impl_ParsePile_l0K a6 (fun a0 a5 => r (a0, a5)) some x.1 x.2
theorem impl_ParsePile_l0c (a6 : List Int) (x : Int × (List DLot)) : Ct fun r => impl_ParsePile_l0F a6 r x := by
  unfold impl_ParsePile_l0F impl_ParsePile_l0K
  repeat' (first | exact Ct.const | exact Ct.call | refine Ct.cond ?_ ?_ | refine Ct.bind ?_ fun _ => ?_ | refine Ct.sum (fun _ => ?_) fun _ => ?_)
def impl_ParsePile_l0 (a6 : List Int) (a0 : Int) (a5 : List DLot) : Option (List DLot) := lim (impl_ParsePile_l0F a6) (a0, a5)
theorem impl_ParsePile_l0_eq (a6 : List Int) (a0 : Int) (a5 : List DLot) : impl_ParsePile_l0 a6 a0 a5 = impl_ParsePile_l0K a6 (impl_ParsePile_l0 a6) some a0 a5 := lim_eq (impl_ParsePile_l0c a6) (a0, a5)
theorem impl_ParsePile_l0p {R : Type} (a6 : List Int) {rc : Int → List DLot → Option (List DLot)} {rc' : Int → List DLot → Option R} {fin : List DLot → Option R} (hr : ∀ a0 a5, Par fin (rc a0 a5) (rc' a0 a5)) (a0 : Int) (a5 : List DLot) : Par fin (impl_ParsePile_l0K a6 rc some a0 a5) (impl_ParsePile_l0K a6 rc' fin a0 a5) := by
  unfold impl_ParsePile_l0K
  repeat' (first | exact .fin | exact .none | exact hr _ _ | refine .cond ?_ ?_ | refine .bind fun _ => ?_ | refine .sum (fun _ => ?_) fun _ => ?_)
def Limpl_ParsePile_l0 : Loop := mkL ⟨[2, 4, 7, 9], [.slot 2, .slot 4, .cell 4 2, .slot 7], [], [.own (.cell 4 2) TLot]⟩ simpl_ParsePile_l0 ximpl_ParsePile_l0 (fun (x : (Unit × Unit × Unit × Int × Unit) × ((Bool × Int × Unit × Unit) × (Bool × Int × Unit × Unit) × (List DLot) × (List Int) × Unit)) => (x.2.1.1, (x.2.1.2.1, (x.2.2.1.1, (x.2.2.1.2.1, x.2.2.2.2.1))))) fun (x : (Unit × Unit × Unit × Int × Unit) × ((Bool × Int × Unit × Unit) × (Bool × Int × Unit × Unit) × (List DLot) × (List Int) × Unit)) => impl_ParsePile_l0 x.2.2.2.2.1 x.1.2.2.2.1 x.2.2.2.1
def impl_ParsePileK {R : Type} (fin : (Bool × Int × (List DLot)) × Bool → Option R) (x0 : ByteArray) : Option R :=
  (lib_CutPrefix x0 (⟨#[111, 114, 100, 101, 114, 32]⟩ : ByteArray)).bind fun y1 =>
  cond (!y1.2)
  ((lib_CutPrefix x0 (⟨#[109, 105, 120, 101, 100, 32]⟩ : ByteArray)).bind fun y2 =>
    (lib_Count y2.1 (⟨#[32]⟩ : ByteArray)).bind fun y3 =>
    (impl_decimals y2.1 (IntKind.i64.wrap (y3 + 1))).bind fun y4 =>
    cond (!y2.2)
    (fin ((false, (0, [])), false))
    (cond (!y4.2)
      (fin ((false, (0, [])), false))
      (cond (((y4.1.length : Int).tmod 2) == 0)
        (fin ((false, (0, [])), false))
        (cond (decide ((0 : Int) < (y4.1.length : Int)))
          ((impl_ParsePile_l0 y4.1 1 []).bind fun y7 =>
            (impl_IsPile (true, (y4.1.getD (0 + 0) 0, (y7, ())))).bind fun y8 =>
            cond (!y8)
            (fin ((false, (0, [])), false))
            (fin ((true, (y4.1.getD (0 + 0) 0, y7)), true)))
          (none)))))
  ((lib_Count y1.1 (⟨#[32]⟩ : ByteArray)).bind fun y9 =>
    (impl_decimals y1.1 (IntKind.i64.wrap (y9 + 1))).bind fun y10 =>
    cond (!y1.2)
    (fin ((false, (0, [])), false))
    (cond (!y10.2)
      (fin ((false, (0, [])), false))
      (cond (((y10.1.length : Int).tmod 2) == 0)
        (fin ((false, (0, [])), false))
        (cond (decide ((0 : Int) < (y10.1.length : Int)))
          ((impl_ParsePile_l0 y10.1 1 []).bind fun y11 =>
            (impl_IsPile (false, (y10.1.getD (0 + 0) 0, (y11, ())))).bind fun y12 =>
            cond (!y12)
            (fin ((false, (0, [])), false))
            (fin ((false, (y10.1.getD (0 + 0) 0, y11)), true)))
          (none)))))
def impl_ParsePile (x0 : ByteArray) : Option ((Bool × Int × (List DLot)) × Bool) := impl_ParsePileK some x0
theorem p11 {R : Type} (fin : (Bool × Int × (List DLot)) × Bool → Option R) (x0 : ByteArray) : Par fin (impl_ParsePileK some x0) (impl_ParsePileK fin x0) := by
  unfold impl_ParsePileK
  repeat' (first | exact .fin | exact .none | refine .cond ?_ ?_ | refine .bind fun _ => ?_ | refine .sum (fun _ => ?_) fun _ => ?_)
def or11 : Ora := { lo := addL 11 (Limpl_ParsePile_l0) lo0, fin := [.own (.cell 2 2) TLot] }
theorem impl_ParsePile_l0e (a1 : Bool) (a2 : Int) (a3 : Bool) (a4 : Int) (a6 : List Int) (k : Nat) (a0 : Int) (a5 : List DLot) : loopC Tryd.prog EL11 or11 ((loopsIn (codeOf Tryd.f11)).getD 0 .skip) (Limpl_ParsePile_l0).h (Limpl_ParsePile_l0).ho Tryd.f11.ntmps (k + 1) (simpl_ParsePile_l0.out (((), ((), ((), (a0, ())))), ((a1, (a2, ((), ()))), ((a3, (a4, ((), ()))), (a5, (a6, ())))))) =
    impl_ParsePile_l0K a6 (fun a0 a5 => loopC Tryd.prog EL11 or11 ((loopsIn (codeOf Tryd.f11)).getD 0 .skip) (Limpl_ParsePile_l0).h (Limpl_ParsePile_l0).ho Tryd.f11.ntmps k (simpl_ParsePile_l0.out (((), ((), ((), (a0, ())))), ((a1, (a2, ((), ()))), ((a3, (a4, ((), ()))), (a5, (a6, ()))))))) (fun y => some (XS.out ximpl_ParsePile_l0 (a1, (a2, (a3, (a4, a6)))) y)) a0 a5 := by kernel_rfl
theorem impl_ParsePile_l0o : LoopOk Tryd.prog EL11 or11 Tryd.f11.ntmps ((loopsIn (codeOf Tryd.f11)).getD 0 .skip) (Limpl_ParsePile_l0) :=
  loop_lim (hs := simpl_ParsePile_l0) (xs := ximpl_ParsePile_l0) (ι := fun (x : (Unit × Unit × Unit × Int × Unit) × ((Bool × Int × Unit × Unit) × (Bool × Int × Unit × Unit) × (List DLot) × (List Int) × Unit)) => (x.2.1.1, (x.2.1.2.1, (x.2.2.1.1, (x.2.2.1.2.1, x.2.2.2.2.1))))) (φ := fun (x : (Unit × Unit × Unit × Int × Unit) × ((Bool × Int × Unit × Unit) × (Bool × Int × Unit × Unit) × (List DLot) × (List Int) × Unit)) => (x.1.2.2.2.1, x.2.2.2.1)) (ψ := fun (i : Bool × Int × Bool × Int × (List Int)) (v : Int × (List DLot)) => (((), ((), ((), (v.1, ())))), ((i.1, (i.2.1, ((), ()))), ((i.2.2.1, (i.2.2.2.1, ((), ()))), (v.2, (i.2.2.2.2, ())))))) (F := fun (i : Bool × Int × Bool × Int × (List Int)) => impl_ParsePile_l0F i.2.2.2.2) (fun _ => rfl) fun i k hk v => Par.of_eq (impl_ParsePile_l0e i.1 i.2.1 i.2.2.1 i.2.2.2.1 i.2.2.2.2 k v.1 v.2) (impl_ParsePile_l0p i.2.2.2.2 (fun a0 a5 => hk (a0, a5)) v.1 v.2)
def c11 : Callee := mkC [.one (.ro .str)] 2 [.agg [.ro .bool, .ro (.int .i64), .sl TLot], .one (.ro .bool)] fun x => impl_ParsePile x
theorem e11 (x : PK.dens [.one (.ro .str)]) : evalFn Tryd.prog EL11 or11 Tryd.f11 (PK.outs [.one (.ro .str)] x) =
    impl_ParsePileK (fun y => some (tupOf ((PK.outs [.agg [.ro .bool, .ro (.int .i64), .sl TLot], .one (.ro .bool)] y).take 2), (PK.outs [.agg [.ro .bool, .ro (.int .i64), .sl TLot], .one (.ro .bool)] y).drop 2)) x := by kernel_rfl
theorem o11 : LoOk Tryd.prog EL11 or11 Tryd.f11.ntmps (loopsIn (codeOf Tryd.f11)) :=
  LoOk.mk (m := 1) (by kernel_rfl) fun i hi => match i, hi with
    | 0, _ => ⟨Limpl_ParsePile_l0, by kernel_rfl, impl_ParsePile_l0o⟩
    | i + 1, hi => absurd hi (by omega)
theorem k11 : CalleeOk Tryd.prog 11 c11 := callee_mk Tryd.func11 (code := codeOf Tryd.f11) (by kernel_rfl) vL11 mixed o11 fun x y h => (e11 x).trans (p11 _ x y h)

/-- laws.eqLot -/
def EL36 : Nat → Option Callee := env0
theorem vL36 : EnvOk Tryd.prog EL36 := EnvOk.nil
def laws_eqLotK {R : Type} (fin : Bool → Option R) (x0 : DLot) (x1 : DLot) : Option R :=
  cond (x0.1 != x1.1)
  (fin false)
  (cond (x0.2.1 != x1.2.1)
    (fin false)
    (fin true))
def laws_eqLot (x0 : DLot) (x1 : DLot) : Option (Bool) := laws_eqLotK some x0 x1
theorem p36 {R : Type} (fin : Bool → Option R) (x0 : DLot) (x1 : DLot) : Par fin (laws_eqLotK some x0 x1) (laws_eqLotK fin x0 x1) := by
  unfold laws_eqLotK
  repeat' (first | exact .fin | exact .none | refine .cond ?_ ?_ | refine .bind fun _ => ?_ | refine .sum (fun _ => ?_) fun _ => ?_)
def c36 : Callee := mkC [.agg [.ro TLot], .agg [.ro TLot]] 1 [.one (.ro .bool)] fun x => laws_eqLot x.1 x.2
theorem e36 (x : PK.dens [.agg [.ro TLot], .agg [.ro TLot]]) : evalFn Tryd.prog EL36 or0 Tryd.f36 (PK.outs [.agg [.ro TLot], .agg [.ro TLot]] x) =
    laws_eqLotK (fun y => some (tupOf ((PK.outs [.one (.ro .bool)] y).take 1), (PK.outs [.one (.ro .bool)] y).drop 1)) x.1 x.2 := by kernel_rfl
theorem k36 : CalleeOk Tryd.prog 36 c36 := callee_mk Tryd.func36 (code := codeOf Tryd.f36) (by kernel_rfl) vL36 mixed (LoOk.nil (by kernel_rfl)) fun x y h => (e36 x).trans (p36 _ x.1 x.2 y h)

/-- laws.eqLotS -/
def EL20 : Nat → Option Callee := addE 36 c36 env0
theorem vL20 : EnvOk Tryd.prog EL20 := EnvOk.nil.add Tryd.func36 rfl (by kernel_rfl) k36
def slaws_eqLotS_l0 : LS := ⟨[(0, .one (.dat (.slice TLot))), (1, .one (.dat (.slice TLot))), (5, .one (.dat (.int .i64)))], [], []⟩
def slaws_eqLotS_l0x0 : LS := ⟨[(4, .one (.dat .bool))], [], []⟩
def slaws_eqLotS_l0x1 : LS := ⟨[], [], []⟩
def xlaws_eqLotS_l0 : List (XS ((List DLot) × (List DLot))) := [⟨.ret, ⟨[4], [], [], []⟩, slaws_eqLotS_l0x0, Bool, fun i y => ((y, ()), ())⟩,
  ⟨.exit 0, ⟨[], [], [], []⟩, slaws_eqLotS_l0x1, Unit, fun i y => ((), ())⟩]
def laws_eqLotS_l0K {R : Type} (a0 : List DLot) (a1 : List DLot) (rc : Int → Option R) (fin : (Bool ⊕ Unit) → Option R) (a2 : Int) : Option R :=
  cond (decide (a2 < (a0.length : Int)))
  ((lat a0 a2).bind fun e1 =>
    (lat a1 a2).bind fun e2 =>
    (laws_eqLot e1 e2).bind fun y3 =>
    cond (!y3)
    (fin (.inl false))
    (rc (IntKind.i64.wrap (a2 + 1))))
  (fin (.inr ()))
def laws_eqLotS_l0F (a0 : List DLot) (a1 : List DLot) (r : Int → Option (Bool ⊕ Unit)) (x : Int) : Option (Bool ⊕ Unit) := laws_eqLotS_l0K a0 a1 (fun a2 => r a2) some x
theorem laws_eqLotS_l0c (a0 : List DLot) (a1 : List DLot) (x : Int) : Ct fun r => laws_eqLotS_l0F a0 a1 r x := by
  unfold laws_eqLotS_l0F laws_eqLotS_l0K
  repeat' (first | exact Ct.const | exact Ct.call | refine Ct.cond ?_ ?_ | refine Ct.bind ?_ fun _ => ?_ | refine Ct.sum (fun _ => ?_) fun _ => ?_)
def laws_eqLotS_l0 (a0 : List DLot) (a1 : List DLot) (a2 : Int) : Option (Bool ⊕ Unit) := lim (laws_eqLotS_l0F a0 a1) a2
theorem laws_eqLotS_l0_eq (a0 : List DLot) (a1 : List DLot) (a2 : Int) : laws_eqLotS_l0 a0 a1 a2 = laws_eqLotS_l0K a0 a1 (laws_eqLotS_l0 a0 a1) some a2 := lim_eq (laws_eqLotS_l0c a0 a1) a2
theorem laws_eqLotS_l0p {R : Type} (a0 : List DLot) (a1 : List DLot) {rc : Int → Option (Bool ⊕ Unit)} {rc' : Int → Option R} {fin : (Bool ⊕ Unit) → Option R} (hr : ∀ a2, Par fin (rc a2) (rc' a2)) (a2 : Int) : Par fin (laws_eqLotS_l0K a0 a1 rc some a2) (laws_eqLotS_l0K a0 a1 rc' fin a2) := by
  unfold laws_eqLotS_l0K
  repeat' (first | exact .fin | exact .none | exact hr _ | refine .cond ?_ ?_ | refine .bind fun _ => ?_ | refine .sum (fun _ => ?_) fun _ => ?_)
def Llaws_eqLotS_l0 : Loop := mkL ⟨[0, 1, 5], [], [], []⟩ slaws_eqLotS_l0 xlaws_eqLotS_l0 (fun (x : ((List DLot) × (List DLot) × Int × Unit) × (Unit)) => (x.1.1, x.1.2.1)) fun (x : ((List DLot) × (List DLot) × Int × Unit) × (Unit)) => laws_eqLotS_l0 x.1.1 x.1.2.1 x.1.2.2.1
def laws_eqLotSK {R : Type} (fin : Bool → Option R) (x0 : List DLot) (x1 : List DLot) : Option R :=
  cond ((x0.length : Int) != (x1.length : Int))
  (fin false)
  ((laws_eqLotS_l0 x0 x1 0).bind fun y4 =>
    sumO y4 (fun y5 =>
    fin y5)
    (fun y6 =>
    fin true))
def laws_eqLotS (x0 : List DLot) (x1 : List DLot) : Option (Bool) := laws_eqLotSK some x0 x1
theorem p20 {R : Type} (fin : Bool → Option R) (x0 : List DLot) (x1 : List DLot) : Par fin (laws_eqLotSK some x0 x1) (laws_eqLotSK fin x0 x1) := by
  unfold laws_eqLotSK
  repeat' (first | exact .fin | exact .none | refine .cond ?_ ?_ | refine .bind fun _ => ?_ | refine .sum (fun _ => ?_) fun _ => ?_)
def or20 : Ora := { lo := addL 4 (Llaws_eqLotS_l0) lo0, fin := [] }
theorem laws_eqLotS_l0e (a0 : List DLot) (a1 : List DLot) (k : Nat) (a2 : Int) : loopC Tryd.prog EL20 or20 ((loopsIn (codeOf Tryd.f20)).getD 0 .skip) (Llaws_eqLotS_l0).h (Llaws_eqLotS_l0).ho Tryd.f20.ntmps (k + 1) (slaws_eqLotS_l0.out ((a0, (a1, (a2, ()))), ())) =
    laws_eqLotS_l0K a0 a1 (fun a2 => loopC Tryd.prog EL20 or20 ((loopsIn (codeOf Tryd.f20)).getD 0 .skip) (Llaws_eqLotS_l0).h (Llaws_eqLotS_l0).ho Tryd.f20.ntmps k (slaws_eqLotS_l0.out ((a0, (a1, (a2, ()))), ()))) (fun y => some (XS.out xlaws_eqLotS_l0 (a0, a1) y)) a2 := by kernel_rfl
theorem laws_eqLotS_l0o : LoopOk Tryd.prog EL20 or20 Tryd.f20.ntmps ((loopsIn (codeOf Tryd.f20)).getD 0 .skip) (Llaws_eqLotS_l0) :=
  loop_lim (hs := slaws_eqLotS_l0) (xs := xlaws_eqLotS_l0) (ι := fun (x : ((List DLot) × (List DLot) × Int × Unit) × (Unit)) => (x.1.1, x.1.2.1)) (φ := fun (x : ((List DLot) × (List DLot) × Int × Unit) × (Unit)) => x.1.2.2.1) (ψ := fun (i : (List DLot) × (List DLot)) (v : Int) => ((i.1, (i.2, (v, ()))), ())) (F := fun (i : (List DLot) × (List DLot)) => laws_eqLotS_l0F i.1 i.2) (fun _ => rfl) fun i k hk v => Par.of_eq (laws_eqLotS_l0e i.1 i.2 k v) (laws_eqLotS_l0p i.1 i.2 (fun a2 => hk a2) v)
def c20 : Callee := mkC [.one (.ro (.slice TLot)), .one (.ro (.slice TLot))] 1 [.one (.ro .bool)] fun x => laws_eqLotS x.1 x.2
theorem e20 (x : PK.dens [.one (.ro (.slice TLot)), .one (.ro (.slice TLot))]) : evalFn Tryd.prog EL20 or20 Tryd.f20 (PK.outs [.one (.ro (.slice TLot)), .one (.ro (.slice TLot))] x) =
    laws_eqLotSK (fun y => some (tupOf ((PK.outs [.one (.ro .bool)] y).take 1), (PK.outs [.one (.ro .bool)] y).drop 1)) x.1 x.2 := by kernel_rfl
theorem o20 : LoOk Tryd.prog EL20 or20 Tryd.f20.ntmps (loopsIn (codeOf Tryd.f20)) :=
  LoOk.mk (m := 1) (by kernel_rfl) fun i hi => match i, hi with
    | 0, _ => ⟨Llaws_eqLotS_l0, by kernel_rfl, laws_eqLotS_l0o⟩
    | i + 1, hi => absurd hi (by omega)
theorem k20 : CalleeOk Tryd.prog 20 c20 := callee_mk Tryd.func20 (code := codeOf Tryd.f20) (by kernel_rfl) vL20 mixed o20 fun x y h => (e20 x).trans (p20 _ x.1 x.2 y h)

/-- laws.eqPile -/
def EL9 : Nat → Option Callee := addE 20 c20 env0
theorem vL9 : EnvOk Tryd.prog EL9 := EnvOk.nil.add Tryd.func20 rfl (by kernel_rfl) k20
def laws_eqPileK {R : Type} (fin : Bool → Option R) (x0 : DPile) (x1 : DPile) : Option R :=
  cond (!(x0.1 == x1.1))
  (fin false)
  (cond (x0.2.1 != x1.2.1)
    (fin false)
    ((laws_eqLotS x0.2.2.1 x1.2.2.1).bind fun y1 =>
      cond (!y1)
      (fin false)
      (fin true)))
def laws_eqPile (x0 : DPile) (x1 : DPile) : Option (Bool) := laws_eqPileK some x0 x1
theorem p9 {R : Type} (fin : Bool → Option R) (x0 : DPile) (x1 : DPile) : Par fin (laws_eqPileK some x0 x1) (laws_eqPileK fin x0 x1) := by
  unfold laws_eqPileK
  repeat' (first | exact .fin | exact .none | refine .cond ?_ ?_ | refine .bind fun _ => ?_ | refine .sum (fun _ => ?_) fun _ => ?_)
def c9 : Callee := mkC [.agg [.ro TPile], .agg [.ro TPile]] 1 [.one (.ro .bool)] fun x => laws_eqPile x.1 x.2
theorem e9 (x : PK.dens [.agg [.ro TPile], .agg [.ro TPile]]) : evalFn Tryd.prog EL9 or0 Tryd.f9 (PK.outs [.agg [.ro TPile], .agg [.ro TPile]] x) =
    laws_eqPileK (fun y => some (tupOf ((PK.outs [.one (.ro .bool)] y).take 1), (PK.outs [.one (.ro .bool)] y).drop 1)) x.1 x.2 := by kernel_rfl
theorem k9 : CalleeOk Tryd.prog 9 c9 := callee_mk Tryd.func9 (code := codeOf Tryd.f9) (by kernel_rfl) vL9 mixed (LoOk.nil (by kernel_rfl)) fun x y h => (e9 x).trans (p9 _ x.1 x.2 y h)

/-- laws.markLotS -/
def EL26 : Nat → Option Callee := env0
theorem vL26 : EnvOk Tryd.prog EL26 := EnvOk.nil
def slaws_markLotS_l0 : LS := ⟨[(0, .one (.fix (.sref 0))), (1, .one (.dat (.int .i64))), (5, .one (.dat (.int .i64)))], [.sl TLot], [0]⟩
def slaws_markLotS_l0x0 : LS := ⟨[(0, .one (.fix (.sref 0))), (1, .one (.dat (.int .i64)))], [.sl TLot], [0]⟩
def xlaws_markLotS_l0 : List (XS (Unit)) := [⟨.exit 0, ⟨[0, 1], [.slot 0], [0], []⟩, slaws_markLotS_l0x0, Int × (List DLot), fun i y => (((), (y.1, ())), (y.2, ()))⟩]
def laws_markLotS_l0K {R : Type} (rc : Int → Int → List DLot → Option R) (fin : Int × (List DLot) → Option R) (a0 : Int) (a1 : Int) (a2 : List DLot) : Option R :=
  cond (decide (a1 < (a2.length : Int)))
  (cond (decide ((0 : Int) ≤ a1) && decide (a1 < (a2.length : Int)))
    ((some (a2.set (0 + a1.toNat) (a0, (((a2.getD (0 + a1.toNat) TLot.dflt).2).1, ())))).bind fun v1 =>
      cond (decide ((0 : Int) ≤ a1) && decide (a1 < (v1.length : Int)))
      ((some (v1.set (0 + a1.toNat) ((v1.getD (0 + a1.toNat) TLot.dflt).1, (IntKind.i64.wrap (a0 + 1), ())))).bind fun v2 =>
        rc (IntKind.i64.wrap ((IntKind.i64.wrap (a0 + 1)) + 1)) (IntKind.i64.wrap (a1 + 1)) v2)
      (none))
    (none))
  (fin (a0, a2))
def laws_markLotS_l0F (r : (Int × Int × (List DLot)) → Option (Int × (List DLot))) (x : Int × Int × (List DLot)) : Option (Int × (List DLot)) := laws_markLotS_l0K (fun a0 a1 a2 => r (a0, (a1, a2))) some x.1 x.2.1 x.2.2
theorem laws_markLotS_l0c (x : Int × Int × (List DLot)) : Ct fun r => laws_markLotS_l0F r x := by
  unfold laws_markLotS_l0F laws_markLotS_l0K
  repeat' (first | exact Ct.const | exact Ct.call | refine Ct.cond ?_ ?_ | refine Ct.bind ?_ fun _ => ?_ | refine Ct.sum (fun _ => ?_) fun _ => ?_)
def laws_markLotS_l0 (a0 : Int) (a1 : Int) (a2 : List DLot) : Option (Int × (List DLot)) := lim (laws_markLotS_l0F) (a0, (a1, a2))
theorem laws_markLotS_l0_eq (a0 : Int) (a1 : Int) (a2 : List DLot) : laws_markLotS_l0 a0 a1 a2 = laws_markLotS_l0K (laws_markLotS_l0) some a0 a1 a2 := lim_eq (laws_markLotS_l0c) (a0, (a1, a2))
theorem laws_markLotS_l0p {R : Type} {rc : Int → Int → List DLot → Option (Int × (List DLot))} {rc' : Int → Int → List DLot → Option R} {fin : Int × (List DLot) → Option R} (hr : ∀ a0 a1 a2, Par fin (rc a0 a1 a2) (rc' a0 a1 a2)) (a0 : Int) (a1 : Int) (a2 : List DLot) : Par fin (laws_markLotS_l0K rc some a0 a1 a2) (laws_markLotS_l0K rc' fin a0 a1 a2) := by
  unfold laws_markLotS_l0K
  repeat' (first | exact .fin | exact .none | exact hr _ _ _ | refine .cond ?_ ?_ | refine .bind fun _ => ?_ | refine .sum (fun _ => ?_) fun _ => ?_)
def Llaws_markLotS_l0 : Loop := mkL ⟨[0, 1, 5], [.slot 0], [0], []⟩ slaws_markLotS_l0 xlaws_markLotS_l0 (fun (x : (Unit × Int × Int × Unit) × ((List DLot) × Unit)) => ()) fun (x : (Unit × Int × Int × Unit) × ((List DLot) × Unit)) => laws_markLotS_l0 x.1.2.1 x.1.2.2.1 x.2.1
def laws_markLotSK {R : Type} (fin : Int × (List DLot) → Option R) (x0 : List DLot) (x1 : Int) : Option R :=
  (laws_markLotS_l0 x1 0 x0).bind fun y3 =>
  fin y3
def laws_markLotS (x0 : List DLot) (x1 : Int) : Option (Int × (List DLot)) := laws_markLotSK some x0 x1
theorem p26 {R : Type} (fin : Int × (List DLot) → Option R) (x0 : List DLot) (x1 : Int) : Par fin (laws_markLotSK some x0 x1) (laws_markLotSK fin x0 x1) := by
  unfold laws_markLotSK
  repeat' (first | exact .fin | exact .none | refine .cond ?_ ?_ | refine .bind fun _ => ?_ | refine .sum (fun _ => ?_) fun _ => ?_)
def or26 : Ora := { lo := addL 2 (Llaws_markLotS_l0) lo0, fin := [] }
theorem laws_markLotS_l0e (k : Nat) (a0 : Int) (a1 : Int) (a2 : List DLot) : loopC Tryd.prog EL26 or26 ((loopsIn (codeOf Tryd.f26)).getD 0 .skip) (Llaws_markLotS_l0).h (Llaws_markLotS_l0).ho Tryd.f26.ntmps (k + 1) (slaws_markLotS_l0.out (((), (a0, (a1, ()))), (a2, ()))) =
    laws_markLotS_l0K (fun a0 a1 a2 => loopC Tryd.prog EL26 or26 ((loopsIn (codeOf Tryd.f26)).getD 0 .skip) (Llaws_markLotS_l0).h (Llaws_markLotS_l0).ho Tryd.f26.ntmps k (slaws_markLotS_l0.out (((), (a0, (a1, ()))), (a2, ())))) (fun y => some (XS.out xlaws_markLotS_l0 () y)) a0 a1 a2 := by kernel_rfl
theorem laws_markLotS_l0o : LoopOk Tryd.prog EL26 or26 Tryd.f26.ntmps ((loopsIn (codeOf Tryd.f26)).getD 0 .skip) (Llaws_markLotS_l0) :=
  loop_lim (hs := slaws_markLotS_l0) (xs := xlaws_markLotS_l0) (ι := fun (x : (Unit × Int × Int × Unit) × ((List DLot) × Unit)) => ()) (φ := fun (x : (Unit × Int × Int × Unit) × ((List DLot) × Unit)) => (x.1.2.1, (x.1.2.2.1, x.2.1))) (ψ := fun (i : Unit) (v : Int × Int × (List DLot)) => (((), (v.1, (v.2.1, ()))), (v.2.2, ()))) (F := fun (i : Unit) => laws_markLotS_l0F) (fun _ => rfl) fun i k hk v => Par.of_eq (laws_markLotS_l0e k v.1 v.2.1 v.2.2) (laws_markLotS_l0p (fun a0 a1 a2 => hk (a0, (a1, a2))) v.1 v.2.1 v.2.2)
def c26 : Callee := mkC [.one (.sl TLot), .one (.ro (.int .i64))] 1 [.one (.ro (.int .i64)), .one (.sl TLot)] fun x => laws_markLotS x.1 x.2
theorem e26 (x : PK.dens [.one (.sl TLot), .one (.ro (.int .i64))]) : evalFn Tryd.prog EL26 or26 Tryd.f26 (PK.outs [.one (.sl TLot), .one (.ro (.int .i64))] x) =
    laws_markLotSK (fun y => some (tupOf ((PK.outs [.one (.ro (.int .i64)), .one (.sl TLot)] y).take 1), (PK.outs [.one (.ro (.int .i64)), .one (.sl TLot)] y).drop 1)) x.1 x.2 := by kernel_rfl
theorem o26 : LoOk Tryd.prog EL26 or26 Tryd.f26.ntmps (loopsIn (codeOf Tryd.f26)) :=
  LoOk.mk (m := 1) (by kernel_rfl) fun i hi => match i, hi with
    | 0, _ => ⟨Llaws_markLotS_l0, by kernel_rfl, laws_markLotS_l0o⟩
    | i + 1, hi => absurd hi (by omega)
theorem k26 : CalleeOk Tryd.prog 26 c26 := callee_mk Tryd.func26 (code := codeOf Tryd.f26) (by kernel_rfl) vL26 mixed o26 fun x y h => (e26 x).trans (p26 _ x.1 x.2 y h)

/-- laws.markPile -/
def EL12 : Nat → Option Callee := addE 26 c26 env0
theorem vL12 : EnvOk Tryd.prog EL12 := EnvOk.nil.add Tryd.func26 rfl (by kernel_rfl) k26
def laws_markPileK {R : Type} (fin : Int × (Bool × Int × (List DLot)) → Option R) (x0 : Bool × Int × (List DLot)) (x1 : Int) : Option R :=
  (laws_markLotS x0.2.2 x1).bind fun y1 =>
  fin (y1.1, (x0.1, (x0.2.1, y1.2)))
def laws_markPile (x0 : Bool × Int × (List DLot)) (x1 : Int) : Option (Int × (Bool × Int × (List DLot))) := laws_markPileK some x0 x1
theorem p12 {R : Type} (fin : Int × (Bool × Int × (List DLot)) → Option R) (x0 : Bool × Int × (List DLot)) (x1 : Int) : Par fin (laws_markPileK some x0 x1) (laws_markPileK fin x0 x1) := by
  unfold laws_markPileK
  repeat' (first | exact .fin | exact .none | refine .cond ?_ ?_ | refine .bind fun _ => ?_ | refine .sum (fun _ => ?_) fun _ => ?_)
def c12 : Callee := mkC [.agg [.ro .bool, .ro (.int .i64), .sl TLot], .one (.ro (.int .i64))] 1 [.one (.ro (.int .i64)), .agg [.ro .bool, .ro (.int .i64), .sl TLot]] fun x => laws_markPile x.1 x.2
theorem e12 (x : PK.dens [.agg [.ro .bool, .ro (.int .i64), .sl TLot], .one (.ro (.int .i64))]) : evalFn Tryd.prog EL12 or0 Tryd.f12 (PK.outs [.agg [.ro .bool, .ro (.int .i64), .sl TLot], .one (.ro (.int .i64))] x) =
    laws_markPileK (fun y => some (tupOf ((PK.outs [.one (.ro (.int .i64)), .agg [.ro .bool, .ro (.int .i64), .sl TLot]] y).take 1), (PK.outs [.one (.ro (.int .i64)), .agg [.ro .bool, .ro (.int .i64), .sl TLot]] y).drop 1)) x.1 x.2 := by kernel_rfl
theorem k12 : CalleeOk Tryd.prog 12 c12 := callee_mk Tryd.func12 (code := codeOf Tryd.f12) (by kernel_rfl) vL12 mixed (LoOk.nil (by kernel_rfl)) fun x y h => (e12 x).trans (p12 _ x.1 x.2 y h)

/-- laws.heldLotS -/
def EL27 : Nat → Option Callee := env0
theorem vL27 : EnvOk Tryd.prog EL27 := EnvOk.nil
def slaws_heldLotS_l0 : LS := ⟨[(0, .one (.dat (.slice TLot))), (1, .one (.dat (.int .i64))), (5, .one (.dat (.int .i64)))], [], []⟩
def slaws_heldLotS_l0x0 : LS := ⟨[(4, .one (.dat (.int .i64)))], [], []⟩
def slaws_heldLotS_l0x1 : LS := ⟨[(1, .one (.dat (.int .i64)))], [], []⟩
def xlaws_heldLotS_l0 : List (XS (List DLot)) := [⟨.ret, ⟨[4], [], [], []⟩, slaws_heldLotS_l0x0, Int, fun i y => ((y, ()), ())⟩,
  ⟨.exit 0, ⟨[1], [], [], []⟩, slaws_heldLotS_l0x1, Int, fun i y => ((y, ()), ())⟩]
def laws_heldLotS_l0K {R : Type} (a0 : List DLot) (rc : Int → Int → Option R) (fin : (Int ⊕ Int) → Option R) (a1 : Int) (a2 : Int) : Option R :=
  cond (decide (a2 < (a0.length : Int)))
  ((lat a0 a2).bind fun e1 =>
    cond (e1.1 != a1)
    (fin (.inl (-1)))
    ((lat a0 a2).bind fun e2 =>
      cond (e2.2.1 != (IntKind.i64.wrap (a1 + 1)))
      (fin (.inl (-1)))
      (rc (IntKind.i64.wrap ((IntKind.i64.wrap (a1 + 1)) + 1)) (IntKind.i64.wrap (a2 + 1)))))
  (fin (.inr a1))
def laws_heldLotS_l0F (a0 : List DLot) (r : (Int × Int) → Option (Int ⊕ Int)) (x : Int × Int) : Option (Int ⊕ Int) := laws_heldLotS_l0K a0 (fun a1 a2 => r (a1, a2)) some x.1 x.2
theorem laws_heldLotS_l0c (a0 : List DLot) (x : Int × Int) : Ct fun r => laws_heldLotS_l0F a0 r x := by
  unfold laws_heldLotS_l0F laws_heldLotS_l0K
  repeat' (first | exact Ct.const | exact Ct.call | refine Ct.cond ?_ ?_ | refine Ct.bind ?_ fun _ => ?_ | refine Ct.sum (fun _ => ?_) fun _ => ?_)
def laws_heldLotS_l0 (a0 : List DLot) (a1 : Int) (a2 : Int) : Option (Int ⊕ Int) := lim (laws_heldLotS_l0F a0) (a1, a2)
theorem laws_heldLotS_l0_eq (a0 : List DLot) (a1 : Int) (a2 : Int) : laws_heldLotS_l0 a0 a1 a2 = laws_heldLotS_l0K a0 (laws_heldLotS_l0 a0) some a1 a2 := lim_eq (laws_heldLotS_l0c a0) (a1, a2)
theorem laws_heldLotS_l0p {R : Type} (a0 : List DLot) {rc : Int → Int → Option (Int ⊕ Int)} {rc' : Int → Int → Option R} {fin : (Int ⊕ Int) → Option R} (hr : ∀ a1 a2, Par fin (rc a1 a2) (rc' a1 a2)) (a1 : Int) (a2 : Int) : Par fin (laws_heldLotS_l0K a0 rc some a1 a2) (laws_heldLotS_l0K a0 rc' fin a1 a2) := by
  unfold laws_heldLotS_l0K
  repeat' (first | exact .fin | exact .none | exact hr _ _ | refine .cond ?_ ?_ | refine .bind fun _ => ?_ | refine .sum (fun _ => ?_) fun _ => ?_)
def Llaws_heldLotS_l0 : Loop := mkL ⟨[0, 1, 5], [], [], []⟩ slaws_heldLotS_l0 xlaws_heldLotS_l0 (fun (x : ((List DLot) × Int × Int × Unit) × (Unit)) => x.1.1) fun (x : ((List DLot) × Int × Int × Unit) × (Unit)) => laws_heldLotS_l0 x.1.1 x.1.2.1 x.1.2.2.1
def laws_heldLotSK {R : Type} (fin : Int → Option R) (x0 : List DLot) (x1 : Int) : Option R :=
  (laws_heldLotS_l0 x0 x1 0).bind fun y3 =>
  sumO y3 (fun y4 =>
  fin y4)
  (fun y5 =>
  fin y5)
def laws_heldLotS (x0 : List DLot) (x1 : Int) : Option (Int) := laws_heldLotSK some x0 x1
theorem p27 {R : Type} (fin : Int → Option R) (x0 : List DLot) (x1 : Int) : Par fin (laws_heldLotSK some x0 x1) (laws_heldLotSK fin x0 x1) := by
  unfold laws_heldLotSK
  repeat' (first | exact .fin | exact .none | refine .cond ?_ ?_ | refine .bind fun _ => ?_ | refine .sum (fun _ => ?_) fun _ => ?_)
def or27 : Ora := { lo := addL 2 (Llaws_heldLotS_l0) lo0, fin := [] }
theorem laws_heldLotS_l0e (a0 : List DLot) (k : Nat) (a1 : Int) (a2 : Int) : loopC Tryd.prog EL27 or27 ((loopsIn (codeOf Tryd.f27)).getD 0 .skip) (Llaws_heldLotS_l0).h (Llaws_heldLotS_l0).ho Tryd.f27.ntmps (k + 1) (slaws_heldLotS_l0.out ((a0, (a1, (a2, ()))), ())) =
    laws_heldLotS_l0K a0 (fun a1 a2 => loopC Tryd.prog EL27 or27 ((loopsIn (codeOf Tryd.f27)).getD 0 .skip) (Llaws_heldLotS_l0).h (Llaws_heldLotS_l0).ho Tryd.f27.ntmps k (slaws_heldLotS_l0.out ((a0, (a1, (a2, ()))), ()))) (fun y => some (XS.out xlaws_heldLotS_l0 a0 y)) a1 a2 := by kernel_rfl
theorem laws_heldLotS_l0o : LoopOk Tryd.prog EL27 or27 Tryd.f27.ntmps ((loopsIn (codeOf Tryd.f27)).getD 0 .skip) (Llaws_heldLotS_l0) :=
  loop_lim (hs := slaws_heldLotS_l0) (xs := xlaws_heldLotS_l0) (ι := fun (x : ((List DLot) × Int × Int × Unit) × (Unit)) => x.1.1) (φ := fun (x : ((List DLot) × Int × Int × Unit) × (Unit)) => (x.1.2.1, x.1.2.2.1)) (ψ := fun (i : List DLot) (v : Int × Int) => ((i, (v.1, (v.2, ()))), ())) (F := fun (i : List DLot) => laws_heldLotS_l0F i) (fun _ => rfl) fun i k hk v => Par.of_eq (laws_heldLotS_l0e i k v.1 v.2) (laws_heldLotS_l0p i (fun a1 a2 => hk (a1, a2)) v.1 v.2)
def c27 : Callee := mkC [.one (.ro (.slice TLot)), .one (.ro (.int .i64))] 1 [.one (.ro (.int .i64))] fun x => laws_heldLotS x.1 x.2
theorem e27 (x : PK.dens [.one (.ro (.slice TLot)), .one (.ro (.int .i64))]) : evalFn Tryd.prog EL27 or27 Tryd.f27 (PK.outs [.one (.ro (.slice TLot)), .one (.ro (.int .i64))] x) =
    laws_heldLotSK (fun y => some (tupOf ((PK.outs [.one (.ro (.int .i64))] y).take 1), (PK.outs [.one (.ro (.int .i64))] y).drop 1)) x.1 x.2 := by kernel_rfl
theorem o27 : LoOk Tryd.prog EL27 or27 Tryd.f27.ntmps (loopsIn (codeOf Tryd.f27)) :=
  LoOk.mk (m := 1) (by kernel_rfl) fun i hi => match i, hi with
    | 0, _ => ⟨Llaws_heldLotS_l0, by kernel_rfl, laws_heldLotS_l0o⟩
    | i + 1, hi => absurd hi (by omega)
theorem k27 : CalleeOk Tryd.prog 27 c27 := callee_mk Tryd.func27 (code := codeOf Tryd.f27) (by kernel_rfl) vL27 mixed o27 fun x y h => (e27 x).trans (p27 _ x.1 x.2 y h)

/-- laws.heldPile -/
def EL13 : Nat → Option Callee := addE 27 c27 env0
theorem vL13 : EnvOk Tryd.prog EL13 := EnvOk.nil.add Tryd.func27 rfl (by kernel_rfl) k27
def laws_heldPileK {R : Type} (fin : Int → Option R) (x0 : DPile) (x1 : Int) : Option R :=
  (laws_heldLotS x0.2.2.1 x1).bind fun y1 =>
  cond (decide (y1 < 0))
  (fin (-1))
  (fin y1)
def laws_heldPile (x0 : DPile) (x1 : Int) : Option (Int) := laws_heldPileK some x0 x1
theorem p13 {R : Type} (fin : Int → Option R) (x0 : DPile) (x1 : Int) : Par fin (laws_heldPileK some x0 x1) (laws_heldPileK fin x0 x1) := by
  unfold laws_heldPileK
  repeat' (first | exact .fin | exact .none | refine .cond ?_ ?_ | refine .bind fun _ => ?_ | refine .sum (fun _ => ?_) fun _ => ?_)
def c13 : Callee := mkC [.agg [.ro TPile], .one (.ro (.int .i64))] 1 [.one (.ro (.int .i64))] fun x => laws_heldPile x.1 x.2
theorem e13 (x : PK.dens [.agg [.ro TPile], .one (.ro (.int .i64))]) : evalFn Tryd.prog EL13 or0 Tryd.f13 (PK.outs [.agg [.ro TPile], .one (.ro (.int .i64))] x) =
    laws_heldPileK (fun y => some (tupOf ((PK.outs [.one (.ro (.int .i64))] y).take 1), (PK.outs [.one (.ro (.int .i64))] y).drop 1)) x.1 x.2 := by kernel_rfl
theorem k13 : CalleeOk Tryd.prog 13 c13 := callee_mk Tryd.func13 (code := codeOf Tryd.f13) (by kernel_rfl) vL13 mixed (LoOk.nil (by kernel_rfl)) fun x y h => (e13 x).trans (p13 _ x.1 x.2 y h)

/-- laws.FnExactParsePile -/
def EL4 : Nat → Option Callee := addE 13 c13 (addE 12 c12 (addE 9 c9 (addE 11 c11 (addE 10 c10 env0))))
theorem vL4 : EnvOk Tryd.prog EL4 := ((((EnvOk.nil.add Tryd.func10 rfl (by kernel_rfl) k10).add Tryd.func11 rfl (by kernel_rfl) k11).add Tryd.func9 rfl (by kernel_rfl) k9).add Tryd.func12 rfl (by kernel_rfl) k12).add Tryd.func13 rfl (by kernel_rfl) k13
def laws_FnExactParsePileK {R : Type} (fin : Bool → Option R) (x0 : ByteArray) : Option R :=
  cond (decide ((x0.size : Int) > 1048576))
  (fin true)
  ((spec_ParsePile x0).bind fun y1 =>
    (impl_ParsePile x0).bind fun y2 =>
    (laws_eqPile (y2.1.1, (y2.1.2.1, (y2.1.2.2, ()))) (y1.1.1, (y1.1.2.1, (y1.1.2.2, ())))).bind fun y3 =>
    cond (!y3)
    (fin false)
    (cond (!(y2.2 == y1.2))
      (fin false)
      ((laws_markPile y2.1 1).bind fun y4 =>
        (laws_heldPile (y2.1.1, (y2.1.2.1, (y4.2.2.2, ()))) 1).bind fun y5 =>
        cond (decide (y5 < 0))
        (fin false)
        (cond (y5 != y4.1)
          (fin false)
          ((impl_ParsePile x0).bind fun y6 =>
            (laws_eqPile (y6.1.1, (y6.1.2.1, (y6.1.2.2, ()))) (y1.1.1, (y1.1.2.1, (y1.1.2.2, ())))).bind fun y7 =>
            cond (!y7)
            (fin false)
            (cond (!(y6.2 == y1.2))
              (fin false)
              ((laws_heldPile (y2.1.1, (y2.1.2.1, (y4.2.2.2, ()))) 1).bind fun y8 =>
                cond (decide (y8 < 0))
                (fin false)
                (cond (y8 != y4.1)
                  (fin false)
                  (fin true)))))))))
def laws_FnExactParsePile (x0 : ByteArray) : Option (Bool) := laws_FnExactParsePileK some x0
theorem p4 {R : Type} (fin : Bool → Option R) (x0 : ByteArray) : Par fin (laws_FnExactParsePileK some x0) (laws_FnExactParsePileK fin x0) := by
  unfold laws_FnExactParsePileK
  repeat' (first | exact .fin | exact .none | refine .cond ?_ ?_ | refine .bind fun _ => ?_ | refine .sum (fun _ => ?_) fun _ => ?_)
def c4 : Callee := mkC [.one (.ro .str)] 1 [.one (.ro .bool)] fun x => laws_FnExactParsePile x
theorem e4 (x : PK.dens [.one (.ro .str)]) : evalFn Tryd.prog EL4 or0 Tryd.f4 (PK.outs [.one (.ro .str)] x) =
    laws_FnExactParsePileK (fun y => some (tupOf ((PK.outs [.one (.ro .bool)] y).take 1), (PK.outs [.one (.ro .bool)] y).drop 1)) x := by kernel_rfl
theorem k4 : CalleeOk Tryd.prog 4 c4 := callee_mk Tryd.func4 (code := codeOf Tryd.f4) (by kernel_rfl) vL4 mixed (LoOk.nil (by kernel_rfl)) fun x y h => (e4 x).trans (p4 _ x y h)
end
end Go.OAI

