/- Contracts. -/
import Derived.Test.YthjlfdaajdlboaaDoorK3
import Derived.Test.YthjlfdaajdlboaaDoorProg
import Derived.Test.YthjlfdaajdlboaaDoorKL
namespace Go.OAI
open Go.Proofs
set_option linter.unusedVariables false
noncomputable section

@[reducible] def TLot : Ty := .pair (.int .i64) (.pair (.int .i64) .unit)
abbrev DLot : Type := Int × Int × Unit
@[reducible] def TPile : Ty := .pair .bool (.pair (.int .i64) (.pair (.slice TLot) .unit))
abbrev DPile : Type := Bool × Int × (List DLot) × Unit
def or0 : Ora := { lo := fun _ => none }
theorem mixed : Tryd.prog.follows .mixedOrders = true := by kernel_rfl

/-- laws.szLotS -/
def EL14 : Nat → Option Callee := env0
theorem vL14 : EnvOk Tryd.prog EL14 := EnvOk.nil
def laws_szLotSK {R : Type} (fin : Int → Option R) (x0 : List DLot) (x1 : Int) : Option R :=
  cond (decide ((IntKind.i64.wrap (x1 - (x0.length : Int))) < 0))
  (fin (-1))
  (fin (IntKind.i64.wrap (x1 - (x0.length : Int))))
def laws_szLotS (x0 : List DLot) (x1 : Int) : Option (Int) := laws_szLotSK some x0 x1
theorem p14 {R : Type} (fin : Int → Option R) (x0 : List DLot) (x1 : Int) : Par fin (laws_szLotSK some x0 x1) (laws_szLotSK fin x0 x1) := by
  unfold laws_szLotSK
  repeat' (first | exact .fin | exact .none | refine .cond ?_ ?_ | refine .bind fun _ => ?_ | refine .sum (fun _ => ?_) fun _ => ?_)
def c14 : Callee := mkC [.one (.ro (.slice TLot)), .one (.ro (.int .i64))] 1 [.one (.ro (.int .i64))] fun x => laws_szLotS x.1 x.2
theorem e14 (x : PK.dens [.one (.ro (.slice TLot)), .one (.ro (.int .i64))]) : evalFn Tryd.prog EL14 or0 Tryd.f14 (PK.outs [.one (.ro (.slice TLot)), .one (.ro (.int .i64))] x) =
    laws_szLotSK (fun y => some (tupOf ((PK.outs [.one (.ro (.int .i64))] y).take 1), (PK.outs [.one (.ro (.int .i64))] y).drop 1)) x.1 x.2 := by kernel_rfl
theorem k14 : CalleeOk Tryd.prog 14 c14 := callee_mk Tryd.func14 (code := codeOf Tryd.f14) (by kernel_rfl) vL14 mixed (LoOk.nil (by kernel_rfl)) fun x y h => (e14 x).trans (p14 _ x.1 x.2 y h)

/-- laws.szPile -/
def EL5 : Nat → Option Callee := addE 14 c14 env0
theorem vL5 : EnvOk Tryd.prog EL5 := EnvOk.nil.add Tryd.func14 rfl (by kernel_rfl) k14
def laws_szPileK {R : Type} (fin : Int → Option R) (x0 : DPile) (x1 : Int) : Option R :=
  (laws_szLotS x0.2.2.1 x1).bind fun y1 =>
  cond (decide (y1 < 0))
  (fin (-1))
  (fin y1)
def laws_szPile (x0 : DPile) (x1 : Int) : Option (Int) := laws_szPileK some x0 x1
theorem p5 {R : Type} (fin : Int → Option R) (x0 : DPile) (x1 : Int) : Par fin (laws_szPileK some x0 x1) (laws_szPileK fin x0 x1) := by
  unfold laws_szPileK
  repeat' (first | exact .fin | exact .none | refine .cond ?_ ?_ | refine .bind fun _ => ?_ | refine .sum (fun _ => ?_) fun _ => ?_)
def c5 : Callee := mkC [.agg [.ro TPile], .one (.ro (.int .i64))] 1 [.one (.ro (.int .i64))] fun x => laws_szPile x.1 x.2
theorem e5 (x : PK.dens [.agg [.ro TPile], .one (.ro (.int .i64))]) : evalFn Tryd.prog EL5 or0 Tryd.f5 (PK.outs [.agg [.ro TPile], .one (.ro (.int .i64))] x) =
    laws_szPileK (fun y => some (tupOf ((PK.outs [.one (.ro (.int .i64))] y).take 1), (PK.outs [.one (.ro (.int .i64))] y).drop 1)) x.1 x.2 := by kernel_rfl
theorem k5 : CalleeOk Tryd.prog 5 c5 := callee_mk Tryd.func5 (code := codeOf Tryd.f5) (by kernel_rfl) vL5 mixed (LoOk.nil (by kernel_rfl)) fun x y h => (e5 x).trans (p5 _ x.1 x.2 y h)

/-- laws.toLot -/
def EL32 : Nat → Option Callee := env0
theorem vL32 : EnvOk Tryd.prog EL32 := EnvOk.nil
def laws_toLotK {R : Type} (fin : DLot → Option R) (x0 : DLot) : Option R :=
  fin x0
def laws_toLot (x0 : DLot) : Option (DLot) := laws_toLotK some x0
theorem p32 {R : Type} (fin : DLot → Option R) (x0 : DLot) : Par fin (laws_toLotK some x0) (laws_toLotK fin x0) := by
  unfold laws_toLotK
  repeat' (first | exact .fin | exact .none | refine .cond ?_ ?_ | refine .bind fun _ => ?_ | refine .sum (fun _ => ?_) fun _ => ?_)
def c32 : Callee := mkC [.agg [.ro TLot]] 1 [.agg [.ro TLot]] fun x => laws_toLot x
theorem e32 (x : PK.dens [.agg [.ro TLot]]) : evalFn Tryd.prog EL32 or0 Tryd.f32 (PK.outs [.agg [.ro TLot]] x) =
    laws_toLotK (fun y => some (tupOf ((PK.outs [.agg [.ro TLot]] y).take 1), (PK.outs [.agg [.ro TLot]] y).drop 1)) x := by kernel_rfl
theorem k32 : CalleeOk Tryd.prog 32 c32 := callee_mk Tryd.func32 (code := codeOf Tryd.f32) (by kernel_rfl) vL32 mixed (LoOk.nil (by kernel_rfl)) fun x y h => (e32 x).trans (p32 _ x y h)

/-- laws.toLotS -/
def EL17 : Nat → Option Callee := addE 32 c32 env0
theorem vL17 : EnvOk Tryd.prog EL17 := EnvOk.nil.add Tryd.func32 rfl (by kernel_rfl) k32
def slaws_toLotS_l0 : LS := ⟨[(0, .one (.dat (.slice TLot))), (3, .one (.fix (.sref 0))), (4, .one (.dat (.int .i64)))], [.sl TLot], []⟩
def slaws_toLotS_l0x0 : LS := ⟨[(3, .one (.fix (.sref 0)))], [.sl TLot], []⟩
def xlaws_toLotS_l0 : List (XS (List DLot)) := [⟨.exit 0, ⟨[3], [.slot 3], [], []⟩, slaws_toLotS_l0x0, List DLot, fun i y => (((), ()), (y, ()))⟩]
def laws_toLotS_l0K {R : Type} (a0 : List DLot) (rc : Int → List DLot → Option R) (fin : List DLot → Option R) (a1 : Int) (a2 : List DLot) : Option R :=
  cond (decide (a1 < (a0.length : Int)))
  ((lat a0 a1).bind fun e1 =>
    (laws_toLot e1).bind fun y2 =>
    cond (decide ((0 : Int) ≤ a1) && decide (a1 < (a2.length : Int)))
    ((some (a2.set (0 + a1.toNat) y2)).bind fun v3 =>
      rc (IntKind.i64.wrap (a1 + 1)) v3)
    (none))
  (fin a2)
def laws_toLotS_l0F (a0 : List DLot) (r : (Int × (List DLot)) → Option (List DLot)) (x : Int × (List DLot)) : Option (List DLot) := laws_toLotS_l0K a0 (fun a1 a2 => r (a1, a2)) some x.1 x.2
theorem laws_toLotS_l0c (a0 : List DLot) (x : Int × (List DLot)) : Ct fun r => laws_toLotS_l0F a0 r x := by
  unfold laws_toLotS_l0F laws_toLotS_l0K
  repeat' (first | exact Ct.const | exact Ct.call | refine Ct.cond ?_ ?_ | refine Ct.bind ?_ fun _ => ?_ | refine Ct.sum (fun _ => ?_) fun _ => ?_)
def laws_toLotS_l0 (a0 : List DLot) (a1 : Int) (a2 : List DLot) : Option (List DLot) := lim (laws_toLotS_l0F a0) (a1, a2)
theorem laws_toLotS_l0_eq (a0 : List DLot) (a1 : Int) (a2 : List DLot) : laws_toLotS_l0 a0 a1 a2 = laws_toLotS_l0K a0 (laws_toLotS_l0 a0) some a1 a2 := lim_eq (laws_toLotS_l0c a0) (a1, a2)
theorem laws_toLotS_l0p {R : Type} (a0 : List DLot) {rc : Int → List DLot → Option (List DLot)} {rc' : Int → List DLot → Option R} {fin : List DLot → Option R} (hr : ∀ a1 a2, Par fin (rc a1 a2) (rc' a1 a2)) (a1 : Int) (a2 : List DLot) : Par fin (laws_toLotS_l0K a0 rc some a1 a2) (laws_toLotS_l0K a0 rc' fin a1 a2) := by
  unfold laws_toLotS_l0K
  repeat' (first | exact .fin | exact .none | exact hr _ _ | refine .cond ?_ ?_ | refine .bind fun _ => ?_ | refine .sum (fun _ => ?_) fun _ => ?_)
def Llaws_toLotS_l0 : Loop := mkL ⟨[0, 3, 4], [.slot 3], [], []⟩ slaws_toLotS_l0 xlaws_toLotS_l0 (fun (x : ((List DLot) × Unit × Int × Unit) × ((List DLot) × Unit)) => x.1.1) fun (x : ((List DLot) × Unit × Int × Unit) × ((List DLot) × Unit)) => laws_toLotS_l0 x.1.1 x.1.2.2.1 x.2.1
def laws_toLotSK {R : Type} (fin : List DLot → Option R) (x0 : List DLot) : Option R :=
  cond (decide ((0 : Int) ≤ (x0.length : Int)) && (decide ((x0.length : Int) ≤ (x0.length : Int)) && decide ((x0.length : Int) ≤ 1099511627776)))
  ((some ((List.replicate ((x0.length : Int).toNat) (0, (0, ())) : List DLot))).bind fun v1 =>
    (laws_toLotS_l0 x0 0 v1).bind fun y5 =>
    fin y5)
  (none)
def laws_toLotS (x0 : List DLot) : Option (List DLot) := laws_toLotSK some x0
theorem p17 {R : Type} (fin : List DLot → Option R) (x0 : List DLot) : Par fin (laws_toLotSK some x0) (laws_toLotSK fin x0) := by
  unfold laws_toLotSK
  repeat' (first | exact .fin | exact .none | refine .cond ?_ ?_ | refine .bind fun _ => ?_ | refine .sum (fun _ => ?_) fun _ => ?_)
def or17 : Ora := { lo := addL 3 (Llaws_toLotS_l0) lo0, fin := [] }
theorem laws_toLotS_l0e (a0 : List DLot) (k : Nat) (a1 : Int) (a2 : List DLot) : loopC Tryd.prog EL17 or17 ((loopsIn (codeOf Tryd.f17)).getD 0 .skip) (Llaws_toLotS_l0).h (Llaws_toLotS_l0).ho Tryd.f17.ntmps (k + 1) (slaws_toLotS_l0.out ((a0, ((), (a1, ()))), (a2, ()))) =
    laws_toLotS_l0K a0 (fun a1 a2 => loopC Tryd.prog EL17 or17 ((loopsIn (codeOf Tryd.f17)).getD 0 .skip) (Llaws_toLotS_l0).h (Llaws_toLotS_l0).ho Tryd.f17.ntmps k (slaws_toLotS_l0.out ((a0, ((), (a1, ()))), (a2, ())))) (fun y => some (XS.out xlaws_toLotS_l0 a0 y)) a1 a2 := by kernel_rfl
theorem laws_toLotS_l0o : LoopOk Tryd.prog EL17 or17 Tryd.f17.ntmps ((loopsIn (codeOf Tryd.f17)).getD 0 .skip) (Llaws_toLotS_l0) :=
  loop_lim (hs := slaws_toLotS_l0) (xs := xlaws_toLotS_l0) (ι := fun (x : ((List DLot) × Unit × Int × Unit) × ((List DLot) × Unit)) => x.1.1) (φ := fun (x : ((List DLot) × Unit × Int × Unit) × ((List DLot) × Unit)) => (x.1.2.2.1, x.2.1)) (ψ := fun (i : List DLot) (v : Int × (List DLot)) => ((i, ((), (v.1, ()))), (v.2, ()))) (F := fun (i : List DLot) => laws_toLotS_l0F i) (fun _ => rfl) fun i k hk v => Par.of_eq (laws_toLotS_l0e i k v.1 v.2) (laws_toLotS_l0p i (fun a1 a2 => hk (a1, a2)) v.1 v.2)
def c17 : Callee := mkC [.one (.ro (.slice TLot))] 1 [.one (.sl TLot)] fun x => laws_toLotS x
theorem e17 (x : PK.dens [.one (.ro (.slice TLot))]) : evalFn Tryd.prog EL17 or17 Tryd.f17 (PK.outs [.one (.ro (.slice TLot))] x) =
    laws_toLotSK (fun y => some (tupOf ((PK.outs [.one (.sl TLot)] y).take 1), (PK.outs [.one (.sl TLot)] y).drop 1)) x := by kernel_rfl
theorem o17 : LoOk Tryd.prog EL17 or17 Tryd.f17.ntmps (loopsIn (codeOf Tryd.f17)) :=
  LoOk.mk (m := 1) (by kernel_rfl) fun i hi => match i, hi with
    | 0, _ => ⟨Llaws_toLotS_l0, by kernel_rfl, laws_toLotS_l0o⟩
    | i + 1, hi => absurd hi (by omega)
theorem k17 : CalleeOk Tryd.prog 17 c17 := callee_mk Tryd.func17 (code := codeOf Tryd.f17) (by kernel_rfl) vL17 mixed o17 fun x y h => (e17 x).trans (p17 _ x y h)

/-- laws.toPile -/
def EL7 : Nat → Option Callee := addE 17 c17 env0
theorem vL7 : EnvOk Tryd.prog EL7 := EnvOk.nil.add Tryd.func17 rfl (by kernel_rfl) k17
def laws_toPileK {R : Type} (fin : Bool × Int × (List DLot) → Option R) (x0 : DPile) : Option R :=
  (laws_toLotS x0.2.2.1).bind fun y1 =>
  fin (x0.1, (x0.2.1, y1))
def laws_toPile (x0 : DPile) : Option (Bool × Int × (List DLot)) := laws_toPileK some x0
theorem p7 {R : Type} (fin : Bool × Int × (List DLot) → Option R) (x0 : DPile) : Par fin (laws_toPileK some x0) (laws_toPileK fin x0) := by
  unfold laws_toPileK
  repeat' (first | exact .fin | exact .none | refine .cond ?_ ?_ | refine .bind fun _ => ?_ | refine .sum (fun _ => ?_) fun _ => ?_)
def c7 : Callee := mkC [.agg [.ro TPile]] 1 [.agg [.ro .bool, .ro (.int .i64), .sl TLot]] fun x => laws_toPile x
theorem e7 (x : PK.dens [.agg [.ro TPile]]) : evalFn Tryd.prog EL7 or0 Tryd.f7 (PK.outs [.agg [.ro TPile]] x) =
    laws_toPileK (fun y => some (tupOf ((PK.outs [.agg [.ro .bool, .ro (.int .i64), .sl TLot]] y).take 1), (PK.outs [.agg [.ro .bool, .ro (.int .i64), .sl TLot]] y).drop 1)) x := by kernel_rfl
theorem k7 : CalleeOk Tryd.prog 7 c7 := callee_mk Tryd.func7 (code := codeOf Tryd.f7) (by kernel_rfl) vL7 mixed (LoOk.nil (by kernel_rfl)) fun x y h => (e7 x).trans (p7 _ x y h)

/-- spec.l1In -/
def EL30 : Nat → Option Callee := env0
theorem vL30 : EnvOk Tryd.prog EL30 := EnvOk.nil
def spec_l1InK {R : Type} (fin : Bool → Option R) (x0 : Int) (x1 : Int) (x2 : Int) : Option R :=
  cond (decide (x0 ≥ x1))
  (fin (decide (x0 ≤ x2)))
  (fin false)
def spec_l1In (x0 : Int) (x1 : Int) (x2 : Int) : Option (Bool) := spec_l1InK some x0 x1 x2
theorem p30 {R : Type} (fin : Bool → Option R) (x0 : Int) (x1 : Int) (x2 : Int) : Par fin (spec_l1InK some x0 x1 x2) (spec_l1InK fin x0 x1 x2) := by
  unfold spec_l1InK
  repeat' (first | exact .fin | exact .none | refine .cond ?_ ?_ | refine .bind fun _ => ?_ | refine .sum (fun _ => ?_) fun _ => ?_)
def c30 : Callee := mkC [.one (.ro (.int .i64)), .one (.ro (.int .i64)), .one (.ro (.int .i64))] 1 [.one (.ro .bool)] fun x => spec_l1In x.1 x.2.1 x.2.2
theorem e30 (x : PK.dens [.one (.ro (.int .i64)), .one (.ro (.int .i64)), .one (.ro (.int .i64))]) : evalFn Tryd.prog EL30 or0 Tryd.f30 (PK.outs [.one (.ro (.int .i64)), .one (.ro (.int .i64)), .one (.ro (.int .i64))] x) =
    spec_l1InK (fun y => some (tupOf ((PK.outs [.one (.ro .bool)] y).take 1), (PK.outs [.one (.ro .bool)] y).drop 1)) x.1 x.2.1 x.2.2 := by kernel_rfl
theorem k30 : CalleeOk Tryd.prog 30 c30 := callee_mk Tryd.func30 (code := codeOf Tryd.f30) (by kernel_rfl) vL30 mixed (LoOk.nil (by kernel_rfl)) fun x y h => (e30 x).trans (p30 _ x.1 x.2.1 x.2.2 y h)

/-- spec.spLot -/
def EL28 : Nat → Option Callee := addE 30 c30 env0
theorem vL28 : EnvOk Tryd.prog EL28 := EnvOk.nil.add Tryd.func30 rfl (by kernel_rfl) k30
def spec_spLotK {R : Type} (fin : Bool → Option R) (x0 : DLot) : Option R :=
  (spec_l1In x0.1 1 1000000).bind fun y1 =>
  cond (y1)
  ((spec_l1In x0.2.1 0 (IntKind.i64.wrap (1000 * x0.1))).bind fun y2 =>
    fin y2)
  (fin false)
def spec_spLot (x0 : DLot) : Option (Bool) := spec_spLotK some x0
theorem p28 {R : Type} (fin : Bool → Option R) (x0 : DLot) : Par fin (spec_spLotK some x0) (spec_spLotK fin x0) := by
  unfold spec_spLotK
  repeat' (first | exact .fin | exact .none | refine .cond ?_ ?_ | refine .bind fun _ => ?_ | refine .sum (fun _ => ?_) fun _ => ?_)
def c28 : Callee := mkC [.agg [.ro TLot]] 1 [.one (.ro .bool)] fun x => spec_spLot x
theorem e28 (x : PK.dens [.agg [.ro TLot]]) : evalFn Tryd.prog EL28 or0 Tryd.f28 (PK.outs [.agg [.ro TLot]] x) =
    spec_spLotK (fun y => some (tupOf ((PK.outs [.one (.ro .bool)] y).take 1), (PK.outs [.one (.ro .bool)] y).drop 1)) x := by kernel_rfl
theorem k28 : CalleeOk Tryd.prog 28 c28 := callee_mk Tryd.func28 (code := codeOf Tryd.f28) (by kernel_rfl) vL28 mixed (LoOk.nil (by kernel_rfl)) fun x y h => (e28 x).trans (p28 _ x y h)

/-- spec.spSums -/
def EL29 : Nat → Option Callee := env0
theorem vL29 : EnvOk Tryd.prog EL29 := EnvOk.nil
def sspec_spSums_l0 : LS := ⟨[(4, .one (.dat (.int .i64))), (5, .one (.dat (.int .i64))), (8, .one (.dat (.slice TLot))), (9, .one (.dat (.int .i64))), (10, .one (.dat (.int .i64)))], [], []⟩
def sspec_spSums_l0x0 : LS := ⟨[(4, .one (.dat (.int .i64))), (5, .one (.dat (.int .i64)))], [], []⟩
def xspec_spSums_l0 : List (XS ((List DLot) × Int)) := [⟨.exit 0, ⟨[4, 5], [], [], []⟩, sspec_spSums_l0x0, Int × Int, fun i y => ((y.1, (y.2, ())), ())⟩]
def spec_spSums_l0K {R : Type} (a2 : List DLot) (a3 : Int) (rc : Int → Int → Int → Option R) (fin : Int × Int → Option R) (a0 : Int) (a1 : Int) (a4 : Int) : Option R :=
  cond (decide (a4 < a3))
  ((lat a2 a4).bind fun e1 =>
    rc (IntKind.i64.wrap (a0 + e1.1)) (IntKind.i64.wrap (a1 + e1.2.1)) (IntKind.i64.wrap (a4 + 1)))
  (fin (a0, a1))
def spec_spSums_l0F (a2 : List DLot) (a3 : Int) (r : (Int × Int × Int) → Option (Int × Int)) (x : Int × Int × Int) : Option (Int × Int) := spec_spSums_l0K a2 a3 (fun a0 a1 a4 => r (a0, (a1, a4))) some x.1 x.2.1 x.2.2
theorem spec_spSums_l0c (a2 : List DLot) (a3 : Int) (x : Int × Int × Int) : Ct fun r => spec_spSums_l0F a2 a3 r x := by
  unfold spec_spSums_l0F spec_spSums_l0K
  repeat' (first | exact Ct.const | exact Ct.call | refine Ct.cond ?_ ?_ | refine Ct.bind ?_ fun _ => ?_ | refine Ct.sum (fun _ => ?_) fun _ => ?_)
def spec_spSums_l0 (a2 : List DLot) (a3 : Int) (a0 : Int) (a1 : Int) (a4 : Int) : Option (Int × Int) := lim (spec_spSums_l0F a2 a3) (a0, (a1, a4))
theorem spec_spSums_l0_eq (a2 : List DLot) (a3 : Int) (a0 : Int) (a1 : Int) (a4 : Int) : spec_spSums_l0 a2 a3 a0 a1 a4 = spec_spSums_l0K a2 a3 (spec_spSums_l0 a2 a3) some a0 a1 a4 := lim_eq (spec_spSums_l0c a2 a3) (a0, (a1, a4))
theorem spec_spSums_l0p {R : Type} (a2 : List DLot) (a3 : Int) {rc : Int → Int → Int → Option (Int × Int)} {rc' : Int → Int → Int → Option R} {fin : Int × Int → Option R} (hr : ∀ a0 a1 a4, Par fin (rc a0 a1 a4) (rc' a0 a1 a4)) (a0 : Int) (a1 : Int) (a4 : Int) : Par fin (spec_spSums_l0K a2 a3 rc some a0 a1 a4) (spec_spSums_l0K a2 a3 rc' fin a0 a1 a4) := by
  unfold spec_spSums_l0K
  repeat' (first | exact .fin | exact .none | exact hr _ _ _ | refine .cond ?_ ?_ | refine .bind fun _ => ?_ | refine .sum (fun _ => ?_) fun _ => ?_)
def Lspec_spSums_l0 : Loop := mkL ⟨[4, 5, 8, 9, 10], [], [], []⟩ sspec_spSums_l0 xspec_spSums_l0 (fun (x : (Int × Int × (List DLot) × Int × Int × Unit) × (Unit)) => (x.1.2.2.1, x.1.2.2.2.1)) fun (x : (Int × Int × (List DLot) × Int × Int × Unit) × (Unit)) => spec_spSums_l0 x.1.2.2.1 x.1.2.2.2.1 x.1.1 x.1.2.1 x.1.2.2.2.2.1
def spec_spSumsK {R : Type} (fin : Int × Int → Option R) (x0 : List DLot) : Option R :=
  (spec_spSums_l0 x0 (x0.length : Int) 0 0 0).bind fun y2 =>
  fin y2
def spec_spSums (x0 : List DLot) : Option (Int × Int) := spec_spSumsK some x0
theorem p29 {R : Type} (fin : Int × Int → Option R) (x0 : List DLot) : Par fin (spec_spSumsK some x0) (spec_spSumsK fin x0) := by
  unfold spec_spSumsK
  repeat' (first | exact .fin | exact .none | refine .cond ?_ ?_ | refine .bind fun _ => ?_ | refine .sum (fun _ => ?_) fun _ => ?_)
def or29 : Ora := { lo := addL 3 (Lspec_spSums_l0) lo0, fin := [] }
theorem spec_spSums_l0e (a2 : List DLot) (a3 : Int) (k : Nat) (a0 : Int) (a1 : Int) (a4 : Int) : loopC Tryd.prog EL29 or29 ((loopsIn (codeOf Tryd.f29)).getD 0 .skip) (Lspec_spSums_l0).h (Lspec_spSums_l0).ho Tryd.f29.ntmps (k + 1) (sspec_spSums_l0.out ((a0, (a1, (a2, (a3, (a4, ()))))), ())) =
    spec_spSums_l0K a2 a3 (fun a0 a1 a4 => loopC Tryd.prog EL29 or29 ((loopsIn (codeOf Tryd.f29)).getD 0 .skip) (Lspec_spSums_l0).h (Lspec_spSums_l0).ho Tryd.f29.ntmps k (sspec_spSums_l0.out ((a0, (a1, (a2, (a3, (a4, ()))))), ()))) (fun y => some (XS.out xspec_spSums_l0 (a2, a3) y)) a0 a1 a4 := by kernel_rfl
theorem spec_spSums_l0o : LoopOk Tryd.prog EL29 or29 Tryd.f29.ntmps ((loopsIn (codeOf Tryd.f29)).getD 0 .skip) (Lspec_spSums_l0) :=
  loop_lim (hs := sspec_spSums_l0) (xs := xspec_spSums_l0) (ι := fun (x : (Int × Int × (List DLot) × Int × Int × Unit) × (Unit)) => (x.1.2.2.1, x.1.2.2.2.1)) (φ := fun (x : (Int × Int × (List DLot) × Int × Int × Unit) × (Unit)) => (x.1.1, (x.1.2.1, x.1.2.2.2.2.1))) (ψ := fun (i : (List DLot) × Int) (v : Int × Int × Int) => ((v.1, (v.2.1, (i.1, (i.2, (v.2.2, ()))))), ())) (F := fun (i : (List DLot) × Int) => spec_spSums_l0F i.1 i.2) (fun _ => rfl) fun i k hk v => Par.of_eq (spec_spSums_l0e i.1 i.2 k v.1 v.2.1 v.2.2) (spec_spSums_l0p i.1 i.2 (fun a0 a1 a4 => hk (a0, (a1, a4))) v.1 v.2.1 v.2.2)
def c29 : Callee := mkC [.one (.ro (.slice TLot))] 2 [.one (.ro (.int .i64)), .one (.ro (.int .i64))] fun x => spec_spSums x
theorem e29 (x : PK.dens [.one (.ro (.slice TLot))]) : evalFn Tryd.prog EL29 or29 Tryd.f29 (PK.outs [.one (.ro (.slice TLot))] x) =
    spec_spSumsK (fun y => some (tupOf ((PK.outs [.one (.ro (.int .i64)), .one (.ro (.int .i64))] y).take 2), (PK.outs [.one (.ro (.int .i64)), .one (.ro (.int .i64))] y).drop 2)) x := by kernel_rfl
theorem o29 : LoOk Tryd.prog EL29 or29 Tryd.f29.ntmps (loopsIn (codeOf Tryd.f29)) :=
  LoOk.mk (m := 1) (by kernel_rfl) fun i hi => match i, hi with
    | 0, _ => ⟨Lspec_spSums_l0, by kernel_rfl, spec_spSums_l0o⟩
    | i + 1, hi => absurd hi (by omega)
theorem k29 : CalleeOk Tryd.prog 29 c29 := callee_mk Tryd.func29 (code := codeOf Tryd.f29) (by kernel_rfl) vL29 mixed o29 fun x y h => (e29 x).trans (p29 _ x y h)

/-- spec.spGood -/
def EL15 : Nat → Option Callee := addE 30 c30 (addE 29 c29 (addE 28 c28 env0))
theorem vL15 : EnvOk Tryd.prog EL15 := ((EnvOk.nil.add Tryd.func28 rfl (by kernel_rfl) k28).add Tryd.func29 rfl (by kernel_rfl) k29).add Tryd.func30 rfl (by kernel_rfl) k30
def sspec_spGood_l0 : LS := ⟨[(1, .one (.fix (.ptr 0 0))), (8, .one (.dat (.slice TLot))), (9, .one (.dat (.int .i64))), (10, .one (.dat (.int .i64)))], [.box [.dat .bool, .dat (.int .i64), .dat (.slice TLot)]], []⟩
def sspec_spGood_l0x0 : LS := ⟨[(2, .one (.dat .bool))], [], []⟩
def sspec_spGood_l0x1 : LS := ⟨[(1, .one (.fix (.ptr 0 0)))], [.box [.dat .bool, .dat (.int .i64), .dat (.slice TLot)]], []⟩
def xspec_spGood_l0 : List (XS ((List DLot) × Int × Bool × Int × (List DLot))) := [⟨.ret, ⟨[2], [], [], []⟩, sspec_spGood_l0x0, Bool, fun i y => ((y, ()), ())⟩,
  ⟨.exit 0, ⟨[1], [.slot 1], [], []⟩, sspec_spGood_l0x1, Unit, fun i y => (((), ()), ((i.2.2.1, (i.2.2.2.1, (i.2.2.2.2, ()))), ()))⟩]
def spec_spGood_l0K {R : Type} (a0 : List DLot) (a1 : Int) (rc : Int → Option R) (fin : (Bool ⊕ Unit) → Option R) (a2 : Int) : Option R :=
  cond (decide (a2 < a1))
  ((lat a0 a2).bind fun e1 =>
    (spec_spLot e1).bind fun y2 =>
    cond (!y2)
    (fin (.inl false))
    (rc (IntKind.i64.wrap (a2 + 1))))
  (fin (.inr ()))
def spec_spGood_l0F (a0 : List DLot) (a1 : Int) (r : Int → Option (Bool ⊕ Unit)) (x : Int) : Option (Bool ⊕ Unit) := spec_spGood_l0K a0 a1 (fun a2 => r a2) some x
theorem spec_spGood_l0c (a0 : List DLot) (a1 : Int) (x : Int) : Ct fun r => spec_spGood_l0F a0 a1 r x := by
  unfold spec_spGood_l0F spec_spGood_l0K
  repeat' (first | exact Ct.const | exact Ct.call | refine Ct.cond ?_ ?_ | refine Ct.bind ?_ fun _ => ?_ | refine Ct.sum (fun _ => ?_) fun _ => ?_)
def spec_spGood_l0 (a0 : List DLot) (a1 : Int) (a2 : Int) : Option (Bool ⊕ Unit) := lim (spec_spGood_l0F a0 a1) a2
theorem spec_spGood_l0_eq (a0 : List DLot) (a1 : Int) (a2 : Int) : spec_spGood_l0 a0 a1 a2 = spec_spGood_l0K a0 a1 (spec_spGood_l0 a0 a1) some a2 := lim_eq (spec_spGood_l0c a0 a1) a2
theorem spec_spGood_l0p {R : Type} (a0 : List DLot) (a1 : Int) {rc : Int → Option (Bool ⊕ Unit)} {rc' : Int → Option R} {fin : (Bool ⊕ Unit) → Option R} (hr : ∀ a2, Par fin (rc a2) (rc' a2)) (a2 : Int) : Par fin (spec_spGood_l0K a0 a1 rc some a2) (spec_spGood_l0K a0 a1 rc' fin a2) := by
  unfold spec_spGood_l0K
  repeat' (first | exact .fin | exact .none | exact hr _ | refine .cond ?_ ?_ | refine .bind fun _ => ?_ | refine .sum (fun _ => ?_) fun _ => ?_)
def Lspec_spGood_l0 : Loop := mkL ⟨[1, 8, 9, 10], [.slot 1], [], []⟩ sspec_spGood_l0 xspec_spGood_l0 (fun (x : (Unit × (List DLot) × Int × Int × Unit) × ((Bool × Int × (List DLot) × Unit) × Unit)) => (x.1.2.1, (x.1.2.2.1, (x.2.1.1, (x.2.1.2.1, x.2.1.2.2.1))))) fun (x : (Unit × (List DLot) × Int × Int × Unit) × ((Bool × Int × (List DLot) × Unit) × Unit)) => spec_spGood_l0 x.1.2.1 x.1.2.2.1 x.1.2.2.2.1
def spec_spGoodK {R : Type} (fin : Bool → Option R) (x0 : DPile) : Option R :=
  (spec_spGood_l0 x0.2.2.1 (x0.2.2.1.length : Int) 0).bind fun y3 =>
  sumO y3 (fun y4 =>
  fin y4)
  (fun y5 =>
  (spec_spSums x0.2.2.1).bind fun y6 =>
    cond (decide ((x0.2.2.1.length : Int) ≤ 40))
    (cond (!x0.1)
      ((spec_l1In x0.2.1 0 10000000).bind fun y7 =>
        cond (y7)
        (fin (decide (y6.1 ≤ x0.2.1)))
        (fin false))
      (cond (decide ((x0.2.2.1.length : Int) ≤ 1))
        ((spec_l1In x0.2.1 0 10000000).bind fun y8 =>
          cond (y8)
          (fin (decide (y6.1 ≤ x0.2.1)))
          (fin false))
        (fin false)))
    (fin false))
def spec_spGood (x0 : DPile) : Option (Bool) := spec_spGoodK some x0
theorem p15 {R : Type} (fin : Bool → Option R) (x0 : DPile) : Par fin (spec_spGoodK some x0) (spec_spGoodK fin x0) := by
  unfold spec_spGoodK
  repeat' (first | exact .fin | exact .none | refine .cond ?_ ?_ | refine .bind fun _ => ?_ | refine .sum (fun _ => ?_) fun _ => ?_)
def or15 : Ora := { lo := addL 2 (Lspec_spGood_l0) lo0, fin := [] }
theorem spec_spGood_l0e (a0 : List DLot) (a1 : Int) (a3 : Bool) (a4 : Int) (a5 : List DLot) (k : Nat) (a2 : Int) : loopC Tryd.prog EL15 or15 ((loopsIn (codeOf Tryd.f15)).getD 0 .skip) (Lspec_spGood_l0).h (Lspec_spGood_l0).ho Tryd.f15.ntmps (k + 1) (sspec_spGood_l0.out (((), (a0, (a1, (a2, ())))), ((a3, (a4, (a5, ()))), ()))) =
    spec_spGood_l0K a0 a1 (fun a2 => loopC Tryd.prog EL15 or15 ((loopsIn (codeOf Tryd.f15)).getD 0 .skip) (Lspec_spGood_l0).h (Lspec_spGood_l0).ho Tryd.f15.ntmps k (sspec_spGood_l0.out (((), (a0, (a1, (a2, ())))), ((a3, (a4, (a5, ()))), ())))) (fun y => some (XS.out xspec_spGood_l0 (a0, (a1, (a3, (a4, a5)))) y)) a2 := by kernel_rfl
theorem spec_spGood_l0o : LoopOk Tryd.prog EL15 or15 Tryd.f15.ntmps ((loopsIn (codeOf Tryd.f15)).getD 0 .skip) (Lspec_spGood_l0) :=
  loop_lim (hs := sspec_spGood_l0) (xs := xspec_spGood_l0) (ι := fun (x : (Unit × (List DLot) × Int × Int × Unit) × ((Bool × Int × (List DLot) × Unit) × Unit)) => (x.1.2.1, (x.1.2.2.1, (x.2.1.1, (x.2.1.2.1, x.2.1.2.2.1))))) (φ := fun (x : (Unit × (List DLot) × Int × Int × Unit) × ((Bool × Int × (List DLot) × Unit) × Unit)) => x.1.2.2.2.1) (ψ := fun (i : (List DLot) × Int × Bool × Int × (List DLot)) (v : Int) => (((), (i.1, (i.2.1, (v, ())))), ((i.2.2.1, (i.2.2.2.1, (i.2.2.2.2, ()))), ()))) (F := fun (i : (List DLot) × Int × Bool × Int × (List DLot)) => spec_spGood_l0F i.1 i.2.1) (fun _ => rfl) fun i k hk v => Par.of_eq (spec_spGood_l0e i.1 i.2.1 i.2.2.1 i.2.2.2.1 i.2.2.2.2 k v) (spec_spGood_l0p i.1 i.2.1 (fun a2 => hk a2) v)
def c15 : Callee := mkC [.agg [.ro TPile]] 1 [.one (.ro .bool)] fun x => spec_spGood x
theorem e15 (x : PK.dens [.agg [.ro TPile]]) : evalFn Tryd.prog EL15 or15 Tryd.f15 (PK.outs [.agg [.ro TPile]] x) =
    spec_spGoodK (fun y => some (tupOf ((PK.outs [.one (.ro .bool)] y).take 1), (PK.outs [.one (.ro .bool)] y).drop 1)) x := by kernel_rfl
theorem o15 : LoOk Tryd.prog EL15 or15 Tryd.f15.ntmps (loopsIn (codeOf Tryd.f15)) :=
  LoOk.mk (m := 1) (by kernel_rfl) fun i hi => match i, hi with
    | 0, _ => ⟨Lspec_spGood_l0, by kernel_rfl, spec_spGood_l0o⟩
    | i + 1, hi => absurd hi (by omega)
theorem k15 : CalleeOk Tryd.prog 15 c15 := callee_mk Tryd.func15 (code := codeOf Tryd.f15) (by kernel_rfl) vL15 mixed o15 fun x y h => (e15 x).trans (p15 _ x y h)

/-- spec.l1Num -/
def EL31 : Nat → Option Callee := env0
theorem vL31 : EnvOk Tryd.prog EL31 := EnvOk.nil
def spec_l1NumK {R : Type} (slf : Int → Option (ByteArray)) (fin : ByteArray → Option R) (x0 : Int) : Option R :=
  cond (decide (x0 < 10))
  ((some (strOfNums [IntKind.u8.wrap (IntKind.i64.wrap (48 + x0))])).bind fun v1 =>
    fin v1)
  ((slf (IntKind.i64.wrap (x0.tdiv 10))).bind fun y2 =>
    (some (strOfNums [IntKind.u8.wrap (IntKind.i64.wrap (48 + (x0.tmod 10)))])).bind fun v3 =>
    cond (decide (y2.size + v3.size ≤ 9223372036854775807))
    (fin (y2 ++ v3))
    (none))
def spec_l1NumF (slf : Int → Option (ByteArray)) (x : Int) : Option (ByteArray) := spec_l1NumK slf some x
theorem spec_l1Numc (x : Int) : Ct fun slf => spec_l1NumF slf x := by
  unfold spec_l1NumF spec_l1NumK
  repeat' (first | exact Ct.const | exact Ct.call | refine Ct.cond ?_ ?_ | refine Ct.bind ?_ fun _ => ?_ | refine Ct.sum (fun _ => ?_) fun _ => ?_)
def spec_l1Num (x0 : Int) : Option (ByteArray) := lim spec_l1NumF x0
theorem spec_l1Num_eq (x0 : Int) : spec_l1Num x0 = spec_l1NumK (fun x => spec_l1Num x) some x0 := lim_eq spec_l1Numc x0
theorem p31 {R : Type} (slf : Int → Option (ByteArray)) (fin : ByteArray → Option R) (x0 : Int) : Par fin (spec_l1NumK slf some x0) (spec_l1NumK slf fin x0) := by
  unfold spec_l1NumK
  repeat' (first | exact .fin | exact .none | refine .cond ?_ ?_ | refine .bind fun _ => ?_ | refine .sum (fun _ => ?_) fun _ => ?_)
def c31 : Callee := mkC [.one (.ro (.int .i64))] 1 [.one (.ro .str)] fun x => spec_l1Num x
theorem e31 (slf : Int → Option (ByteArray)) (x : PK.dens [.one (.ro (.int .i64))]) : evalFn Tryd.prog (addE 31 (mkC [.one (.ro (.int .i64))] 1 [.one (.ro .str)] slf) EL31) or0 Tryd.f31 (PK.outs [.one (.ro (.int .i64))] x) =
    spec_l1NumK slf (fun y => some (tupOf ((PK.outs [.one (.ro .str)] y).take 1), (PK.outs [.one (.ro .str)] y).drop 1)) x := by kernel_rfl
theorem k31 : CalleeOk Tryd.prog 31 c31 := callee_rec (ps := [.one (.ro (.int .i64))]) (rs := [.one (.ro .str)]) (F := spec_l1NumF) fun slf hs => callee_mk Tryd.func31 (code := codeOf Tryd.f31) (by kernel_rfl) (vL31.add Tryd.func31 rfl (by kernel_rfl) hs) mixed (LoOk.nil (by kernel_rfl)) fun x y h => (e31 slf x).trans (p31 slf _ x y h)

/-- spec.spText -/
def EL16 : Nat → Option Callee := addE 31 c31 env0
theorem vL16 : EnvOk Tryd.prog EL16 := EnvOk.nil.add Tryd.func31 rfl (by kernel_rfl) k31
def sspec_spText_l0 : LS := ⟨[(3, .one (.dat .str)), (14, .one (.dat (.slice TLot))), (15, .one (.dat (.int .i64))), (16, .one (.dat (.int .i64)))], [], []⟩
def sspec_spText_l0x0 : LS := ⟨[(3, .one (.dat .str))], [], []⟩
def xspec_spText_l0 : List (XS ((List DLot) × Int)) := [⟨.exit 0, ⟨[3], [], [], []⟩, sspec_spText_l0x0, ByteArray, fun i y => ((y, ()), ())⟩]
def spec_spText_l0K {R : Type} (a1 : List DLot) (a2 : Int) (rc : ByteArray → Int → Option R) (fin : ByteArray → Option R) (a0 : ByteArray) (a3 : Int) : Option R :=
  cond (decide (a3 < a2))
  ((lat a1 a3).bind fun e1 =>
    (spec_l1Num e1.1).bind fun y2 =>
    cond (decide ((⟨#[32]⟩ : ByteArray).size + y2.size ≤ 9223372036854775807))
    ((some ((⟨#[32]⟩ : ByteArray) ++ y2)).bind fun v3 =>
      cond (decide (v3.size + (⟨#[32]⟩ : ByteArray).size ≤ 9223372036854775807))
      ((some (v3 ++ (⟨#[32]⟩ : ByteArray))).bind fun v4 =>
        (spec_l1Num e1.2.1).bind fun y5 =>
        cond (decide (v4.size + y5.size ≤ 9223372036854775807))
        (cond (decide (a0.size + (v4 ++ y5).size ≤ 9223372036854775807))
          ((some (a0 ++ (v4 ++ y5))).bind fun v6 =>
            rc v6 (IntKind.i64.wrap (a3 + 1)))
          (none))
        (none))
      (none))
    (none))
  (fin a0)
def spec_spText_l0F (a1 : List DLot) (a2 : Int) (r : (ByteArray × Int) → Option (ByteArray)) (x : ByteArray × Int) : Option (ByteArray) := spec_spText_l0K a1 a2 (fun a0 a3 => r (a0, a3)) some x.1 x.2
theorem spec_spText_l0c (a1 : List DLot) (a2 : Int) (x : ByteArray × Int) : Ct fun r => spec_spText_l0F a1 a2 r x := by
  unfold spec_spText_l0F spec_spText_l0K
  repeat' (first | exact Ct.const | exact Ct.call | refine Ct.cond ?_ ?_ | refine Ct.bind ?_ fun _ => ?_ | refine Ct.sum (fun _ => ?_) fun _ => ?_)
def spec_spText_l0 (a1 : List DLot) (a2 : Int) (a0 : ByteArray) (a3 : Int) : Option (ByteArray) := lim (spec_spText_l0F a1 a2) (a0, a3)
theorem spec_spText_l0_eq (a1 : List DLot) (a2 : Int) (a0 : ByteArray) (a3 : Int) : spec_spText_l0 a1 a2 a0 a3 = spec_spText_l0K a1 a2 (spec_spText_l0 a1 a2) some a0 a3 := lim_eq (spec_spText_l0c a1 a2) (a0, a3)
theorem spec_spText_l0p {R : Type} (a1 : List DLot) (a2 : Int) {rc : ByteArray → Int → Option (ByteArray)} {rc' : ByteArray → Int → Option R} {fin : ByteArray → Option R} (hr : ∀ a0 a3, Par fin (rc a0 a3) (rc' a0 a3)) (a0 : ByteArray) (a3 : Int) : Par fin (spec_spText_l0K a1 a2 rc some a0 a3) (spec_spText_l0K a1 a2 rc' fin a0 a3) := by
  unfold spec_spText_l0K
  repeat' (first | exact .fin | exact .none | exact hr _ _ | refine .cond ?_ ?_ | refine .bind fun _ => ?_ | refine .sum (fun _ => ?_) fun _ => ?_)
def Lspec_spText_l0 : Loop := mkL ⟨[3, 14, 15, 16], [], [], []⟩ sspec_spText_l0 xspec_spText_l0 (fun (x : (ByteArray × (List DLot) × Int × Int × Unit) × (Unit)) => (x.1.2.1, x.1.2.2.1)) fun (x : (ByteArray × (List DLot) × Int × Int × Unit) × (Unit)) => spec_spText_l0 x.1.2.1 x.1.2.2.1 x.1.1 x.1.2.2.2.1
def spec_spTextK {R : Type} (fin : ByteArray → Option R) (x0 : DPile) : Option R :=
  cond (x0.1)
  ((spec_l1Num x0.2.1).bind fun y1 =>
    cond (decide ((⟨#[109, 105, 120, 101, 100, 32]⟩ : ByteArray).size + y1.size ≤ 9223372036854775807))
    ((some ((⟨#[109, 105, 120, 101, 100, 32]⟩ : ByteArray) ++ y1)).bind fun v2 =>
      (spec_spText_l0 x0.2.2.1 (x0.2.2.1.length : Int) v2 0).bind fun y9 =>
      fin y9)
    (none))
  ((spec_l1Num x0.2.1).bind fun y10 =>
    cond (decide ((⟨#[111, 114, 100, 101, 114, 32]⟩ : ByteArray).size + y10.size ≤ 9223372036854775807))
    ((some ((⟨#[111, 114, 100, 101, 114, 32]⟩ : ByteArray) ++ y10)).bind fun v11 =>
      (spec_spText_l0 x0.2.2.1 (x0.2.2.1.length : Int) v11 0).bind fun y12 =>
      fin y12)
    (none))
def spec_spText (x0 : DPile) : Option (ByteArray) := spec_spTextK some x0
theorem p16 {R : Type} (fin : ByteArray → Option R) (x0 : DPile) : Par fin (spec_spTextK some x0) (spec_spTextK fin x0) := by
  unfold spec_spTextK
  repeat' (first | exact .fin | exact .none | refine .cond ?_ ?_ | refine .bind fun _ => ?_ | refine .sum (fun _ => ?_) fun _ => ?_)
def or16 : Ora := { lo := addL 6 (Lspec_spText_l0) lo0, fin := [] }
theorem spec_spText_l0e (a1 : List DLot) (a2 : Int) (k : Nat) (a0 : ByteArray) (a3 : Int) : loopC Tryd.prog EL16 or16 ((loopsIn (codeOf Tryd.f16)).getD 0 .skip) (Lspec_spText_l0).h (Lspec_spText_l0).ho Tryd.f16.ntmps (k + 1) (sspec_spText_l0.out ((a0, (a1, (a2, (a3, ())))), ())) =
    spec_spText_l0K a1 a2 (fun a0 a3 => loopC Tryd.prog EL16 or16 ((loopsIn (codeOf Tryd.f16)).getD 0 .skip) (Lspec_spText_l0).h (Lspec_spText_l0).ho Tryd.f16.ntmps k (sspec_spText_l0.out ((a0, (a1, (a2, (a3, ())))), ()))) (fun y => some (XS.out xspec_spText_l0 (a1, a2) y)) a0 a3 := by kernel_rfl
theorem spec_spText_l0o : LoopOk Tryd.prog EL16 or16 Tryd.f16.ntmps ((loopsIn (codeOf Tryd.f16)).getD 0 .skip) (Lspec_spText_l0) :=
  loop_lim (hs := sspec_spText_l0) (xs := xspec_spText_l0) (ι := fun (x : (ByteArray × (List DLot) × Int × Int × Unit) × (Unit)) => (x.1.2.1, x.1.2.2.1)) (φ := fun (x : (ByteArray × (List DLot) × Int × Int × Unit) × (Unit)) => (x.1.1, x.1.2.2.2.1)) (ψ := fun (i : (List DLot) × Int) (v : ByteArray × Int) => ((v.1, (i.1, (i.2, (v.2, ())))), ())) (F := fun (i : (List DLot) × Int) => spec_spText_l0F i.1 i.2) (fun _ => rfl) fun i k hk v => Par.of_eq (spec_spText_l0e i.1 i.2 k v.1 v.2) (spec_spText_l0p i.1 i.2 (fun a0 a3 => hk (a0, a3)) v.1 v.2)
def c16 : Callee := mkC [.agg [.ro TPile]] 1 [.one (.ro .str)] fun x => spec_spText x
theorem e16 (x : PK.dens [.agg [.ro TPile]]) : evalFn Tryd.prog EL16 or16 Tryd.f16 (PK.outs [.agg [.ro TPile]] x) =
    spec_spTextK (fun y => some (tupOf ((PK.outs [.one (.ro .str)] y).take 1), (PK.outs [.one (.ro .str)] y).drop 1)) x := by kernel_rfl
theorem o16 : LoOk Tryd.prog EL16 or16 Tryd.f16.ntmps (loopsIn (codeOf Tryd.f16)) :=
  LoOk.mk (m := 1) (by kernel_rfl) fun i hi => match i, hi with
    | 0, _ => ⟨Lspec_spText_l0, by kernel_rfl, spec_spText_l0o⟩
    | i + 1, hi => absurd hi (by omega)
theorem k16 : CalleeOk Tryd.prog 16 c16 := callee_mk Tryd.func16 (code := codeOf Tryd.f16) (by kernel_rfl) vL16 mixed o16 fun x y h => (e16 x).trans (p16 _ x y h)

/-- spec.PileText -/
def EL6 : Nat → Option Callee := addE 16 c16 (addE 15 c15 env0)
theorem vL6 : EnvOk Tryd.prog EL6 := (EnvOk.nil.add Tryd.func15 rfl (by kernel_rfl) k15).add Tryd.func16 rfl (by kernel_rfl) k16
def spec_PileTextK {R : Type} (fin : ByteArray × Bool → Option R) (x0 : DPile) : Option R :=
  (spec_spGood x0).bind fun y1 =>
  cond (!y1)
  (fin ((⟨#[]⟩ : ByteArray), false))
  ((spec_spText x0).bind fun y2 =>
    fin (y2, true))
def spec_PileText (x0 : DPile) : Option (ByteArray × Bool) := spec_PileTextK some x0
theorem p6 {R : Type} (fin : ByteArray × Bool → Option R) (x0 : DPile) : Par fin (spec_PileTextK some x0) (spec_PileTextK fin x0) := by
  unfold spec_PileTextK
  repeat' (first | exact .fin | exact .none | refine .cond ?_ ?_ | refine .bind fun _ => ?_ | refine .sum (fun _ => ?_) fun _ => ?_)
def c6 : Callee := mkC [.agg [.ro TPile]] 2 [.one (.ro .str), .one (.ro .bool)] fun x => spec_PileText x
theorem e6 (x : PK.dens [.agg [.ro TPile]]) : evalFn Tryd.prog EL6 or0 Tryd.f6 (PK.outs [.agg [.ro TPile]] x) =
    spec_PileTextK (fun y => some (tupOf ((PK.outs [.one (.ro .str), .one (.ro .bool)] y).take 2), (PK.outs [.one (.ro .str), .one (.ro .bool)] y).drop 2)) x := by kernel_rfl
theorem k6 : CalleeOk Tryd.prog 6 c6 := callee_mk Tryd.func6 (code := codeOf Tryd.f6) (by kernel_rfl) vL6 mixed (LoOk.nil (by kernel_rfl)) fun x y h => (e6 x).trans (p6 _ x y h)

/-- impl.isLot -/
def EL33 : Nat → Option Callee := env0
theorem vL33 : EnvOk Tryd.prog EL33 := EnvOk.nil
def impl_isLotK {R : Type} (fin : Bool → Option R) (x0 : DLot) : Option R :=
  cond (decide (x0.1 ≥ 1))
  (cond (decide (x0.1 ≤ 1000000))
    (cond (decide (x0.2.1 ≥ 0))
      (fin (decide (x0.2.1 ≤ (IntKind.i64.wrap (1000 * x0.1)))))
      (fin false))
    (fin false))
  (fin false)
def impl_isLot (x0 : DLot) : Option (Bool) := impl_isLotK some x0
theorem p33 {R : Type} (fin : Bool → Option R) (x0 : DLot) : Par fin (impl_isLotK some x0) (impl_isLotK fin x0) := by
  unfold impl_isLotK
  repeat' (first | exact .fin | exact .none | refine .cond ?_ ?_ | refine .bind fun _ => ?_ | refine .sum (fun _ => ?_) fun _ => ?_)
def c33 : Callee := mkC [.agg [.ro TLot]] 1 [.one (.ro .bool)] fun x => impl_isLot x
theorem e33 (x : PK.dens [.agg [.ro TLot]]) : evalFn Tryd.prog EL33 or0 Tryd.f33 (PK.outs [.agg [.ro TLot]] x) =
    impl_isLotK (fun y => some (tupOf ((PK.outs [.one (.ro .bool)] y).take 1), (PK.outs [.one (.ro .bool)] y).drop 1)) x := by kernel_rfl
theorem k33 : CalleeOk Tryd.prog 33 c33 := callee_mk Tryd.func33 (code := codeOf Tryd.f33) (by kernel_rfl) vL33 mixed (LoOk.nil (by kernel_rfl)) fun x y h => (e33 x).trans (p33 _ x y h)

/-- impl.IsPile -/
def EL18 : Nat → Option Callee := addE 33 c33 env0
theorem vL18 : EnvOk Tryd.prog EL18 := EnvOk.nil.add Tryd.func33 rfl (by kernel_rfl) k33
def simpl_IsPile_l0 : LS := ⟨[(1, .one (.fix (.ptr 0 0))), (3, .one (.dat (.int .i64))), (31, .one (.dat (.slice TLot))), (32, .one (.dat (.int .i64))), (33, .one (.dat (.int .i64)))], [.box [.dat .bool, .dat (.int .i64), .dat (.slice TLot)]], []⟩
def simpl_IsPile_l0x0 : LS := ⟨[(2, .one (.dat .bool))], [], []⟩
def simpl_IsPile_l0x1 : LS := ⟨[(1, .one (.fix (.ptr 0 0))), (3, .one (.dat (.int .i64)))], [.box [.dat .bool, .dat (.int .i64), .dat (.slice TLot)]], []⟩
def ximpl_IsPile_l0 : List (XS ((List DLot) × Int × Bool × Int × (List DLot))) := [⟨.ret, ⟨[2], [], [], []⟩, simpl_IsPile_l0x0, Bool, fun i y => ((y, ()), ())⟩,
  ⟨.exit 0, ⟨[1, 3], [.slot 1], [], []⟩, simpl_IsPile_l0x1, Int, fun i y => (((), (y, ())), ((i.2.2.1, (i.2.2.2.1, (i.2.2.2.2, ()))), ()))⟩]
def impl_IsPile_l0K {R : Type} (a1 : List DLot) (a2 : Int) (rc : Int → Int → Option R) (fin : (Bool ⊕ Int) → Option R) (a0 : Int) (a3 : Int) : Option R :=
  cond (decide (a3 < a2))
  ((lat a1 a3).bind fun e1 =>
    (impl_isLot e1).bind fun y2 =>
    cond (!y2)
    (fin (.inl false))
    (rc (IntKind.i64.wrap (a0 + e1.1)) (IntKind.i64.wrap (a3 + 1))))
  (fin (.inr a0))
def impl_IsPile_l0F (a1 : List DLot) (a2 : Int) (r : (Int × Int) → Option (Bool ⊕ Int)) (x : Int × Int) : Option (Bool ⊕ Int) := impl_IsPile_l0K a1 a2 (fun a0 a3 => r (a0, a3)) some x.1 x.2
theorem impl_IsPile_l0c (a1 : List DLot) (a2 : Int) (x : Int × Int) : Ct fun r => impl_IsPile_l0F a1 a2 r x := by
  unfold impl_IsPile_l0F impl_IsPile_l0K
  repeat' (first | exact Ct.const | exact Ct.call | refine Ct.cond ?_ ?_ | refine Ct.bind ?_ fun _ => ?_ | refine Ct.sum (fun _ => ?_) fun _ => ?_)
def impl_IsPile_l0 (a1 : List DLot) (a2 : Int) (a0 : Int) (a3 : Int) : Option (Bool ⊕ Int) := lim (impl_IsPile_l0F a1 a2) (a0, a3)
theorem impl_IsPile_l0_eq (a1 : List DLot) (a2 : Int) (a0 : Int) (a3 : Int) : impl_IsPile_l0 a1 a2 a0 a3 = impl_IsPile_l0K a1 a2 (impl_IsPile_l0 a1 a2) some a0 a3 := lim_eq (impl_IsPile_l0c a1 a2) (a0, a3)
theorem impl_IsPile_l0p {R : Type} (a1 : List DLot) (a2 : Int) {rc : Int → Int → Option (Bool ⊕ Int)} {rc' : Int → Int → Option R} {fin : (Bool ⊕ Int) → Option R} (hr : ∀ a0 a3, Par fin (rc a0 a3) (rc' a0 a3)) (a0 : Int) (a3 : Int) : Par fin (impl_IsPile_l0K a1 a2 rc some a0 a3) (impl_IsPile_l0K a1 a2 rc' fin a0 a3) := by
  unfold impl_IsPile_l0K
  repeat' (first | exact .fin | exact .none | exact hr _ _ | refine .cond ?_ ?_ | refine .bind fun _ => ?_ | refine .sum (fun _ => ?_) fun _ => ?_)
def Limpl_IsPile_l0 : Loop := mkL ⟨[1, 3, 31, 32, 33], [.slot 1], [], []⟩ simpl_IsPile_l0 ximpl_IsPile_l0 (fun (x : (Unit × Int × (List DLot) × Int × Int × Unit) × ((Bool × Int × (List DLot) × Unit) × Unit)) => (x.1.2.2.1, (x.1.2.2.2.1, (x.2.1.1, (x.2.1.2.1, x.2.1.2.2.1))))) fun (x : (Unit × Int × (List DLot) × Int × Int × Unit) × ((Bool × Int × (List DLot) × Unit) × Unit)) => impl_IsPile_l0 x.1.2.2.1 x.1.2.2.2.1 x.1.2.1 x.1.2.2.2.2.1
def impl_IsPileK {R : Type} (fin : Bool → Option R) (x0 : DPile) : Option R :=
  cond (decide (x0.2.1 < 0))
  (fin false)
  (cond (decide (x0.2.1 > 10000000))
    (fin false)
    (cond (decide ((x0.2.2.1.length : Int) > 40))
      (fin false)
      (cond (x0.1)
        (cond (decide ((x0.2.2.1.length : Int) > 1))
          (fin false)
          ((impl_IsPile_l0 x0.2.2.1 (x0.2.2.1.length : Int) 0 0).bind fun y3 =>
            sumO y3 (fun y4 =>
            fin y4)
            (fun y5 =>
            fin (decide (y5 ≤ x0.2.1)))))
        ((impl_IsPile_l0 x0.2.2.1 (x0.2.2.1.length : Int) 0 0).bind fun y6 =>
          sumO y6 (fun y7 =>
          fin y7)
          (fun y8 =>
          fin (decide (y8 ≤ x0.2.1)))))))
def impl_IsPile (x0 : DPile) : Option (Bool) := impl_IsPileK some x0
theorem p18 {R : Type} (fin : Bool → Option R) (x0 : DPile) : Par fin (impl_IsPileK some x0) (impl_IsPileK fin x0) := by
  unfold impl_IsPileK
  repeat' (first | exact .fin | exact .none | refine .cond ?_ ?_ | refine .bind fun _ => ?_ | refine .sum (fun _ => ?_) fun _ => ?_)
def or18 : Ora := { lo := addL 5 (Limpl_IsPile_l0) lo0, fin := [] }
theorem impl_IsPile_l0e (a1 : List DLot) (a2 : Int) (a4 : Bool) (a5 : Int) (a6 : List DLot) (k : Nat) (a0 : Int) (a3 : Int) : loopC Tryd.prog EL18 or18 ((loopsIn (codeOf Tryd.f18)).getD 0 .skip) (Limpl_IsPile_l0).h (Limpl_IsPile_l0).ho Tryd.f18.ntmps (k + 1) (simpl_IsPile_l0.out (((), (a0, (a1, (a2, (a3, ()))))), ((a4, (a5, (a6, ()))), ()))) =
    impl_IsPile_l0K a1 a2 (fun a0 a3 => loopC Tryd.prog EL18 or18 ((loopsIn (codeOf Tryd.f18)).getD 0 .skip) (Limpl_IsPile_l0).h (Limpl_IsPile_l0).ho Tryd.f18.ntmps k (simpl_IsPile_l0.out (((), (a0, (a1, (a2, (a3, ()))))), ((a4, (a5, (a6, ()))), ())))) (fun y => some (XS.out ximpl_IsPile_l0 (a1, (a2, (a4, (a5, a6)))) y)) a0 a3 := by kernel_rfl
theorem impl_IsPile_l0o : LoopOk Tryd.prog EL18 or18 Tryd.f18.ntmps ((loopsIn (codeOf Tryd.f18)).getD 0 .skip) (Limpl_IsPile_l0) :=
  loop_lim (hs := simpl_IsPile_l0) (xs := ximpl_IsPile_l0) (ι := fun (x : (Unit × Int × (List DLot) × Int × Int × Unit) × ((Bool × Int × (List DLot) × Unit) × Unit)) => (x.1.2.2.1, (x.1.2.2.2.1, (x.2.1.1, (x.2.1.2.1, x.2.1.2.2.1))))) (φ := fun (x : (Unit × Int × (List DLot) × Int × Int × Unit) × ((Bool × Int × (List DLot) × Unit) × Unit)) => (x.1.2.1, x.1.2.2.2.2.1)) (ψ := fun (i : (List DLot) × Int × Bool × Int × (List DLot)) (v : Int × Int) => (((), (v.1, (i.1, (i.2.1, (v.2, ()))))), ((i.2.2.1, (i.2.2.2.1, (i.2.2.2.2, ()))), ()))) (F := fun (i : (List DLot) × Int × Bool × Int × (List DLot)) => impl_IsPile_l0F i.1 i.2.1) (fun _ => rfl) fun i k hk v => Par.of_eq (impl_IsPile_l0e i.1 i.2.1 i.2.2.1 i.2.2.2.1 i.2.2.2.2 k v.1 v.2) (impl_IsPile_l0p i.1 i.2.1 (fun a0 a3 => hk (a0, a3)) v.1 v.2)
def c18 : Callee := mkC [.agg [.ro TPile]] 1 [.one (.ro .bool)] fun x => impl_IsPile x
theorem e18 (x : PK.dens [.agg [.ro TPile]]) : evalFn Tryd.prog EL18 or18 Tryd.f18 (PK.outs [.agg [.ro TPile]] x) =
    impl_IsPileK (fun y => some (tupOf ((PK.outs [.one (.ro .bool)] y).take 1), (PK.outs [.one (.ro .bool)] y).drop 1)) x := by kernel_rfl
theorem o18 : LoOk Tryd.prog EL18 or18 Tryd.f18.ntmps (loopsIn (codeOf Tryd.f18)) :=
  LoOk.mk (m := 1) (by kernel_rfl) fun i hi => match i, hi with
    | 0, _ => ⟨Limpl_IsPile_l0, by kernel_rfl, impl_IsPile_l0o⟩
    | i + 1, hi => absurd hi (by omega)
theorem k18 : CalleeOk Tryd.prog 18 c18 := callee_mk Tryd.func18 (code := codeOf Tryd.f18) (by kernel_rfl) vL18 mixed o18 fun x y h => (e18 x).trans (p18 _ x y h)

/-- impl.numbersText -/
def EL19 : Nat → Option Callee := addE 35 c35 (addE 34 c34 env0)
theorem vL19 : EnvOk Tryd.prog EL19 := (EnvOk.nil.add Tryd.func34 rfl (by kernel_rfl) k34).add Tryd.func35 rfl (by kernel_rfl) k35
def simpl_numbersText_l0 : LS := ⟨[(3, .one (.fix (.sref 0))), (7, .one (.dat (.slice (.int .i64)))), (8, .one (.dat (.int .i64))), (9, .one (.dat (.int .i64)))], [.sl .str], []⟩
def simpl_numbersText_l0x0 : LS := ⟨[(3, .one (.fix (.sref 0)))], [.sl .str], []⟩
def ximpl_numbersText_l0 : List (XS ((List Int) × Int)) := [⟨.exit 0, ⟨[3], [.slot 3], [], []⟩, simpl_numbersText_l0x0, List ByteArray, fun i y => (((), ()), (y, ()))⟩]
def impl_numbersText_l0K {R : Type} (a0 : List Int) (a1 : Int) (rc : Int → List ByteArray → Option R) (fin : List ByteArray → Option R) (a2 : Int) (a3 : List ByteArray) : Option R :=
  cond (decide (a2 < a1))
  ((lat a0 a2).bind fun e1 =>
    (lib_Itoa e1).bind fun y2 =>
    cond (decide (a3.length + [y2].length ≤ 1099511627776))
    (rc (IntKind.i64.wrap (a2 + 1)) (a3 ++ [y2]))
    (none))
  (fin a3)
def impl_numbersText_l0F (a0 : List Int) (a1 : Int) (r : (Int × (List ByteArray)) → Option (List ByteArray)) (x : Int × (List ByteArray)) : Option (List ByteArray) := impl_numbersText_l0K a0 a1 (fun a2 a3 => r (a2, a3)) some x.1 x.2
theorem impl_numbersText_l0c (a0 : List Int) (a1 : Int) (x : Int × (List ByteArray)) : Ct fun r => impl_numbersText_l0F a0 a1 r x := by
  unfold impl_numbersText_l0F impl_numbersText_l0K
  repeat' (first | exact Ct.const | exact Ct.call | refine Ct.cond ?_ ?_ | refine Ct.bind ?_ fun _ => ?_ | refine Ct.sum (fun _ => ?_) fun _ => ?_)
def impl_numbersText_l0 (a0 : List Int) (a1 : Int) (a2 : Int) (a3 : List ByteArray) : Option (List ByteArray) := lim (impl_numbersText_l0F a0 a1) (a2, a3)
theorem impl_numbersText_l0_eq (a0 : List Int) (a1 : Int) (a2 : Int) (a3 : List ByteArray) : impl_numbersText_l0 a0 a1 a2 a3 = impl_numbersText_l0K a0 a1 (impl_numbersText_l0 a0 a1) some a2 a3 := lim_eq (impl_numbersText_l0c a0 a1) (a2, a3)
theorem impl_numbersText_l0p {R : Type} (a0 : List Int) (a1 : Int) {rc : Int → List ByteArray → Option (List ByteArray)} {rc' : Int → List ByteArray → Option R} {fin : List ByteArray → Option R} (hr : ∀ a2 a3, Par fin (rc a2 a3) (rc' a2 a3)) (a2 : Int) (a3 : List ByteArray) : Par fin (impl_numbersText_l0K a0 a1 rc some a2 a3) (impl_numbersText_l0K a0 a1 rc' fin a2 a3) := by
  unfold impl_numbersText_l0K
  repeat' (first | exact .fin | exact .none | exact hr _ _ | refine .cond ?_ ?_ | refine .bind fun _ => ?_ | refine .sum (fun _ => ?_) fun _ => ?_)
def Limpl_numbersText_l0 : Loop := mkL ⟨[3, 7, 8, 9], [.slot 3], [], []⟩ simpl_numbersText_l0 ximpl_numbersText_l0 (fun (x : (Unit × (List Int) × Int × Int × Unit) × ((List ByteArray) × Unit)) => (x.1.2.1, x.1.2.2.1)) fun (x : (Unit × (List Int) × Int × Int × Unit) × ((List ByteArray) × Unit)) => impl_numbersText_l0 x.1.2.1 x.1.2.2.1 x.1.2.2.2.1 x.2.1
def impl_numbersTextK {R : Type} (fin : ByteArray → Option R) (x0 : List Int) : Option R :=
  (impl_numbersText_l0 x0 (x0.length : Int) 0 []).bind fun y3 =>
  (lib_Join y3 (⟨#[32]⟩ : ByteArray)).bind fun y4 =>
  fin y4
def impl_numbersText (x0 : List Int) : Option (ByteArray) := impl_numbersTextK some x0
theorem p19 {R : Type} (fin : ByteArray → Option R) (x0 : List Int) : Par fin (impl_numbersTextK some x0) (impl_numbersTextK fin x0) := by
  unfold impl_numbersTextK
  repeat' (first | exact .fin | exact .none | refine .cond ?_ ?_ | refine .bind fun _ => ?_ | refine .sum (fun _ => ?_) fun _ => ?_)
def or19 : Ora := { lo := addL 3 (Limpl_numbersText_l0) lo0, fin := [] }
theorem impl_numbersText_l0e (a0 : List Int) (a1 : Int) (k : Nat) (a2 : Int) (a3 : List ByteArray) : loopC Tryd.prog EL19 or19 ((loopsIn (codeOf Tryd.f19)).getD 0 .skip) (Limpl_numbersText_l0).h (Limpl_numbersText_l0).ho Tryd.f19.ntmps (k + 1) (simpl_numbersText_l0.out (((), (a0, (a1, (a2, ())))), (a3, ()))) =
    impl_numbersText_l0K a0 a1 (fun a2 a3 => loopC Tryd.prog EL19 or19 ((loopsIn (codeOf Tryd.f19)).getD 0 .skip) (Limpl_numbersText_l0).h (Limpl_numbersText_l0).ho Tryd.f19.ntmps k (simpl_numbersText_l0.out (((), (a0, (a1, (a2, ())))), (a3, ())))) (fun y => some (XS.out ximpl_numbersText_l0 (a0, a1) y)) a2 a3 := by kernel_rfl
theorem impl_numbersText_l0o : LoopOk Tryd.prog EL19 or19 Tryd.f19.ntmps ((loopsIn (codeOf Tryd.f19)).getD 0 .skip) (Limpl_numbersText_l0) :=
  loop_lim (hs := simpl_numbersText_l0) (xs := ximpl_numbersText_l0) (ι := fun (x : (Unit × (List Int) × Int × Int × Unit) × ((List ByteArray) × Unit)) => (x.1.2.1, x.1.2.2.1)) (φ := fun (x : (Unit × (List Int) × Int × Int × Unit) × ((List ByteArray) × Unit)) => (x.1.2.2.2.1, x.2.1)) (ψ := fun (i : (List Int) × Int) (v : Int × (List ByteArray)) => (((), (i.1, (i.2, (v.1, ())))), (v.2, ()))) (F := fun (i : (List Int) × Int) => impl_numbersText_l0F i.1 i.2) (fun _ => rfl) fun i k hk v => Par.of_eq (impl_numbersText_l0e i.1 i.2 k v.1 v.2) (impl_numbersText_l0p i.1 i.2 (fun a2 a3 => hk (a2, a3)) v.1 v.2)
def c19 : Callee := mkC [.one (.ro (.slice (.int .i64)))] 1 [.one (.ro .str)] fun x => impl_numbersText x
theorem e19 (x : PK.dens [.one (.ro (.slice (.int .i64)))]) : evalFn Tryd.prog EL19 or19 Tryd.f19 (PK.outs [.one (.ro (.slice (.int .i64)))] x) =
    impl_numbersTextK (fun y => some (tupOf ((PK.outs [.one (.ro .str)] y).take 1), (PK.outs [.one (.ro .str)] y).drop 1)) x := by kernel_rfl
theorem o19 : LoOk Tryd.prog EL19 or19 Tryd.f19.ntmps (loopsIn (codeOf Tryd.f19)) :=
  LoOk.mk (m := 1) (by kernel_rfl) fun i hi => match i, hi with
    | 0, _ => ⟨Limpl_numbersText_l0, by kernel_rfl, impl_numbersText_l0o⟩
    | i + 1, hi => absurd hi (by omega)
theorem k19 : CalleeOk Tryd.prog 19 c19 := callee_mk Tryd.func19 (code := codeOf Tryd.f19) (by kernel_rfl) vL19 mixed o19 fun x y h => (e19 x).trans (p19 _ x y h)

/-- impl.PileText -/
def EL8 : Nat → Option Callee := addE 19 c19 (addE 18 c18 env0)
theorem vL8 : EnvOk Tryd.prog EL8 := (EnvOk.nil.add Tryd.func18 rfl (by kernel_rfl) k18).add Tryd.func19 rfl (by kernel_rfl) k19
def simpl_PileText_l0 : LS := ⟨[(4, .one (.dat .str)), (5, .one (.fix (.sref 0))), (17, .one (.dat (.slice TLot))), (18, .one (.dat (.int .i64))), (19, .one (.dat (.int .i64)))], [.sl (.int .i64)], []⟩
def simpl_PileText_l0x0 : LS := ⟨[(4, .one (.dat .str)), (5, .one (.fix (.sref 0)))], [.sl (.int .i64)], []⟩
def ximpl_PileText_l0 : List (XS (ByteArray × (List DLot) × Int)) := [⟨.exit 0, ⟨[4, 5], [.slot 5], [], []⟩, simpl_PileText_l0x0, List Int, fun i y => ((i.1, ((), ())), (y, ()))⟩]
def impl_PileText_l0K {R : Type} (a1 : List DLot) (a2 : Int) (rc : Int → List Int → Option R) (fin : List Int → Option R) (a3 : Int) (a4 : List Int) : Option R :=
  cond (decide (a3 < a2))
  ((lat a1 a3).bind fun e1 =>
    cond (decide (a4.length + [e1.1, e1.2.1].length ≤ 1099511627776))
    ((some (a4 ++ [e1.1, e1.2.1])).bind fun v2 =>
      rc (IntKind.i64.wrap (a3 + 1)) v2)
    (none))
  (fin a4)
def impl_PileText_l0F (a1 : List DLot) (a2 : Int) (r : (Int × (List Int)) → Option (List Int)) (x : Int × (List Int)) : Option (List Int) := impl_PileText_l0K a1 a2 (fun a3 a4 => r (a3, a4)) some x.1 x.2
theorem impl_PileText_l0c (a1 : List DLot) (a2 : Int) (x : Int × (List Int)) : Ct fun r => impl_PileText_l0F a1 a2 r x := by
  unfold impl_PileText_l0F impl_PileText_l0K
  repeat' (first | exact Ct.const | exact Ct.call | refine Ct.cond ?_ ?_ | refine Ct.bind ?_ fun _ => ?_ | refine Ct.sum (fun _ => ?_) fun _ => ?_)
def impl_PileText_l0 (a1 : List DLot) (a2 : Int) (a3 : Int) (a4 : List Int) : Option (List Int) := lim (impl_PileText_l0F a1 a2) (a3, a4)
theorem impl_PileText_l0_eq (a1 : List DLot) (a2 : Int) (a3 : Int) (a4 : List Int) : impl_PileText_l0 a1 a2 a3 a4 = impl_PileText_l0K a1 a2 (impl_PileText_l0 a1 a2) some a3 a4 := lim_eq (impl_PileText_l0c a1 a2) (a3, a4)
theorem impl_PileText_l0p {R : Type} (a1 : List DLot) (a2 : Int) {rc : Int → List Int → Option (List Int)} {rc' : Int → List Int → Option R} {fin : List Int → Option R} (hr : ∀ a3 a4, Par fin (rc a3 a4) (rc' a3 a4)) (a3 : Int) (a4 : List Int) : Par fin (impl_PileText_l0K a1 a2 rc some a3 a4) (impl_PileText_l0K a1 a2 rc' fin a3 a4) := by
  unfold impl_PileText_l0K
  repeat' (first | exact .fin | exact .none | exact hr _ _ | refine .cond ?_ ?_ | refine .bind fun _ => ?_ | refine .sum (fun _ => ?_) fun _ => ?_)
def Limpl_PileText_l0 : Loop := mkL ⟨[4, 5, 17, 18, 19], [.slot 5], [], []⟩ simpl_PileText_l0 ximpl_PileText_l0 (fun (x : (ByteArray × Unit × (List DLot) × Int × Int × Unit) × ((List Int) × Unit)) => (x.1.1, (x.1.2.2.1, x.1.2.2.2.1))) fun (x : (ByteArray × Unit × (List DLot) × Int × Int × Unit) × ((List Int) × Unit)) => impl_PileText_l0 x.1.2.2.1 x.1.2.2.2.1 x.1.2.2.2.2.1 x.2.1
def impl_PileTextK {R : Type} (fin : ByteArray × Bool → Option R) (x0 : DPile) : Option R :=
  (impl_IsPile x0).bind fun y1 =>
  cond (!y1)
  (fin ((⟨#[]⟩ : ByteArray), false))
  (cond (x0.1)
    ((impl_PileText_l0 x0.2.2.1 (x0.2.2.1.length : Int) 0 [x0.2.1]).bind fun y4 =>
      cond (decide ((⟨#[109, 105, 120, 101, 100]⟩ : ByteArray).size + (⟨#[32]⟩ : ByteArray).size ≤ 9223372036854775807))
      ((some ((⟨#[109, 105, 120, 101, 100]⟩ : ByteArray) ++ (⟨#[32]⟩ : ByteArray))).bind fun v5 =>
        (impl_numbersText y4).bind fun y6 =>
        cond (decide (v5.size + y6.size ≤ 9223372036854775807))
        (fin (v5 ++ y6, true))
        (none))
      (none))
    ((impl_PileText_l0 x0.2.2.1 (x0.2.2.1.length : Int) 0 [x0.2.1]).bind fun y7 =>
      cond (decide ((⟨#[111, 114, 100, 101, 114]⟩ : ByteArray).size + (⟨#[32]⟩ : ByteArray).size ≤ 9223372036854775807))
      ((some ((⟨#[111, 114, 100, 101, 114]⟩ : ByteArray) ++ (⟨#[32]⟩ : ByteArray))).bind fun v8 =>
        (impl_numbersText y7).bind fun y9 =>
        cond (decide (v8.size + y9.size ≤ 9223372036854775807))
        (fin (v8 ++ y9, true))
        (none))
      (none)))
def impl_PileText (x0 : DPile) : Option (ByteArray × Bool) := impl_PileTextK some x0
theorem p8 {R : Type} (fin : ByteArray × Bool → Option R) (x0 : DPile) : Par fin (impl_PileTextK some x0) (impl_PileTextK fin x0) := by
  unfold impl_PileTextK
  repeat' (first | exact .fin | exact .none | refine .cond ?_ ?_ | refine .bind fun _ => ?_ | refine .sum (fun _ => ?_) fun _ => ?_)
def or8 : Ora := { lo := addL 8 (Limpl_PileText_l0) lo0, fin := [] }
theorem impl_PileText_l0e (a0 : ByteArray) (a1 : List DLot) (a2 : Int) (k : Nat) (a3 : Int) (a4 : List Int) : loopC Tryd.prog EL8 or8 ((loopsIn (codeOf Tryd.f8)).getD 0 .skip) (Limpl_PileText_l0).h (Limpl_PileText_l0).ho Tryd.f8.ntmps (k + 1) (simpl_PileText_l0.out ((a0, ((), (a1, (a2, (a3, ()))))), (a4, ()))) =
    impl_PileText_l0K a1 a2 (fun a3 a4 => loopC Tryd.prog EL8 or8 ((loopsIn (codeOf Tryd.f8)).getD 0 .skip) (Limpl_PileText_l0).h (Limpl_PileText_l0).ho Tryd.f8.ntmps k (simpl_PileText_l0.out ((a0, ((), (a1, (a2, (a3, ()))))), (a4, ())))) (fun y => some (XS.out ximpl_PileText_l0 (a0, (a1, a2)) y)) a3 a4 := by kernel_rfl
theorem impl_PileText_l0o : LoopOk Tryd.prog EL8 or8 Tryd.f8.ntmps ((loopsIn (codeOf Tryd.f8)).getD 0 .skip) (Limpl_PileText_l0) :=
  loop_lim (hs := simpl_PileText_l0) (xs := ximpl_PileText_l0) (ι := fun (x : (ByteArray × Unit × (List DLot) × Int × Int × Unit) × ((List Int) × Unit)) => (x.1.1, (x.1.2.2.1, x.1.2.2.2.1))) (φ := fun (x : (ByteArray × Unit × (List DLot) × Int × Int × Unit) × ((List Int) × Unit)) => (x.1.2.2.2.2.1, x.2.1)) (ψ := fun (i : ByteArray × (List DLot) × Int) (v : Int × (List Int)) => ((i.1, ((), (i.2.1, (i.2.2, (v.1, ()))))), (v.2, ()))) (F := fun (i : ByteArray × (List DLot) × Int) => impl_PileText_l0F i.2.1 i.2.2) (fun _ => rfl) fun i k hk v => Par.of_eq (impl_PileText_l0e i.1 i.2.1 i.2.2 k v.1 v.2) (impl_PileText_l0p i.2.1 i.2.2 (fun a3 a4 => hk (a3, a4)) v.1 v.2)
def c8 : Callee := mkC [.agg [.ro TPile]] 2 [.one (.ro .str), .one (.ro .bool)] fun x => impl_PileText x
theorem e8 (x : PK.dens [.agg [.ro TPile]]) : evalFn Tryd.prog EL8 or8 Tryd.f8 (PK.outs [.agg [.ro TPile]] x) =
    impl_PileTextK (fun y => some (tupOf ((PK.outs [.one (.ro .str), .one (.ro .bool)] y).take 2), (PK.outs [.one (.ro .str), .one (.ro .bool)] y).drop 2)) x := by kernel_rfl
theorem o8 : LoOk Tryd.prog EL8 or8 Tryd.f8.ntmps (loopsIn (codeOf Tryd.f8)) :=
  LoOk.mk (m := 1) (by kernel_rfl) fun i hi => match i, hi with
    | 0, _ => ⟨Limpl_PileText_l0, by kernel_rfl, impl_PileText_l0o⟩
    | i + 1, hi => absurd hi (by omega)
theorem k8 : CalleeOk Tryd.prog 8 c8 := callee_mk Tryd.func8 (code := codeOf Tryd.f8) (by kernel_rfl) vL8 mixed o8 fun x y h => (e8 x).trans (p8 _ x y h)

/-- laws.eqLot -/
def EL36 : Nat → Option Callee := env0
theorem vL36 : EnvOk Tryd.prog EL36 := EnvOk.nil
def laws_eqLotK {R : Type} (fin : Bool → Option R) (x0 : DLot) (x1 : DLot) : Option R :=
  cond (x0.1 != x1.1)
  (fin false)
  (cond (x0.2.1 != x1.2.1)
    (fin false)
    (fin true))
def laws_eqLot (x0 : DLot) (x1 : DLot) : Option (Bool) := laws_eqLotK some x0 x1
theorem p36 {R : Type} (fin : Bool → Option R) (x0 : DLot) (x1 : DLot) : Par fin (laws_eqLotK some x0 x1) (laws_eqLotK fin x0 x1) := by
  unfold laws_eqLotK
  repeat' (first | exact .fin | exact .none | refine .cond ?_ ?_ | refine .bind fun _ => ?_ | refine .sum (fun _ => ?_) fun _ => ?_)
def c36 : Callee := mkC [.agg [.ro TLot], .agg [.ro TLot]] 1 [.one (.ro .bool)] fun x => laws_eqLot x.1 x.2
theorem e36 (x : PK.dens [.agg [.ro TLot], .agg [.ro TLot]]) : evalFn Tryd.prog EL36 or0 Tryd.f36 (PK.outs [.agg [.ro TLot], .agg [.ro TLot]] x) =
    laws_eqLotK (fun y => some (tupOf ((PK.outs [.one (.ro .bool)] y).take 1), (PK.outs [.one (.ro .bool)] y).drop 1)) x.1 x.2 := by kernel_rfl
theorem k36 : CalleeOk Tryd.prog 36 c36 := callee_mk Tryd.func36 (code := codeOf Tryd.f36) (by kernel_rfl) vL36 mixed (LoOk.nil (by kernel_rfl)) fun x y h => (e36 x).trans (p36 _ x.1 x.2 y h)

/-- laws.eqLotS -/
def EL20 : Nat → Option Callee := addE 36 c36 env0
theorem vL20 : EnvOk Tryd.prog EL20 := EnvOk.nil.add Tryd.func36 rfl (by kernel_rfl) k36
def slaws_eqLotS_l0 : LS := ⟨[(0, .one (.dat (.slice TLot))), (1, .one (.dat (.slice TLot))), (5, .one (.dat (.int .i64)))], [], []⟩
def slaws_eqLotS_l0x0 : LS := ⟨[(4, .one (.dat .bool))], [], []⟩
def slaws_eqLotS_l0x1 : LS := ⟨[], [], []⟩
def xlaws_eqLotS_l0 : List (XS ((List DLot) × (List DLot))) := [⟨.ret, ⟨[4], [], [], []⟩, slaws_eqLotS_l0x0, Bool, fun i y => ((y, ()), ())⟩,
  ⟨.exit 0, ⟨[], [], [], []⟩, slaws_eqLotS_l0x1, Unit, fun i y => ((), ())⟩]
def laws_eqLotS_l0K {R : Type} (a0 : List DLot) (a1 : List DLot) (rc : Int → Option R) (fin : (Bool ⊕ Unit) → Option R) (a2 : Int) : Option R :=
  cond (decide (a2 < (a0.length : Int)))
  ((lat a0 a2).bind fun e1 =>
    (lat a1 a2).bind fun e2 =>
    (laws_eqLot e1 e2).bind fun y3 =>
    cond (!y3)
    (fin (.inl false))
    (rc (IntKind.i64.wrap (a2 + 1))))
  (fin (.inr ()))
def laws_eqLotS_l0F (a0 : List DLot) (a1 : List DLot) (r : Int → Option (Bool ⊕ Unit)) (x : Int) : Option (Bool ⊕ Unit) := laws_eqLotS_l0K a0 a1 (fun a2 => r a2) some x
theorem laws_eqLotS_l0c (a0 : List DLot) (a1 : List DLot) (x : Int) : Ct fun r => laws_eqLotS_l0F a0 a1 r x := by
  unfold laws_eqLotS_l0F laws_eqLotS_l0K
  repeat' (first | exact Ct.const | exact Ct.call | refine Ct.cond ?_ ?_ | refine Ct.bind ?_ fun _ => ?_ | refine Ct.sum (fun _ => ?_) fun _ => ?_)
def laws_eqLotS_l0 (a0 : List DLot) (a1 : List DLot) (a2 : Int) : Option (Bool ⊕ Unit) := lim (laws_eqLotS_l0F a0 a1) a2
theorem laws_eqLotS_l0_eq (a0 : List DLot) (a1 : List DLot) (a2 : Int) : laws_eqLotS_l0 a0 a1 a2 = laws_eqLotS_l0K a0 a1 (laws_eqLotS_l0 a0 a1) some a2 := lim_eq (laws_eqLotS_l0c a0 a1) a2
theorem laws_eqLotS_l0p {R : Type} (a0 : List DLot) (a1 : List DLot) {rc : Int → Option (Bool ⊕ Unit)} {rc' : Int → Option R} {fin : (Bool ⊕ Unit) → Option R} (hr : ∀ a2, Par fin (rc a2) (rc' a2)) (a2 : Int) : Par fin (laws_eqLotS_l0K a0 a1 rc some a2) (laws_eqLotS_l0K a0 a1 rc' fin a2) := by
  unfold laws_eqLotS_l0K
  repeat' (first | exact .fin | exact .none | exact hr _ | refine .cond ?_ ?_ | refine .bind fun _ => ?_ | refine .sum (fun _ => ?_) fun _ => ?_)
def Llaws_eqLotS_l0 : Loop := mkL ⟨[0, 1, 5], [], [], []⟩ slaws_eqLotS_l0 xlaws_eqLotS_l0 (fun (x : ((List DLot) × (List DLot) × Int × Unit) × (Unit)) => (x.1.1, x.1.2.1)) fun (x : ((List DLot) × (List DLot) × Int × Unit) × (Unit)) => laws_eqLotS_l0 x.1.1 x.1.2.1 x.1.2.2.1
def laws_eqLotSK {R : Type} (fin : Bool → Option R) (x0 : List DLot) (x1 : List DLot) : Option R :=
  cond ((x0.length : Int) != (x1.length : Int))
  (fin false)
  ((laws_eqLotS_l0 x0 x1 0).bind fun y4 =>
    sumO y4 (fun y5 =>
    fin y5)
    (fun y6 =>
    fin true))
def laws_eqLotS (x0 : List DLot) (x1 : List DLot) : Option (Bool) := laws_eqLotSK some x0 x1
theorem p20 {R : Type} (fin : Bool → Option R) (x0 : List DLot) (x1 : List DLot) : Par fin (laws_eqLotSK some x0 x1) (laws_eqLotSK fin x0 x1) := by
  unfold laws_eqLotSK
  repeat' (first | exact .fin | exact .none | refine .cond ?_ ?_ | refine .bind fun _ => ?_ | refine .sum (fun _ => ?_) fun _ => ?_)
def or20 : Ora := { lo := addL 4 (Llaws_eqLotS_l0) lo0, fin := [] }
theorem laws_eqLotS_l0e (a0 : List DLot) (a1 : List DLot) (k : Nat) (a2 : Int) : loopC Tryd.prog EL20 or20 ((loopsIn (codeOf Tryd.f20)).getD 0 .skip) (Llaws_eqLotS_l0).h (Llaws_eqLotS_l0).ho Tryd.f20.ntmps (k + 1) (slaws_eqLotS_l0.out ((a0, (a1, (a2, ()))), ())) =
    laws_eqLotS_l0K a0 a1 (fun a2 => loopC Tryd.prog EL20 or20 ((loopsIn (codeOf Tryd.f20)).getD 0 .skip) (Llaws_eqLotS_l0).h (Llaws_eqLotS_l0).ho Tryd.f20.ntmps k (slaws_eqLotS_l0.out ((a0, (a1, (a2, ()))), ()))) (fun y => some (XS.out xlaws_eqLotS_l0 (a0, a1) y)) a2 := by kernel_rfl
theorem laws_eqLotS_l0o : LoopOk Tryd.prog EL20 or20 Tryd.f20.ntmps ((loopsIn (codeOf Tryd.f20)).getD 0 .skip) (Llaws_eqLotS_l0) :=
  loop_lim (hs := slaws_eqLotS_l0) (xs := xlaws_eqLotS_l0) (ι := fun (x : ((List DLot) × (List DLot) × Int × Unit) × (Unit)) => (x.1.1, x.1.2.1)) (φ := fun (x : ((List DLot) × (List DLot) × Int × Unit) × (Unit)) => x.1.2.2.1) (ψ := fun (i : (List DLot) × (List DLot)) (v : Int) => ((i.1, (i.2, (v, ()))), ())) (F := fun (i : (List DLot) × (List DLot)) => laws_eqLotS_l0F i.1 i.2) (fun _ => rfl) fun i k hk v => Par.of_eq (laws_eqLotS_l0e i.1 i.2 k v) (laws_eqLotS_l0p i.1 i.2 (fun a2 => hk a2) v)
def c20 : Callee := mkC [.one (.ro (.slice TLot)), .one (.ro (.slice TLot))] 1 [.one (.ro .bool)] fun x => laws_eqLotS x.1 x.2
theorem e20 (x : PK.dens [.one (.ro (.slice TLot)), .one (.ro (.slice TLot))]) : evalFn Tryd.prog EL20 or20 Tryd.f20 (PK.outs [.one (.ro (.slice TLot)), .one (.ro (.slice TLot))] x) =
    laws_eqLotSK (fun y => some (tupOf ((PK.outs [.one (.ro .bool)] y).take 1), (PK.outs [.one (.ro .bool)] y).drop 1)) x.1 x.2 := by kernel_rfl
theorem o20 : LoOk Tryd.prog EL20 or20 Tryd.f20.ntmps (loopsIn (codeOf Tryd.f20)) :=
  LoOk.mk (m := 1) (by kernel_rfl) fun i hi => match i, hi with
    | 0, _ => ⟨Llaws_eqLotS_l0, by kernel_rfl, laws_eqLotS_l0o⟩
    | i + 1, hi => absurd hi (by omega)
theorem k20 : CalleeOk Tryd.prog 20 c20 := callee_mk Tryd.func20 (code := codeOf Tryd.f20) (by kernel_rfl) vL20 mixed o20 fun x y h => (e20 x).trans (p20 _ x.1 x.2 y h)

/-- laws.eqPile -/
def EL9 : Nat → Option Callee := addE 20 c20 env0
theorem vL9 : EnvOk Tryd.prog EL9 := EnvOk.nil.add Tryd.func20 rfl (by kernel_rfl) k20
def laws_eqPileK {R : Type} (fin : Bool → Option R) (x0 : DPile) (x1 : DPile) : Option R :=
  cond (!(x0.1 == x1.1))
  (fin false)
  (cond (x0.2.1 != x1.2.1)
    (fin false)
    ((laws_eqLotS x0.2.2.1 x1.2.2.1).bind fun y1 =>
      cond (!y1)
      (fin false)
      (fin true)))
def laws_eqPile (x0 : DPile) (x1 : DPile) : Option (Bool) := laws_eqPileK some x0 x1
theorem p9 {R : Type} (fin : Bool → Option R) (x0 : DPile) (x1 : DPile) : Par fin (laws_eqPileK some x0 x1) (laws_eqPileK fin x0 x1) := by
  unfold laws_eqPileK
  repeat' (first | exact .fin | exact .none | refine .cond ?_ ?_ | refine .bind fun _ => ?_ | refine .sum (fun _ => ?_) fun _ => ?_)
def c9 : Callee := mkC [.agg [.ro TPile], .agg [.ro TPile]] 1 [.one (.ro .bool)] fun x => laws_eqPile x.1 x.2
theorem e9 (x : PK.dens [.agg [.ro TPile], .agg [.ro TPile]]) : evalFn Tryd.prog EL9 or0 Tryd.f9 (PK.outs [.agg [.ro TPile], .agg [.ro TPile]] x) =
    laws_eqPileK (fun y => some (tupOf ((PK.outs [.one (.ro .bool)] y).take 1), (PK.outs [.one (.ro .bool)] y).drop 1)) x.1 x.2 := by kernel_rfl
theorem k9 : CalleeOk Tryd.prog 9 c9 := callee_mk Tryd.func9 (code := codeOf Tryd.f9) (by kernel_rfl) vL9 mixed (LoOk.nil (by kernel_rfl)) fun x y h => (e9 x).trans (p9 _ x.1 x.2 y h)

/-- laws.FnExactPileText -/
def EL3 : Nat → Option Callee := addE 9 c9 (addE 8 c8 (addE 6 c6 (addE 7 c7 (addE 5 c5 env0))))
theorem vL3 : EnvOk Tryd.prog EL3 := ((((EnvOk.nil.add Tryd.func5 rfl (by kernel_rfl) k5).add Tryd.func7 rfl (by kernel_rfl) k7).add Tryd.func6 rfl (by kernel_rfl) k6).add Tryd.func8 rfl (by kernel_rfl) k8).add Tryd.func9 rfl (by kernel_rfl) k9
def laws_FnExactPileTextK {R : Type} (fin : Bool → Option R) (x0 : DPile) : Option R :=
  (laws_szPile x0 1048576).bind fun y1 =>
  cond (decide (y1 < 0))
  (fin true)
  ((laws_toPile x0).bind fun y2 =>
    (spec_PileText (y2.1, (y2.2.1, (y2.2.2, ())))).bind fun y3 =>
    (laws_toPile x0).bind fun y4 =>
    (impl_PileText (y4.1, (y4.2.1, (y4.2.2, ())))).bind fun y5 =>
    cond (!(eqS y5.1 y3.1))
    (fin false)
    (cond (!(y5.2 == y3.2))
      (fin false)
      ((laws_toPile x0).bind fun y6 =>
        (laws_eqPile (y4.1, (y4.2.1, (y4.2.2, ()))) (y6.1, (y6.2.1, (y6.2.2, ())))).bind fun y7 =>
        cond (!y7)
        (fin false)
        (fin true))))
def laws_FnExactPileText (x0 : DPile) : Option (Bool) := laws_FnExactPileTextK some x0
theorem p3 {R : Type} (fin : Bool → Option R) (x0 : DPile) : Par fin (laws_FnExactPileTextK some x0) (laws_FnExactPileTextK fin x0) := by
  unfold laws_FnExactPileTextK
  repeat' (first | exact .fin | exact .none | refine .cond ?_ ?_ | refine .bind fun _ => ?_ | refine .sum (fun _ => ?_) fun _ => ?_)
def c3 : Callee := mkC [.agg [.ro TPile]] 1 [.one (.ro .bool)] fun x => laws_FnExactPileText x
theorem e3 (x : PK.dens [.agg [.ro TPile]]) : evalFn Tryd.prog EL3 or0 Tryd.f3 (PK.outs [.agg [.ro TPile]] x) =
    laws_FnExactPileTextK (fun y => some (tupOf ((PK.outs [.one (.ro .bool)] y).take 1), (PK.outs [.one (.ro .bool)] y).drop 1)) x := by kernel_rfl
theorem k3 : CalleeOk Tryd.prog 3 c3 := callee_mk Tryd.func3 (code := codeOf Tryd.f3) (by kernel_rfl) vL3 mixed (LoOk.nil (by kernel_rfl)) fun x y h => (e3 x).trans (p3 _ x y h)
end
end Go.OAI

