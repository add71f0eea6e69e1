/- Contracts: GAreBins. -/
import Derived.Test.YtjidcahgobilhaaGIsWanted
namespace Go.OAI
open Go.Proofs
set_option linter.unusedVariables false
noncomputable section


/-- laws.szBinS -/
def EL15 : Nat → Option Callee := env0
theorem vL15 : EnvOk Try.prog EL15 := EnvOk.nil
def laws_szBinSK {R : Type} (fin : Int → Option R) (x0 : List DWanted) (x1 : Int) : Option R :=
  cond (decide ((IntKind.i64.wrap (x1 - (x0.length : Int))) < 0))
  (fin (-1))
  (fin (IntKind.i64.wrap (x1 - (x0.length : Int))))
def laws_szBinS (x0 : List DWanted) (x1 : Int) : Option (Int) := laws_szBinSK some x0 x1
theorem p15 {R : Type} (fin : Int → Option R) (x0 : List DWanted) (x1 : Int) : Par fin (laws_szBinSK some x0 x1) (laws_szBinSK fin x0 x1) := by
  unfold laws_szBinSK
  repeat' (first | exact .fin | exact .none | refine .cond ?_ ?_ | refine .bind fun _ => ?_ | refine .sum (fun _ => ?_) fun _ => ?_)
def c15 : Callee := mkC [.one (.ro (.slice TWanted)), .one (.ro (.int .i64))] 1 [.one (.ro (.int .i64))] fun x => laws_szBinS x.1 x.2
theorem e15 (x : PK.dens [.one (.ro (.slice TWanted)), .one (.ro (.int .i64))]) : evalFn Try.prog EL15 or0 Try.f15 (PK.outs [.one (.ro (.slice TWanted)), .one (.ro (.int .i64))] x) =
    laws_szBinSK (fun y => some (tupOf ((PK.outs [.one (.ro (.int .i64))] y).take 1), (PK.outs [.one (.ro (.int .i64))] y).drop 1)) x.1 x.2 := by kernel_rfl
theorem k15 : CalleeOk Try.prog 15 c15 := callee_mk Try.func15 (code := codeOf Try.f15) (by kernel_rfl) vL15 mixed (LoOk.nil (by kernel_rfl)) fun x y h => (e15 x).trans (p15 _ x.1 x.2 y h)

/-- laws.toBin -/
def EL35 : Nat → Option Callee := env0
theorem vL35 : EnvOk Try.prog EL35 := EnvOk.nil
def laws_toBinK {R : Type} (fin : DWanted → Option R) (x0 : DWanted) : Option R :=
  fin x0
def laws_toBin (x0 : DWanted) : Option (DWanted) := laws_toBinK some x0
theorem p35 {R : Type} (fin : DWanted → Option R) (x0 : DWanted) : Par fin (laws_toBinK some x0) (laws_toBinK fin x0) := by
  unfold laws_toBinK
  repeat' (first | exact .fin | exact .none | refine .cond ?_ ?_ | refine .bind fun _ => ?_ | refine .sum (fun _ => ?_) fun _ => ?_)
def c35 : Callee := mkC [.agg [.ro TWanted]] 1 [.agg [.ro TWanted]] fun x => laws_toBin x
theorem e35 (x : PK.dens [.agg [.ro TWanted]]) : evalFn Try.prog EL35 or0 Try.f35 (PK.outs [.agg [.ro TWanted]] x) =
    laws_toBinK (fun y => some (tupOf ((PK.outs [.agg [.ro TWanted]] y).take 1), (PK.outs [.agg [.ro TWanted]] y).drop 1)) x := by kernel_rfl
theorem k35 : CalleeOk Try.prog 35 c35 := callee_mk Try.func35 (code := codeOf Try.f35) (by kernel_rfl) vL35 mixed (LoOk.nil (by kernel_rfl)) fun x y h => (e35 x).trans (p35 _ x y h)

/-- laws.toBinS -/
def EL17 : Nat → Option Callee := addE 35 c35 env0
theorem vL17 : EnvOk Try.prog EL17 := EnvOk.nil.add Try.func35 rfl (by kernel_rfl) k35
def slaws_toBinS_l0 : LS := ⟨[(0, .one (.dat (.slice TWanted))), (3, .one (.fix (.sref 0))), (4, .one (.dat (.int .i64)))], [.sl TWanted], []⟩
def slaws_toBinS_l0x0 : LS := ⟨[(3, .one (.fix (.sref 0)))], [.sl TWanted], []⟩
def xlaws_toBinS_l0 : List (XS (List DWanted)) := [⟨.exit 0, ⟨[3], [.slot 3], [], []⟩, slaws_toBinS_l0x0, List DWanted, fun i y => (((), ()), (y, ()))⟩]
def laws_toBinS_l0K {R : Type} (a0 : List DWanted) (rc : Int → List DWanted → Option R) (fin : List DWanted → Option R) (a1 : Int) (a2 : List DWanted) : Option R :=
  cond (decide (a1 < (a0.length : Int)))
  ((lat a0 a1).bind fun e1 =>
    (laws_toBin e1).bind fun y2 =>
    cond (decide ((0 : Int) ≤ a1) && decide (a1 < (a2.length : Int)))
    ((some (a2.set (0 + a1.toNat) y2)).bind fun v3 =>
      rc (IntKind.i64.wrap (a1 + 1)) v3)
    (none))
  (fin a2)
def laws_toBinS_l0F (a0 : List DWanted) (r : (Int × (List DWanted)) → Option (List DWanted)) (x : Int × (List DWanted)) : Option (List DWanted) := laws_toBinS_l0K a0 (fun a1 a2 => r (a1, a2)) some x.1 x.2
theorem laws_toBinS_l0c (a0 : List DWanted) (x : Int × (List DWanted)) : Ct fun r => laws_toBinS_l0F a0 r x := by
  unfold laws_toBinS_l0F laws_toBinS_l0K
  repeat' (first | exact Ct.const | exact Ct.call | refine Ct.cond ?_ ?_ | refine Ct.bind ?_ fun _ => ?_ | refine Ct.sum (fun _ => ?_) fun _ => ?_)
def laws_toBinS_l0 (a0 : List DWanted) (a1 : Int) (a2 : List DWanted) : Option (List DWanted) := lim (laws_toBinS_l0F a0) (a1, a2)
theorem laws_toBinS_l0_eq (a0 : List DWanted) (a1 : Int) (a2 : List DWanted) : laws_toBinS_l0 a0 a1 a2 = laws_toBinS_l0K a0 (laws_toBinS_l0 a0) some a1 a2 := lim_eq (laws_toBinS_l0c a0) (a1, a2)
theorem laws_toBinS_l0p {R : Type} (a0 : List DWanted) {rc : Int → List DWanted → Option (List DWanted)} {rc' : Int → List DWanted → Option R} {fin : List DWanted → Option R} (hr : ∀ a1 a2, Par fin (rc a1 a2) (rc' a1 a2)) (a1 : Int) (a2 : List DWanted) : Par fin (laws_toBinS_l0K a0 rc some a1 a2) (laws_toBinS_l0K a0 rc' fin a1 a2) := by
  unfold laws_toBinS_l0K
  repeat' (first | exact .fin | exact .none | exact hr _ _ | refine .cond ?_ ?_ | refine .bind fun _ => ?_ | refine .sum (fun _ => ?_) fun _ => ?_)
def Llaws_toBinS_l0 : Loop := mkL ⟨[0, 3, 4], [.slot 3], [], []⟩ slaws_toBinS_l0 xlaws_toBinS_l0 (fun (x : ((List DWanted) × Unit × Int × Unit) × ((List DWanted) × Unit)) => x.1.1) fun (x : ((List DWanted) × Unit × Int × Unit) × ((List DWanted) × Unit)) => laws_toBinS_l0 x.1.1 x.1.2.2.1 x.2.1
def laws_toBinSK {R : Type} (fin : List DWanted → Option R) (x0 : List DWanted) : Option R :=
  cond (decide ((0 : Int) ≤ (x0.length : Int)) && (decide ((x0.length : Int) ≤ (x0.length : Int)) && decide ((x0.length : Int) ≤ 1099511627776)))
  ((some ((List.replicate ((x0.length : Int).toNat) (0, (0, (0, (0, ())))) : List DWanted))).bind fun v1 =>
    (laws_toBinS_l0 x0 0 v1).bind fun y5 =>
    fin y5)
  (none)
def laws_toBinS (x0 : List DWanted) : Option (List DWanted) := laws_toBinSK some x0
theorem p17 {R : Type} (fin : List DWanted → Option R) (x0 : List DWanted) : Par fin (laws_toBinSK some x0) (laws_toBinSK fin x0) := by
  unfold laws_toBinSK
  repeat' (first | exact .fin | exact .none | refine .cond ?_ ?_ | refine .bind fun _ => ?_ | refine .sum (fun _ => ?_) fun _ => ?_)
def or17 : Ora := { lo := addL 3 (Llaws_toBinS_l0) lo0, fin := [] }
theorem laws_toBinS_l0e (a0 : List DWanted) (k : Nat) (a1 : Int) (a2 : List DWanted) : loopC Try.prog EL17 or17 ((loopsIn (codeOf Try.f17)).getD 0 .skip) (Llaws_toBinS_l0).h (Llaws_toBinS_l0).ho Try.f17.ntmps (k + 1) (slaws_toBinS_l0.out ((a0, ((), (a1, ()))), (a2, ()))) =
    laws_toBinS_l0K a0 (fun a1 a2 => loopC Try.prog EL17 or17 ((loopsIn (codeOf Try.f17)).getD 0 .skip) (Llaws_toBinS_l0).h (Llaws_toBinS_l0).ho Try.f17.ntmps k (slaws_toBinS_l0.out ((a0, ((), (a1, ()))), (a2, ())))) (fun y => some (XS.out xlaws_toBinS_l0 a0 y)) a1 a2 := by kernel_rfl
theorem laws_toBinS_l0o : LoopOk Try.prog EL17 or17 Try.f17.ntmps ((loopsIn (codeOf Try.f17)).getD 0 .skip) (Llaws_toBinS_l0) :=
  loop_lim (hs := slaws_toBinS_l0) (xs := xlaws_toBinS_l0) (ι := fun (x : ((List DWanted) × Unit × Int × Unit) × ((List DWanted) × Unit)) => x.1.1) (φ := fun (x : ((List DWanted) × Unit × Int × Unit) × ((List DWanted) × Unit)) => (x.1.2.2.1, x.2.1)) (ψ := fun (i : List DWanted) (v : Int × (List DWanted)) => ((i, ((), (v.1, ()))), (v.2, ()))) (F := fun (i : List DWanted) => laws_toBinS_l0F i) (fun _ => rfl) fun i k hk v => Par.of_eq (laws_toBinS_l0e i k v.1 v.2) (laws_toBinS_l0p i (fun a1 a2 => hk (a1, a2)) v.1 v.2)
def c17 : Callee := mkC [.one (.ro (.slice TWanted))] 1 [.one (.sl TWanted)] fun x => laws_toBinS x
theorem e17 (x : PK.dens [.one (.ro (.slice TWanted))]) : evalFn Try.prog EL17 or17 Try.f17 (PK.outs [.one (.ro (.slice TWanted))] x) =
    laws_toBinSK (fun y => some (tupOf ((PK.outs [.one (.sl TWanted)] y).take 1), (PK.outs [.one (.sl TWanted)] y).drop 1)) x := by kernel_rfl
theorem o17 : LoOk Try.prog EL17 or17 Try.f17.ntmps (loopsIn (codeOf Try.f17)) :=
  LoOk.mk (m := 1) (by kernel_rfl) fun i hi => match i, hi with
    | 0, _ => ⟨Llaws_toBinS_l0, by kernel_rfl, laws_toBinS_l0o⟩
    | i + 1, hi => absurd hi (by omega)
theorem k17 : CalleeOk Try.prog 17 c17 := callee_mk Try.func17 (code := codeOf Try.f17) (by kernel_rfl) vL17 mixed o17 fun x y h => (e17 x).trans (p17 _ x y h)

/-- spec.l1All -/
def EL48 : Nat → Option Callee := addE 31 c31 env0
theorem vL48 : EnvOk Try.prog EL48 := EnvOk.nil.add Try.func31 rfl (by kernel_rfl) k31
def sspec_l1All_l0 : LS := ⟨[(1, .one (.dat (.int .i64))), (2, .one (.dat (.int .i64))), (9, .one (.dat (.slice (.int .i64)))), (10, .one (.dat (.int .i64))), (11, .one (.dat (.int .i64)))], [], []⟩
def sspec_l1All_l0x0 : LS := ⟨[(6, .one (.dat .bool))], [], []⟩
def sspec_l1All_l0x1 : LS := ⟨[], [], []⟩
def xspec_l1All_l0 : List (XS (Int × Int × (List Int) × Int)) := [⟨.ret, ⟨[6], [], [], []⟩, sspec_l1All_l0x0, Bool, fun i y => ((y, ()), ())⟩,
  ⟨.exit 0, ⟨[], [], [], []⟩, sspec_l1All_l0x1, Unit, fun i y => ((), ())⟩]
def spec_l1All_l0K {R : Type} (a0 : Int) (a1 : Int) (a2 : List Int) (a3 : Int) (rc : Int → Option R) (fin : (Bool ⊕ Unit) → Option R) (a4 : Int) : Option R :=
  cond (decide (a4 < a3))
  ((lat a2 a4).bind fun e1 =>
    (spec_l1In e1 a0 a1).bind fun y2 =>
    cond (!y2)
    (fin (.inl false))
    (rc (IntKind.i64.wrap (a4 + 1))))
  (fin (.inr ()))
def spec_l1All_l0F (a0 : Int) (a1 : Int) (a2 : List Int) (a3 : Int) (r : Int → Option (Bool ⊕ Unit)) (x : Int) : Option (Bool ⊕ Unit) := spec_l1All_l0K a0 a1 a2 a3 (fun a4 => r a4) some x
theorem spec_l1All_l0c (a0 : Int) (a1 : Int) (a2 : List Int) (a3 : Int) (x : Int) : Ct fun r => spec_l1All_l0F a0 a1 a2 a3 r x := by
  unfold spec_l1All_l0F spec_l1All_l0K
  repeat' (first | exact Ct.const | exact Ct.call | refine Ct.cond ?_ ?_ | refine Ct.bind ?_ fun _ => ?_ | refine Ct.sum (fun _ => ?_) fun _ => ?_)
def spec_l1All_l0 (a0 : Int) (a1 : Int) (a2 : List Int) (a3 : Int) (a4 : Int) : Option (Bool ⊕ Unit) := lim (spec_l1All_l0F a0 a1 a2 a3) a4
theorem spec_l1All_l0_eq (a0 : Int) (a1 : Int) (a2 : List Int) (a3 : Int) (a4 : Int) : spec_l1All_l0 a0 a1 a2 a3 a4 = spec_l1All_l0K a0 a1 a2 a3 (spec_l1All_l0 a0 a1 a2 a3) some a4 := lim_eq (spec_l1All_l0c a0 a1 a2 a3) a4
theorem spec_l1All_l0p {R : Type} (a0 : Int) (a1 : Int) (a2 : List Int) (a3 : Int) {rc : Int → Option (Bool ⊕ Unit)} {rc' : Int → Option R} {fin : (Bool ⊕ Unit) → Option R} (hr : ∀ a4, Par fin (rc a4) (rc' a4)) (a4 : Int) : Par fin (spec_l1All_l0K a0 a1 a2 a3 rc some a4) (spec_l1All_l0K a0 a1 a2 a3 rc' fin a4) := by
  unfold spec_l1All_l0K
  repeat' (first | exact .fin | exact .none | exact hr _ | refine .cond ?_ ?_ | refine .bind fun _ => ?_ | refine .sum (fun _ => ?_) fun _ => ?_)
def Lspec_l1All_l0 : Loop := mkL ⟨[1, 2, 9, 10, 11], [], [], []⟩ sspec_l1All_l0 xspec_l1All_l0 (fun (x : (Int × Int × (List Int) × Int × Int × Unit) × (Unit)) => (x.1.1, (x.1.2.1, (x.1.2.2.1, x.1.2.2.2.1)))) fun (x : (Int × Int × (List Int) × Int × Int × Unit) × (Unit)) => spec_l1All_l0 x.1.1 x.1.2.1 x.1.2.2.1 x.1.2.2.2.1 x.1.2.2.2.2.1
def spec_l1AllK {R : Type} (fin : Bool → Option R) (x0 : List Int) (x1 : Int) (x2 : Int) : Option R :=
  (spec_l1All_l0 x1 x2 x0 (x0.length : Int) 0).bind fun y3 =>
  sumO y3 (fun y4 =>
  fin y4)
  (fun y5 =>
  fin true)
def spec_l1All (x0 : List Int) (x1 : Int) (x2 : Int) : Option (Bool) := spec_l1AllK some x0 x1 x2
theorem p48 {R : Type} (fin : Bool → Option R) (x0 : List Int) (x1 : Int) (x2 : Int) : Par fin (spec_l1AllK some x0 x1 x2) (spec_l1AllK fin x0 x1 x2) := by
  unfold spec_l1AllK
  repeat' (first | exact .fin | exact .none | refine .cond ?_ ?_ | refine .bind fun _ => ?_ | refine .sum (fun _ => ?_) fun _ => ?_)
def or48 : Ora := { lo := addL 2 (Lspec_l1All_l0) lo0, fin := [] }
theorem spec_l1All_l0e (a0 : Int) (a1 : Int) (a2 : List Int) (a3 : Int) (k : Nat) (a4 : Int) : loopC Try.prog EL48 or48 ((loopsIn (codeOf Try.f48)).getD 0 .skip) (Lspec_l1All_l0).h (Lspec_l1All_l0).ho Try.f48.ntmps (k + 1) (sspec_l1All_l0.out ((a0, (a1, (a2, (a3, (a4, ()))))), ())) =
    spec_l1All_l0K a0 a1 a2 a3 (fun a4 => loopC Try.prog EL48 or48 ((loopsIn (codeOf Try.f48)).getD 0 .skip) (Lspec_l1All_l0).h (Lspec_l1All_l0).ho Try.f48.ntmps k (sspec_l1All_l0.out ((a0, (a1, (a2, (a3, (a4, ()))))), ()))) (fun y => some (XS.out xspec_l1All_l0 (a0, (a1, (a2, a3))) y)) a4 := by kernel_rfl
theorem spec_l1All_l0o : LoopOk Try.prog EL48 or48 Try.f48.ntmps ((loopsIn (codeOf Try.f48)).getD 0 .skip) (Lspec_l1All_l0) :=
  loop_lim (hs := sspec_l1All_l0) (xs := xspec_l1All_l0) (ι := fun (x : (Int × Int × (List Int) × Int × Int × Unit) × (Unit)) => (x.1.1, (x.1.2.1, (x.1.2.2.1, x.1.2.2.2.1)))) (φ := fun (x : (Int × Int × (List Int) × Int × Int × Unit) × (Unit)) => x.1.2.2.2.2.1) (ψ := fun (i : Int × Int × (List Int) × Int) (v : Int) => ((i.1, (i.2.1, (i.2.2.1, (i.2.2.2, (v, ()))))), ())) (F := fun (i : Int × Int × (List Int) × Int) => spec_l1All_l0F i.1 i.2.1 i.2.2.1 i.2.2.2) (fun _ => rfl) fun i k hk v => Par.of_eq (spec_l1All_l0e i.1 i.2.1 i.2.2.1 i.2.2.2 k v) (spec_l1All_l0p i.1 i.2.1 i.2.2.1 i.2.2.2 (fun a4 => hk a4) v)
def c48 : Callee := mkC [.one (.ro (.slice (.int .i64))), .one (.ro (.int .i64)), .one (.ro (.int .i64))] 1 [.one (.ro .bool)] fun x => spec_l1All x.1 x.2.1 x.2.2
theorem e48 (x : PK.dens [.one (.ro (.slice (.int .i64))), .one (.ro (.int .i64)), .one (.ro (.int .i64))]) : evalFn Try.prog EL48 or48 Try.f48 (PK.outs [.one (.ro (.slice (.int .i64))), .one (.ro (.int .i64)), .one (.ro (.int .i64))] x) =
    spec_l1AllK (fun y => some (tupOf ((PK.outs [.one (.ro .bool)] y).take 1), (PK.outs [.one (.ro .bool)] y).drop 1)) x.1 x.2.1 x.2.2 := by kernel_rfl
theorem o48 : LoOk Try.prog EL48 or48 Try.f48.ntmps (loopsIn (codeOf Try.f48)) :=
  LoOk.mk (m := 1) (by kernel_rfl) fun i hi => match i, hi with
    | 0, _ => ⟨Lspec_l1All_l0, by kernel_rfl, spec_l1All_l0o⟩
    | i + 1, hi => absurd hi (by omega)
theorem k48 : CalleeOk Try.prog 48 c48 := callee_mk Try.func48 (code := codeOf Try.f48) (by kernel_rfl) vL48 mixed o48 fun x y h => (e48 x).trans (p48 _ x.1 x.2.1 x.2.2 y h)

/-- spec.blBins -/
def EL34 : Nat → Option Callee := addE 48 c48 (addE 31 c31 env0)
theorem vL34 : EnvOk Try.prog EL34 := (EnvOk.nil.add Try.func31 rfl (by kernel_rfl) k31).add Try.func48 rfl (by kernel_rfl) k48
def sspec_blBins_l0 : LS := ⟨[(0, .one (.dat (.slice TWanted))), (5, .one (.dat (.slice TWanted))), (6, .one (.dat (.int .i64))), (7, .one (.dat (.int .i64)))], [], []⟩
def sspec_blBins_l0x0 : LS := ⟨[(2, .one (.dat .bool))], [], []⟩
def sspec_blBins_l0x1 : LS := ⟨[(0, .one (.dat (.slice TWanted)))], [], []⟩
def xspec_blBins_l0 : List (XS ((List DWanted) × (List DWanted) × Int)) := [⟨.ret, ⟨[2], [], [], []⟩, sspec_blBins_l0x0, Bool, fun i y => ((y, ()), ())⟩,
  ⟨.exit 0, ⟨[0], [], [], []⟩, sspec_blBins_l0x1, Unit, fun i y => ((i.1, ()), ())⟩]
def spec_blBins_l0K {R : Type} (a1 : List DWanted) (a2 : Int) (rc : Int → Option R) (fin : (Bool ⊕ Unit) → Option R) (a3 : Int) : Option R :=
  cond (decide (a3 < a2))
  ((lat a1 a3).bind fun e1 =>
    (spec_l1In e1.1 0 12).bind fun y2 =>
    cond (!y2)
    (fin (.inl false))
    ((spec_l1All [e1.2.1, e1.2.2.1, e1.2.2.2.1] 0 1000).bind fun y3 =>
      cond (!y3)
      (fin (.inl false))
      (rc (IntKind.i64.wrap (a3 + 1)))))
  (fin (.inr ()))
def spec_blBins_l0F (a1 : List DWanted) (a2 : Int) (r : Int → Option (Bool ⊕ Unit)) (x : Int) : Option (Bool ⊕ Unit) := spec_blBins_l0K a1 a2 (fun a3 => r a3) some x
theorem spec_blBins_l0c (a1 : List DWanted) (a2 : Int) (x : Int) : Ct fun r => spec_blBins_l0F a1 a2 r x := by
  unfold spec_blBins_l0F spec_blBins_l0K
  repeat' (first | exact Ct.const | exact Ct.call | refine Ct.cond ?_ ?_ | refine Ct.bind ?_ fun _ => ?_ | refine Ct.sum (fun _ => ?_) fun _ => ?_)
def spec_blBins_l0 (a1 : List DWanted) (a2 : Int) (a3 : Int) : Option (Bool ⊕ Unit) := lim (spec_blBins_l0F a1 a2) a3
theorem spec_blBins_l0_eq (a1 : List DWanted) (a2 : Int) (a3 : Int) : spec_blBins_l0 a1 a2 a3 = spec_blBins_l0K a1 a2 (spec_blBins_l0 a1 a2) some a3 := lim_eq (spec_blBins_l0c a1 a2) a3
theorem spec_blBins_l0p {R : Type} (a1 : List DWanted) (a2 : Int) {rc : Int → Option (Bool ⊕ Unit)} {rc' : Int → Option R} {fin : (Bool ⊕ Unit) → Option R} (hr : ∀ a3, Par fin (rc a3) (rc' a3)) (a3 : Int) : Par fin (spec_blBins_l0K a1 a2 rc some a3) (spec_blBins_l0K a1 a2 rc' fin a3) := by
  unfold spec_blBins_l0K
  repeat' (first | exact .fin | exact .none | exact hr _ | refine .cond ?_ ?_ | refine .bind fun _ => ?_ | refine .sum (fun _ => ?_) fun _ => ?_)
def Lspec_blBins_l0 : Loop := mkL ⟨[0, 5, 6, 7], [], [], []⟩ sspec_blBins_l0 xspec_blBins_l0 (fun (x : ((List DWanted) × (List DWanted) × Int × Int × Unit) × (Unit)) => (x.1.1, (x.1.2.1, x.1.2.2.1))) fun (x : ((List DWanted) × (List DWanted) × Int × Int × Unit) × (Unit)) => spec_blBins_l0 x.1.2.1 x.1.2.2.1 x.1.2.2.2.1
def spec_blBinsK {R : Type} (fin : Bool → Option R) (x0 : List DWanted) : Option R :=
  (spec_blBins_l0 x0 (x0.length : Int) 0).bind fun y4 =>
  sumO y4 (fun y5 =>
  fin y5)
  (fun y6 =>
  (spec_l1In (x0.length : Int) 1 6).bind fun y7 =>
    fin y7)
def spec_blBins (x0 : List DWanted) : Option (Bool) := spec_blBinsK some x0
theorem p34 {R : Type} (fin : Bool → Option R) (x0 : List DWanted) : Par fin (spec_blBinsK some x0) (spec_blBinsK fin x0) := by
  unfold spec_blBinsK
  repeat' (first | exact .fin | exact .none | refine .cond ?_ ?_ | refine .bind fun _ => ?_ | refine .sum (fun _ => ?_) fun _ => ?_)
def or34 : Ora := { lo := addL 2 (Lspec_blBins_l0) lo0, fin := [] }
theorem spec_blBins_l0e (a0 : List DWanted) (a1 : List DWanted) (a2 : Int) (k : Nat) (a3 : Int) : loopC Try.prog EL34 or34 ((loopsIn (codeOf Try.f34)).getD 0 .skip) (Lspec_blBins_l0).h (Lspec_blBins_l0).ho Try.f34.ntmps (k + 1) (sspec_blBins_l0.out ((a0, (a1, (a2, (a3, ())))), ())) =
    spec_blBins_l0K a1 a2 (fun a3 => loopC Try.prog EL34 or34 ((loopsIn (codeOf Try.f34)).getD 0 .skip) (Lspec_blBins_l0).h (Lspec_blBins_l0).ho Try.f34.ntmps k (sspec_blBins_l0.out ((a0, (a1, (a2, (a3, ())))), ()))) (fun y => some (XS.out xspec_blBins_l0 (a0, (a1, a2)) y)) a3 := by kernel_rfl
theorem spec_blBins_l0o : LoopOk Try.prog EL34 or34 Try.f34.ntmps ((loopsIn (codeOf Try.f34)).getD 0 .skip) (Lspec_blBins_l0) :=
  loop_lim (hs := sspec_blBins_l0) (xs := xspec_blBins_l0) (ι := fun (x : ((List DWanted) × (List DWanted) × Int × Int × Unit) × (Unit)) => (x.1.1, (x.1.2.1, x.1.2.2.1))) (φ := fun (x : ((List DWanted) × (List DWanted) × Int × Int × Unit) × (Unit)) => x.1.2.2.2.1) (ψ := fun (i : (List DWanted) × (List DWanted) × Int) (v : Int) => ((i.1, (i.2.1, (i.2.2, (v, ())))), ())) (F := fun (i : (List DWanted) × (List DWanted) × Int) => spec_blBins_l0F i.2.1 i.2.2) (fun _ => rfl) fun i k hk v => Par.of_eq (spec_blBins_l0e i.1 i.2.1 i.2.2 k v) (spec_blBins_l0p i.2.1 i.2.2 (fun a3 => hk a3) v)
def c34 : Callee := mkC [.one (.ro (.slice TWanted))] 1 [.one (.ro .bool)] fun x => spec_blBins x
theorem e34 (x : PK.dens [.one (.ro (.slice TWanted))]) : evalFn Try.prog EL34 or34 Try.f34 (PK.outs [.one (.ro (.slice TWanted))] x) =
    spec_blBinsK (fun y => some (tupOf ((PK.outs [.one (.ro .bool)] y).take 1), (PK.outs [.one (.ro .bool)] y).drop 1)) x := by kernel_rfl
theorem o34 : LoOk Try.prog EL34 or34 Try.f34.ntmps (loopsIn (codeOf Try.f34)) :=
  LoOk.mk (m := 1) (by kernel_rfl) fun i hi => match i, hi with
    | 0, _ => ⟨Lspec_blBins_l0, by kernel_rfl, spec_blBins_l0o⟩
    | i + 1, hi => absurd hi (by omega)
theorem k34 : CalleeOk Try.prog 34 c34 := callee_mk Try.func34 (code := codeOf Try.f34) (by kernel_rfl) vL34 mixed o34 fun x y h => (e34 x).trans (p34 _ x y h)

/-- spec.AreBins -/
def EL16 : Nat → Option Callee := addE 34 c34 env0
theorem vL16 : EnvOk Try.prog EL16 := EnvOk.nil.add Try.func34 rfl (by kernel_rfl) k34
def spec_AreBinsK {R : Type} (fin : Bool → Option R) (x0 : List DWanted) : Option R :=
  (spec_blBins x0).bind fun y1 =>
  fin y1
def spec_AreBins (x0 : List DWanted) : Option (Bool) := spec_AreBinsK some x0
theorem p16 {R : Type} (fin : Bool → Option R) (x0 : List DWanted) : Par fin (spec_AreBinsK some x0) (spec_AreBinsK fin x0) := by
  unfold spec_AreBinsK
  repeat' (first | exact .fin | exact .none | refine .cond ?_ ?_ | refine .bind fun _ => ?_ | refine .sum (fun _ => ?_) fun _ => ?_)
def c16 : Callee := mkC [.one (.ro (.slice TWanted))] 1 [.one (.ro .bool)] fun x => spec_AreBins x
theorem e16 (x : PK.dens [.one (.ro (.slice TWanted))]) : evalFn Try.prog EL16 or0 Try.f16 (PK.outs [.one (.ro (.slice TWanted))] x) =
    spec_AreBinsK (fun y => some (tupOf ((PK.outs [.one (.ro .bool)] y).take 1), (PK.outs [.one (.ro .bool)] y).drop 1)) x := by kernel_rfl
theorem k16 : CalleeOk Try.prog 16 c16 := callee_mk Try.func16 (code := codeOf Try.f16) (by kernel_rfl) vL16 mixed (LoOk.nil (by kernel_rfl)) fun x y h => (e16 x).trans (p16 _ x y h)

/-- impl.AreBins -/
def EL18 : Nat → Option Callee := env0
theorem vL18 : EnvOk Try.prog EL18 := EnvOk.nil
def simpl_AreBins_l0 : LS := ⟨[(13, .one (.dat (.slice TWanted))), (14, .one (.dat (.int .i64))), (15, .one (.dat (.int .i64)))], [], []⟩
def simpl_AreBins_l0x0 : LS := ⟨[(2, .one (.dat .bool))], [], []⟩
def simpl_AreBins_l0x1 : LS := ⟨[], [], []⟩
def ximpl_AreBins_l0 : List (XS ((List DWanted) × Int)) := [⟨.ret, ⟨[2], [], [], []⟩, simpl_AreBins_l0x0, Bool, fun i y => ((y, ()), ())⟩,
  ⟨.exit 0, ⟨[], [], [], []⟩, simpl_AreBins_l0x1, Unit, fun i y => ((), ())⟩]
def impl_AreBins_l0K {R : Type} (a0 : List DWanted) (a1 : Int) (rc : Int → Option R) (fin : (Bool ⊕ Unit) → Option R) (a2 : Int) : Option R :=
  cond (decide (a2 < a1))
  ((lat a0 a2).bind fun e1 =>
    cond (decide (e1.1 < 0))
    (fin (.inl false))
    (cond (decide (e1.1 > 12))
      (fin (.inl false))
      (cond (decide (e1.2.1 < 0))
        (fin (.inl false))
        (cond (decide (e1.2.1 > 1000))
          (fin (.inl false))
          (cond (decide (e1.2.2.1 < 0))
            (fin (.inl false))
            (cond (decide (e1.2.2.1 > 1000))
              (fin (.inl false))
              (cond (decide (e1.2.2.2.1 < 0))
                (fin (.inl false))
                (cond (decide (e1.2.2.2.1 > 1000))
                  (fin (.inl false))
                  (rc (IntKind.i64.wrap (a2 + 1)))))))))))
  (fin (.inr ()))
def impl_AreBins_l0F (a0 : List DWanted) (a1 : Int) (r : Int → Option (Bool ⊕ Unit)) (x : Int) : Option (Bool ⊕ Unit) := impl_AreBins_l0K a0 a1 (fun a2 => r a2) some x
theorem impl_AreBins_l0c (a0 : List DWanted) (a1 : Int) (x : Int) : Ct fun r => impl_AreBins_l0F a0 a1 r x := by
  unfold impl_AreBins_l0F impl_AreBins_l0K
  repeat' (first | exact Ct.const | exact Ct.call | refine Ct.cond ?_ ?_ | refine Ct.bind ?_ fun _ => ?_ | refine Ct.sum (fun _ => ?_) fun _ => ?_)
def impl_AreBins_l0 (a0 : List DWanted) (a1 : Int) (a2 : Int) : Option (Bool ⊕ Unit) := lim (impl_AreBins_l0F a0 a1) a2
theorem impl_AreBins_l0_eq (a0 : List DWanted) (a1 : Int) (a2 : Int) : impl_AreBins_l0 a0 a1 a2 = impl_AreBins_l0K a0 a1 (impl_AreBins_l0 a0 a1) some a2 := lim_eq (impl_AreBins_l0c a0 a1) a2
theorem impl_AreBins_l0p {R : Type} (a0 : List DWanted) (a1 : Int) {rc : Int → Option (Bool ⊕ Unit)} {rc' : Int → Option R} {fin : (Bool ⊕ Unit) → Option R} (hr : ∀ a2, Par fin (rc a2) (rc' a2)) (a2 : Int) : Par fin (impl_AreBins_l0K a0 a1 rc some a2) (impl_AreBins_l0K a0 a1 rc' fin a2) := by
  unfold impl_AreBins_l0K
  repeat' (first | exact .fin | exact .none | exact hr _ | refine .cond ?_ ?_ | refine .bind fun _ => ?_ | refine .sum (fun _ => ?_) fun _ => ?_)
def Limpl_AreBins_l0 : Loop := mkL ⟨[13, 14, 15], [], [], []⟩ simpl_AreBins_l0 ximpl_AreBins_l0 (fun (x : ((List DWanted) × Int × Int × Unit) × (Unit)) => (x.1.1, x.1.2.1)) fun (x : ((List DWanted) × Int × Int × Unit) × (Unit)) => impl_AreBins_l0 x.1.1 x.1.2.1 x.1.2.2.1
def impl_AreBinsK {R : Type} (fin : Bool → Option R) (x0 : List DWanted) : Option R :=
  cond (decide ((x0.length : Int) < 1))
  (fin false)
  (cond (decide ((x0.length : Int) > 6))
    (fin false)
    ((impl_AreBins_l0 x0 (x0.length : Int) 0).bind fun y2 =>
      sumO y2 (fun y3 =>
      fin y3)
      (fun y4 =>
      fin true)))
def impl_AreBins (x0 : List DWanted) : Option (Bool) := impl_AreBinsK some x0
theorem p18 {R : Type} (fin : Bool → Option R) (x0 : List DWanted) : Par fin (impl_AreBinsK some x0) (impl_AreBinsK fin x0) := by
  unfold impl_AreBinsK
  repeat' (first | exact .fin | exact .none | refine .cond ?_ ?_ | refine .bind fun _ => ?_ | refine .sum (fun _ => ?_) fun _ => ?_)
def or18 : Ora := { lo := addL 4 (Limpl_AreBins_l0) lo0, fin := [] }
theorem impl_AreBins_l0e (a0 : List DWanted) (a1 : Int) (k : Nat) (a2 : Int) : loopC Try.prog EL18 or18 ((loopsIn (codeOf Try.f18)).getD 0 .skip) (Limpl_AreBins_l0).h (Limpl_AreBins_l0).ho Try.f18.ntmps (k + 1) (simpl_AreBins_l0.out ((a0, (a1, (a2, ()))), ())) =
    impl_AreBins_l0K a0 a1 (fun a2 => loopC Try.prog EL18 or18 ((loopsIn (codeOf Try.f18)).getD 0 .skip) (Limpl_AreBins_l0).h (Limpl_AreBins_l0).ho Try.f18.ntmps k (simpl_AreBins_l0.out ((a0, (a1, (a2, ()))), ()))) (fun y => some (XS.out ximpl_AreBins_l0 (a0, a1) y)) a2 := by kernel_rfl
theorem impl_AreBins_l0o : LoopOk Try.prog EL18 or18 Try.f18.ntmps ((loopsIn (codeOf Try.f18)).getD 0 .skip) (Limpl_AreBins_l0) :=
  loop_lim (hs := simpl_AreBins_l0) (xs := ximpl_AreBins_l0) (ι := fun (x : ((List DWanted) × Int × Int × Unit) × (Unit)) => (x.1.1, x.1.2.1)) (φ := fun (x : ((List DWanted) × Int × Int × Unit) × (Unit)) => x.1.2.2.1) (ψ := fun (i : (List DWanted) × Int) (v : Int) => ((i.1, (i.2, (v, ()))), ())) (F := fun (i : (List DWanted) × Int) => impl_AreBins_l0F i.1 i.2) (fun _ => rfl) fun i k hk v => Par.of_eq (impl_AreBins_l0e i.1 i.2 k v) (impl_AreBins_l0p i.1 i.2 (fun a2 => hk a2) v)
def c18 : Callee := mkC [.one (.ro (.slice TWanted))] 1 [.one (.ro .bool)] fun x => impl_AreBins x
theorem e18 (x : PK.dens [.one (.ro (.slice TWanted))]) : evalFn Try.prog EL18 or18 Try.f18 (PK.outs [.one (.ro (.slice TWanted))] x) =
    impl_AreBinsK (fun y => some (tupOf ((PK.outs [.one (.ro .bool)] y).take 1), (PK.outs [.one (.ro .bool)] y).drop 1)) x := by kernel_rfl
theorem o18 : LoOk Try.prog EL18 or18 Try.f18.ntmps (loopsIn (codeOf Try.f18)) :=
  LoOk.mk (m := 1) (by kernel_rfl) fun i hi => match i, hi with
    | 0, _ => ⟨Limpl_AreBins_l0, by kernel_rfl, impl_AreBins_l0o⟩
    | i + 1, hi => absurd hi (by omega)
theorem k18 : CalleeOk Try.prog 18 c18 := callee_mk Try.func18 (code := codeOf Try.f18) (by kernel_rfl) vL18 mixed o18 fun x y h => (e18 x).trans (p18 _ x y h)

/-- laws.eqBin -/
def EL36 : Nat → Option Callee := env0
theorem vL36 : EnvOk Try.prog EL36 := EnvOk.nil
def laws_eqBinK {R : Type} (fin : Bool → Option R) (x0 : DWanted) (x1 : DWanted) : Option R :=
  cond (x0.1 != x1.1)
  (fin false)
  (cond (x0.2.1 != x1.2.1)
    (fin false)
    (cond (x0.2.2.1 != x1.2.2.1)
      (fin false)
      (cond (x0.2.2.2.1 != x1.2.2.2.1)
        (fin false)
        (fin true))))
def laws_eqBin (x0 : DWanted) (x1 : DWanted) : Option (Bool) := laws_eqBinK some x0 x1
theorem p36 {R : Type} (fin : Bool → Option R) (x0 : DWanted) (x1 : DWanted) : Par fin (laws_eqBinK some x0 x1) (laws_eqBinK fin x0 x1) := by
  unfold laws_eqBinK
  repeat' (first | exact .fin | exact .none | refine .cond ?_ ?_ | refine .bind fun _ => ?_ | refine .sum (fun _ => ?_) fun _ => ?_)
def c36 : Callee := mkC [.agg [.ro TWanted], .agg [.ro TWanted]] 1 [.one (.ro .bool)] fun x => laws_eqBin x.1 x.2
theorem e36 (x : PK.dens [.agg [.ro TWanted], .agg [.ro TWanted]]) : evalFn Try.prog EL36 or0 Try.f36 (PK.outs [.agg [.ro TWanted], .agg [.ro TWanted]] x) =
    laws_eqBinK (fun y => some (tupOf ((PK.outs [.one (.ro .bool)] y).take 1), (PK.outs [.one (.ro .bool)] y).drop 1)) x.1 x.2 := by kernel_rfl
theorem k36 : CalleeOk Try.prog 36 c36 := callee_mk Try.func36 (code := codeOf Try.f36) (by kernel_rfl) vL36 mixed (LoOk.nil (by kernel_rfl)) fun x y h => (e36 x).trans (p36 _ x.1 x.2 y h)

/-- laws.eqBinS -/
def EL19 : Nat → Option Callee := addE 36 c36 env0
theorem vL19 : EnvOk Try.prog EL19 := EnvOk.nil.add Try.func36 rfl (by kernel_rfl) k36
def slaws_eqBinS_l0 : LS := ⟨[(0, .one (.dat (.slice TWanted))), (1, .one (.dat (.slice TWanted))), (5, .one (.dat (.int .i64)))], [], []⟩
def slaws_eqBinS_l0x0 : LS := ⟨[(4, .one (.dat .bool))], [], []⟩
def slaws_eqBinS_l0x1 : LS := ⟨[], [], []⟩
def xlaws_eqBinS_l0 : List (XS ((List DWanted) × (List DWanted))) := [⟨.ret, ⟨[4], [], [], []⟩, slaws_eqBinS_l0x0, Bool, fun i y => ((y, ()), ())⟩,
  ⟨.exit 0, ⟨[], [], [], []⟩, slaws_eqBinS_l0x1, Unit, fun i y => ((), ())⟩]
def laws_eqBinS_l0K {R : Type} (a0 : List DWanted) (a1 : List DWanted) (rc : Int → Option R) (fin : (Bool ⊕ Unit) → Option R) (a2 : Int) : Option R :=
  cond (decide (a2 < (a0.length : Int)))
  ((lat a0 a2).bind fun e1 =>
    (lat a1 a2).bind fun e2 =>
    (laws_eqBin e1 e2).bind fun y3 =>
    cond (!y3)
    (fin (.inl false))
    (rc (IntKind.i64.wrap (a2 + 1))))
  (fin (.inr ()))
def laws_eqBinS_l0F (a0 : List DWanted) (a1 : List DWanted) (r : Int → Option (Bool ⊕ Unit)) (x : Int) : Option (Bool ⊕ Unit) := laws_eqBinS_l0K a0 a1 (fun a2 => r a2) some x
theorem laws_eqBinS_l0c (a0 : List DWanted) (a1 : List DWanted) (x : Int) : Ct fun r => laws_eqBinS_l0F a0 a1 r x := by
  unfold laws_eqBinS_l0F laws_eqBinS_l0K
  repeat' (first | exact Ct.const | exact Ct.call | refine Ct.cond ?_ ?_ | refine Ct.bind ?_ fun _ => ?_ | refine Ct.sum (fun _ => ?_) fun _ => ?_)
def laws_eqBinS_l0 (a0 : List DWanted) (a1 : List DWanted) (a2 : Int) : Option (Bool ⊕ Unit) := lim (laws_eqBinS_l0F a0 a1) a2
theorem laws_eqBinS_l0_eq (a0 : List DWanted) (a1 : List DWanted) (a2 : Int) : laws_eqBinS_l0 a0 a1 a2 = laws_eqBinS_l0K a0 a1 (laws_eqBinS_l0 a0 a1) some a2 := lim_eq (laws_eqBinS_l0c a0 a1) a2
theorem laws_eqBinS_l0p {R : Type} (a0 : List DWanted) (a1 : List DWanted) {rc : Int → Option (Bool ⊕ Unit)} {rc' : Int → Option R} {fin : (Bool ⊕ Unit) → Option R} (hr : ∀ a2, Par fin (rc a2) (rc' a2)) (a2 : Int) : Par fin (laws_eqBinS_l0K a0 a1 rc some a2) (laws_eqBinS_l0K a0 a1 rc' fin a2) := by
  unfold laws_eqBinS_l0K
  repeat' (first | exact .fin | exact .none | exact hr _ | refine .cond ?_ ?_ | refine .bind fun _ => ?_ | refine .sum (fun _ => ?_) fun _ => ?_)
def Llaws_eqBinS_l0 : Loop := mkL ⟨[0, 1, 5], [], [], []⟩ slaws_eqBinS_l0 xlaws_eqBinS_l0 (fun (x : ((List DWanted) × (List DWanted) × Int × Unit) × (Unit)) => (x.1.1, x.1.2.1)) fun (x : ((List DWanted) × (List DWanted) × Int × Unit) × (Unit)) => laws_eqBinS_l0 x.1.1 x.1.2.1 x.1.2.2.1
def laws_eqBinSK {R : Type} (fin : Bool → Option R) (x0 : List DWanted) (x1 : List DWanted) : Option R :=
  cond ((x0.length : Int) != (x1.length : Int))
  (fin false)
  ((laws_eqBinS_l0 x0 x1 0).bind fun y4 =>
    sumO y4 (fun y5 =>
    fin y5)
    (fun y6 =>
    fin true))
def laws_eqBinS (x0 : List DWanted) (x1 : List DWanted) : Option (Bool) := laws_eqBinSK some x0 x1
theorem p19 {R : Type} (fin : Bool → Option R) (x0 : List DWanted) (x1 : List DWanted) : Par fin (laws_eqBinSK some x0 x1) (laws_eqBinSK fin x0 x1) := by
  unfold laws_eqBinSK
  repeat' (first | exact .fin | exact .none | refine .cond ?_ ?_ | refine .bind fun _ => ?_ | refine .sum (fun _ => ?_) fun _ => ?_)
def or19 : Ora := { lo := addL 4 (Llaws_eqBinS_l0) lo0, fin := [] }
theorem laws_eqBinS_l0e (a0 : List DWanted) (a1 : List DWanted) (k : Nat) (a2 : Int) : loopC Try.prog EL19 or19 ((loopsIn (codeOf Try.f19)).getD 0 .skip) (Llaws_eqBinS_l0).h (Llaws_eqBinS_l0).ho Try.f19.ntmps (k + 1) (slaws_eqBinS_l0.out ((a0, (a1, (a2, ()))), ())) =
    laws_eqBinS_l0K a0 a1 (fun a2 => loopC Try.prog EL19 or19 ((loopsIn (codeOf Try.f19)).getD 0 .skip) (Llaws_eqBinS_l0).h (Llaws_eqBinS_l0).ho Try.f19.ntmps k (slaws_eqBinS_l0.out ((a0, (a1, (a2, ()))), ()))) (fun y => some (XS.out xlaws_eqBinS_l0 (a0, a1) y)) a2 := by kernel_rfl
theorem laws_eqBinS_l0o : LoopOk Try.prog EL19 or19 Try.f19.ntmps ((loopsIn (codeOf Try.f19)).getD 0 .skip) (Llaws_eqBinS_l0) :=
  loop_lim (hs := slaws_eqBinS_l0) (xs := xlaws_eqBinS_l0) (ι := fun (x : ((List DWanted) × (List DWanted) × Int × Unit) × (Unit)) => (x.1.1, x.1.2.1)) (φ := fun (x : ((List DWanted) × (List DWanted) × Int × Unit) × (Unit)) => x.1.2.2.1) (ψ := fun (i : (List DWanted) × (List DWanted)) (v : Int) => ((i.1, (i.2, (v, ()))), ())) (F := fun (i : (List DWanted) × (List DWanted)) => laws_eqBinS_l0F i.1 i.2) (fun _ => rfl) fun i k hk v => Par.of_eq (laws_eqBinS_l0e i.1 i.2 k v) (laws_eqBinS_l0p i.1 i.2 (fun a2 => hk a2) v)
def c19 : Callee := mkC [.one (.ro (.slice TWanted)), .one (.ro (.slice TWanted))] 1 [.one (.ro .bool)] fun x => laws_eqBinS x.1 x.2
theorem e19 (x : PK.dens [.one (.ro (.slice TWanted)), .one (.ro (.slice TWanted))]) : evalFn Try.prog EL19 or19 Try.f19 (PK.outs [.one (.ro (.slice TWanted)), .one (.ro (.slice TWanted))] x) =
    laws_eqBinSK (fun y => some (tupOf ((PK.outs [.one (.ro .bool)] y).take 1), (PK.outs [.one (.ro .bool)] y).drop 1)) x.1 x.2 := by kernel_rfl
theorem o19 : LoOk Try.prog EL19 or19 Try.f19.ntmps (loopsIn (codeOf Try.f19)) :=
  LoOk.mk (m := 1) (by kernel_rfl) fun i hi => match i, hi with
    | 0, _ => ⟨Llaws_eqBinS_l0, by kernel_rfl, laws_eqBinS_l0o⟩
    | i + 1, hi => absurd hi (by omega)
theorem k19 : CalleeOk Try.prog 19 c19 := callee_mk Try.func19 (code := codeOf Try.f19) (by kernel_rfl) vL19 mixed o19 fun x y h => (e19 x).trans (p19 _ x.1 x.2 y h)

/-- laws.FnExactAreBins -/
def EL5 : Nat → Option Callee := addE 19 c19 (addE 18 c18 (addE 16 c16 (addE 17 c17 (addE 15 c15 env0))))
theorem vL5 : EnvOk Try.prog EL5 := ((((EnvOk.nil.add Try.func15 rfl (by kernel_rfl) k15).add Try.func17 rfl (by kernel_rfl) k17).add Try.func16 rfl (by kernel_rfl) k16).add Try.func18 rfl (by kernel_rfl) k18).add Try.func19 rfl (by kernel_rfl) k19
def laws_FnExactAreBinsK {R : Type} (fin : Bool → Option R) (x0 : List DWanted) : Option R :=
  (laws_szBinS x0 1048576).bind fun y1 =>
  cond (decide (y1 < 0))
  (fin true)
  ((laws_toBinS x0).bind fun y2 =>
    (spec_AreBins y2).bind fun y3 =>
    (laws_toBinS x0).bind fun y4 =>
    (impl_AreBins y4).bind fun y5 =>
    cond (!(y5 == y3))
    (fin false)
    ((laws_toBinS x0).bind fun y6 =>
      (laws_eqBinS y4 y6).bind fun y7 =>
      cond (!y7)
      (fin false)
      (fin true)))
def laws_FnExactAreBins (x0 : List DWanted) : Option (Bool) := laws_FnExactAreBinsK some x0
theorem p5 {R : Type} (fin : Bool → Option R) (x0 : List DWanted) : Par fin (laws_FnExactAreBinsK some x0) (laws_FnExactAreBinsK fin x0) := by
  unfold laws_FnExactAreBinsK
  repeat' (first | exact .fin | exact .none | refine .cond ?_ ?_ | refine .bind fun _ => ?_ | refine .sum (fun _ => ?_) fun _ => ?_)
def c5 : Callee := mkC [.one (.ro (.slice TWanted))] 1 [.one (.ro .bool)] fun x => laws_FnExactAreBins x
theorem e5 (x : PK.dens [.one (.ro (.slice TWanted))]) : evalFn Try.prog EL5 or0 Try.f5 (PK.outs [.one (.ro (.slice TWanted))] x) =
    laws_FnExactAreBinsK (fun y => some (tupOf ((PK.outs [.one (.ro .bool)] y).take 1), (PK.outs [.one (.ro .bool)] y).drop 1)) x := by kernel_rfl
theorem k5 : CalleeOk Try.prog 5 c5 := callee_mk Try.func5 (code := codeOf Try.f5) (by kernel_rfl) vL5 mixed (LoOk.nil (by kernel_rfl)) fun x y h => (e5 x).trans (p5 _ x y h)
end
end Go.OAI
