/- Contracts: GBe. -/
import Derived.Test.YtjidcahgobilhaaGIsWanted
namespace Go.OAI
open Go.Proofs
set_option linter.unusedVariables false
noncomputable section


/-- spec.l1Least -/
def EL51 : Nat → Option Callee := env0
theorem vL51 : EnvOk Try.prog EL51 := EnvOk.nil
def spec_l1LeastK {R : Type} (fin : Int → Option R) (x0 : Int) (x1 : Int) : Option R :=
  cond (decide (x0 < x1))
  (fin x0)
  (fin x1)
def spec_l1Least (x0 : Int) (x1 : Int) : Option (Int) := spec_l1LeastK some x0 x1
theorem p51 {R : Type} (fin : Int → Option R) (x0 : Int) (x1 : Int) : Par fin (spec_l1LeastK some x0 x1) (spec_l1LeastK fin x0 x1) := by
  unfold spec_l1LeastK
  repeat' (first | exact .fin | exact .none | refine .cond ?_ ?_ | refine .bind fun _ => ?_ | refine .sum (fun _ => ?_) fun _ => ?_)
def c51 : Callee := mkC [.one (.ro (.int .i64)), .one (.ro (.int .i64))] 1 [.one (.ro (.int .i64))] fun x => spec_l1Least x.1 x.2
theorem e51 (x : PK.dens [.one (.ro (.int .i64)), .one (.ro (.int .i64))]) : evalFn Try.prog EL51 or0 Try.f51 (PK.outs [.one (.ro (.int .i64)), .one (.ro (.int .i64))] x) =
    spec_l1LeastK (fun y => some (tupOf ((PK.outs [.one (.ro (.int .i64))] y).take 1), (PK.outs [.one (.ro (.int .i64))] y).drop 1)) x.1 x.2 := by kernel_rfl
theorem k51 : CalleeOk Try.prog 51 c51 := callee_mk Try.func51 (code := codeOf Try.f51) (by kernel_rfl) vL51 mixed (LoOk.nil (by kernel_rfl)) fun x y h => (e51 x).trans (p51 _ x.1 x.2 y h)

/-- spec.blAll -/
def EL49 : Nat → Option Callee := addE 51 c51 env0
theorem vL49 : EnvOk Try.prog EL49 := EnvOk.nil.add Try.func51 rfl (by kernel_rfl) k51
def sspec_blAll_l1 : LS := ⟨[(0, .one (.dat (.slice TWanted))), (1, .one (.dat (.int .i64))), (5, .one (.fix (.sref 0))), (6, .one (.dat (.int .i64))), (31, .one (.fix (.sref 1))), (32, .one (.dat (.int .i64))), (33, .one (.dat (.int .i64)))], [.mat (.int .i64), .mat (.int .i64)], []⟩
def sspec_blAll_l1x0 : LS := ⟨[(0, .one (.dat (.slice TWanted))), (1, .one (.dat (.int .i64))), (5, .one (.fix (.sref 0))), (6, .one (.dat (.int .i64)))], [.mat (.int .i64)], []⟩
def xspec_blAll_l1 : List (XS ((List DWanted) × Int × Int × Int × (List (List Int)))) := [⟨.exit 2, ⟨[0, 1, 5, 6], [.slot 5], [], []⟩, sspec_blAll_l1x0, List (List Int), fun i y => ((i.1, (i.2.1, ((), (i.2.2.1, ())))), (y, ()))⟩]
def spec_blAll_l1K {R : Type} (slf : ((List DWanted) × Int) → Option (List (List Int))) (a2 : Int) (a3 : Int) (a6 : List (List Int)) (rc : Int → List (List Int) → Option R) (fin : List (List Int) → Option R) (a4 : Int) (a5 : List (List Int)) : Option R :=
  cond (decide (a4 < a3))
  (cond (decide ((0 : Int) ≤ a4) && decide (a4 < (a6.length : Int)))
    (cond (decide ([a2].length + (a6.getD (0 + a4.toNat) []).length ≤ 1099511627776))
      ((some ([a2] ++ (a6.getD (0 + a4.toNat) []))).bind fun v1 =>
        cond (decide (a5.length + [v1].length ≤ 1099511627776))
        (rc (IntKind.i64.wrap (a4 + 1)) (a5 ++ [v1]))
        (none))
      (none))
    (none))
  (fin a5)
def spec_blAll_l1F (slf : ((List DWanted) × Int) → Option (List (List Int))) (a2 : Int) (a3 : Int) (a6 : List (List Int)) (r : (Int × (List (List Int))) → Option (List (List Int))) (x : Int × (List (List Int))) : Option (List (List Int)) := spec_blAll_l1K slf a2 a3 a6 (fun a4 a5 => r (a4, a5)) some x.1 x.2
theorem spec_blAll_l1c (slf : ((List DWanted) × Int) → Option (List (List Int))) (a2 : Int) (a3 : Int) (a6 : List (List Int)) (x : Int × (List (List Int))) : Ct fun r => spec_blAll_l1F slf a2 a3 a6 r x := by
  unfold spec_blAll_l1F spec_blAll_l1K
  repeat' (first | exact Ct.const | exact Ct.call | refine Ct.cond ?_ ?_ | refine Ct.bind ?_ fun _ => ?_ | refine Ct.sum (fun _ => ?_) fun _ => ?_)
theorem spec_blAll_l1d (a2 : Int) (a3 : Int) (a6 : List (List Int)) (D : (Int × (List (List Int))) → (((List DWanted) × Int) → Option (List (List Int))) → Option (List (List Int))) (hD : ∀ a, Ct (D a)) (x : Int × (List (List Int))) : Ct fun slf => spec_blAll_l1F slf a2 a3 a6 (fun a => D a slf) x := by
  unfold spec_blAll_l1F spec_blAll_l1K
  repeat' (first | exact Ct.const | exact Ct.call | exact hD _ | exact spec_blAll_l0s _ _ _ | refine Ct.cond ?_ ?_ | refine Ct.bind ?_ fun _ => ?_ | refine Ct.sum (fun _ => ?_) fun _ => ?_)
def spec_blAll_l1 (slf : ((List DWanted) × Int) → Option (List (List Int))) (a2 : Int) (a3 : Int) (a6 : List (List Int)) (a4 : Int) (a5 : List (List Int)) : Option (List (List Int)) := lim (spec_blAll_l1F slf a2 a3 a6) (a4, a5)
theorem spec_blAll_l1_eq (slf : ((List DWanted) × Int) → Option (List (List Int))) (a2 : Int) (a3 : Int) (a6 : List (List Int)) (a4 : Int) (a5 : List (List Int)) : spec_blAll_l1 slf a2 a3 a6 a4 a5 = spec_blAll_l1K slf a2 a3 a6 (spec_blAll_l1 slf a2 a3 a6) some a4 a5 := lim_eq (spec_blAll_l1c slf a2 a3 a6) (a4, a5)
theorem spec_blAll_l1s (a2 : Int) (a3 : Int) (a6 : List (List Int)) (x : Int × (List (List Int))) : Ct fun slf => lim (spec_blAll_l1F slf a2 a3 a6) x := Ct.lim (fun slf a => spec_blAll_l1c slf a2 a3 a6 a) (spec_blAll_l1d a2 a3 a6) x
theorem spec_blAll_l1p {R : Type} (slf : ((List DWanted) × Int) → Option (List (List Int))) (a2 : Int) (a3 : Int) (a6 : List (List Int)) {rc : Int → List (List Int) → Option (List (List Int))} {rc' : Int → List (List Int) → Option R} {fin : List (List Int) → Option R} (hr : ∀ a4 a5, Par fin (rc a4 a5) (rc' a4 a5)) (a4 : Int) (a5 : List (List Int)) : Par fin (spec_blAll_l1K slf a2 a3 a6 rc some a4 a5) (spec_blAll_l1K slf a2 a3 a6 rc' fin a4 a5) := by
  unfold spec_blAll_l1K
  repeat' (first | exact .fin | exact .none | exact hr _ _ | refine .cond ?_ ?_ | refine .bind fun _ => ?_ | refine .sum (fun _ => ?_) fun _ => ?_)
def Lspec_blAll_l1 (slf : ((List DWanted) × Int) → Option (List (List Int))) : Loop := mkL ⟨[0, 1, 5, 6, 31, 32, 33], [.slot 5, .slot 31], [], []⟩ sspec_blAll_l1 xspec_blAll_l1 (fun (x : ((List DWanted) × Int × Unit × Int × Unit × Int × Int × Unit) × ((List (List Int)) × (List (List Int)) × Unit)) => (x.1.1, (x.1.2.1, (x.1.2.2.2.1, (x.1.2.2.2.2.2.1, x.2.2.1))))) fun (x : ((List DWanted) × Int × Unit × Int × Unit × Int × Int × Unit) × ((List (List Int)) × (List (List Int)) × Unit)) => spec_blAll_l1 slf x.1.2.2.2.1 x.1.2.2.2.2.2.1 x.2.2.1 x.1.2.2.2.2.2.2.1 x.2.1
def sspec_blAll_l0 : LS := ⟨[(0, .one (.dat (.slice TWanted))), (1, .one (.dat (.int .i64))), (5, .one (.fix (.sref 0))), (6, .one (.dat (.int .i64)))], [.mat (.int .i64)], []⟩
def sspec_blAll_l0x0 : LS := ⟨[(5, .one (.fix (.sref 0)))], [.mat (.int .i64)], []⟩
def xspec_blAll_l0 : List (XS ((List DWanted) × Int)) := [⟨.exit 0, ⟨[5], [.slot 5], [], []⟩, sspec_blAll_l0x0, List (List Int), fun i y => (((), ()), (y, ()))⟩]
def spec_blAll_l0K {R : Type} (slf : ((List DWanted) × Int) → Option (List (List Int))) (a0 : List DWanted) (a1 : Int) (rc : Int → List (List Int) → Option R) (fin : List (List Int) → Option R) (a2 : Int) (a3 : List (List Int)) : Option R :=
  (lat a0 0).bind fun e1 =>
  (spec_l1Least a1 e1.1).bind fun y2 =>
  cond (decide (a2 ≤ y2))
  (cond (decide ((1 : Int) ≤ (a0.length : Int)) && decide ((a0.length : Int) ≤ (a0.length : Int)))
    ((slf ((a0.drop 1).take ((a0.length : Int).toNat - 1), IntKind.i64.wrap (a1 - a2))).bind fun y3 =>
      (spec_blAll_l1 slf a2 (y3.length : Int) y3 0 a3).bind fun y5 =>
      rc (IntKind.i64.wrap (a2 + 1)) y5)
    (none))
  (fin a3)
def spec_blAll_l0F (slf : ((List DWanted) × Int) → Option (List (List Int))) (a0 : List DWanted) (a1 : Int) (r : (Int × (List (List Int))) → Option (List (List Int))) (x : Int × (List (List Int))) : Option (List (List Int)) := spec_blAll_l0K slf a0 a1 (fun a2 a3 => r (a2, a3)) some x.1 x.2
theorem spec_blAll_l0c (slf : ((List DWanted) × Int) → Option (List (List Int))) (a0 : List DWanted) (a1 : Int) (x : Int × (List (List Int))) : Ct fun r => spec_blAll_l0F slf a0 a1 r x := by
  unfold spec_blAll_l0F spec_blAll_l0K
  repeat' (first | exact Ct.const | exact Ct.call | refine Ct.cond ?_ ?_ | refine Ct.bind ?_ fun _ => ?_ | refine Ct.sum (fun _ => ?_) fun _ => ?_)
theorem spec_blAll_l0d (a0 : List DWanted) (a1 : Int) (D : (Int × (List (List Int))) → (((List DWanted) × Int) → Option (List (List Int))) → Option (List (List Int))) (hD : ∀ a, Ct (D a)) (x : Int × (List (List Int))) : Ct fun slf => spec_blAll_l0F slf a0 a1 (fun a => D a slf) x := by
  unfold spec_blAll_l0F spec_blAll_l0K
  repeat' (first | exact Ct.const | exact Ct.call | exact hD _ | exact spec_blAll_l1s _ _ _ _ | refine Ct.cond ?_ ?_ | refine Ct.bind ?_ fun _ => ?_ | refine Ct.sum (fun _ => ?_) fun _ => ?_)
def spec_blAll_l0 (slf : ((List DWanted) × Int) → Option (List (List Int))) (a0 : List DWanted) (a1 : Int) (a2 : Int) (a3 : List (List Int)) : Option (List (List Int)) := lim (spec_blAll_l0F slf a0 a1) (a2, a3)
theorem spec_blAll_l0_eq (slf : ((List DWanted) × Int) → Option (List (List Int))) (a0 : List DWanted) (a1 : Int) (a2 : Int) (a3 : List (List Int)) : spec_blAll_l0 slf a0 a1 a2 a3 = spec_blAll_l0K slf a0 a1 (spec_blAll_l0 slf a0 a1) some a2 a3 := lim_eq (spec_blAll_l0c slf a0 a1) (a2, a3)
theorem spec_blAll_l0s (a0 : List DWanted) (a1 : Int) (x : Int × (List (List Int))) : Ct fun slf => lim (spec_blAll_l0F slf a0 a1) x := Ct.lim (fun slf a => spec_blAll_l0c slf a0 a1 a) (spec_blAll_l0d a0 a1) x
theorem spec_blAll_l0p {R : Type} (slf : ((List DWanted) × Int) → Option (List (List Int))) (a0 : List DWanted) (a1 : Int) {rc : Int → List (List Int) → Option (List (List Int))} {rc' : Int → List (List Int) → Option R} {fin : List (List Int) → Option R} (hr : ∀ a2 a3, Par fin (rc a2 a3) (rc' a2 a3)) (a2 : Int) (a3 : List (List Int)) : Par fin (spec_blAll_l0K slf a0 a1 rc some a2 a3) (spec_blAll_l0K slf a0 a1 rc' fin a2 a3) := by
  unfold spec_blAll_l0K
  repeat' (first | exact .fin | exact .none | exact hr _ _ | refine .cond ?_ ?_ | refine .bind fun _ => ?_ | refine .sum (fun _ => ?_) fun _ => ?_)
def Lspec_blAll_l0 (slf : ((List DWanted) × Int) → Option (List (List Int))) : Loop := mkL ⟨[0, 1, 5, 6], [.slot 5], [], [.ownm (.slot 5) (.int .i64)]⟩ sspec_blAll_l0 xspec_blAll_l0 (fun (x : ((List DWanted) × Int × Unit × Int × Unit) × ((List (List Int)) × Unit)) => (x.1.1, x.1.2.1)) fun (x : ((List DWanted) × Int × Unit × Int × Unit) × ((List (List Int)) × Unit)) => spec_blAll_l0 slf x.1.1 x.1.2.1 x.1.2.2.2.1 x.2.1
def spec_blAllK {R : Type} (slf : ((List DWanted) × Int) → Option (List (List Int))) (fin : List (List Int) → Option R) (x0 : List DWanted) (x1 : Int) : Option R :=
  cond ((x0.length : Int) == 0)
  (cond (x1 == 0)
    (fin [[]])
    (fin []))
  ((spec_blAll_l0 slf x0 x1 0 []).bind fun y12 =>
    fin y12)
def spec_blAllF (slf : ((List DWanted) × Int) → Option (List (List Int))) (x : (List DWanted) × Int) : Option (List (List Int)) := spec_blAllK slf some x.1 x.2
theorem spec_blAllc (x : (List DWanted) × Int) : Ct fun slf => spec_blAllF slf x := by
  unfold spec_blAllF spec_blAllK
  repeat' (first | exact Ct.const | exact Ct.call | exact spec_blAll_l1s _ _ _ _ | exact spec_blAll_l0s _ _ _ | refine Ct.cond ?_ ?_ | refine Ct.bind ?_ fun _ => ?_ | refine Ct.sum (fun _ => ?_) fun _ => ?_)
def spec_blAll (x0 : List DWanted) (x1 : Int) : Option (List (List Int)) := lim spec_blAllF (x0, x1)
theorem spec_blAll_eq (x0 : List DWanted) (x1 : Int) : spec_blAll x0 x1 = spec_blAllK (fun x => spec_blAll x.1 x.2) some x0 x1 := lim_eq spec_blAllc (x0, x1)
theorem p49 {R : Type} (slf : ((List DWanted) × Int) → Option (List (List Int))) (fin : List (List Int) → Option R) (x0 : List DWanted) (x1 : Int) : Par fin (spec_blAllK slf some x0 x1) (spec_blAllK slf fin x0 x1) := by
  unfold spec_blAllK
  repeat' (first | exact .fin | exact .none | refine .cond ?_ ?_ | refine .bind fun _ => ?_ | refine .sum (fun _ => ?_) fun _ => ?_)
def or49 (slf : ((List DWanted) × Int) → Option (List (List Int))) : Ora := { lo := addL 7 (Lspec_blAll_l0 slf) (addL 10 (Lspec_blAll_l1 slf) lo0), fin := [.ownm (.slot 4) (.int .i64)] }
theorem spec_blAll_l1e (slf : ((List DWanted) × Int) → Option (List (List Int))) (a0 : List DWanted) (a1 : Int) (a2 : Int) (a3 : Int) (a6 : List (List Int)) (k : Nat) (a4 : Int) (a5 : List (List Int)) : loopC Try.prog (addE 49 (mkC [.one (.ro (.slice TWanted)), .one (.ro (.int .i64))] 1 [.one (.mat (.int .i64))] slf) EL49) (or49 slf) ((loopsIn (codeOf Try.f49)).getD 1 .skip) (Lspec_blAll_l1 slf).h (Lspec_blAll_l1 slf).ho Try.f49.ntmps (k + 1) (sspec_blAll_l1.out ((a0, (a1, ((), (a2, ((), (a3, (a4, ()))))))), (a5, (a6, ())))) =
    spec_blAll_l1K slf a2 a3 a6 (fun a4 a5 => loopC Try.prog (addE 49 (mkC [.one (.ro (.slice TWanted)), .one (.ro (.int .i64))] 1 [.one (.mat (.int .i64))] slf) EL49) (or49 slf) ((loopsIn (codeOf Try.f49)).getD 1 .skip) (Lspec_blAll_l1 slf).h (Lspec_blAll_l1 slf).ho Try.f49.ntmps k (sspec_blAll_l1.out ((a0, (a1, ((), (a2, ((), (a3, (a4, ()))))))), (a5, (a6, ()))))) (fun y => some (XS.out xspec_blAll_l1 (a0, (a1, (a2, (a3, a6)))) y)) a4 a5 := by kernel_rfl
theorem spec_blAll_l1o (slf : ((List DWanted) × Int) → Option (List (List Int))) : LoopOk Try.prog (addE 49 (mkC [.one (.ro (.slice TWanted)), .one (.ro (.int .i64))] 1 [.one (.mat (.int .i64))] slf) EL49) (or49 slf) Try.f49.ntmps ((loopsIn (codeOf Try.f49)).getD 1 .skip) (Lspec_blAll_l1 slf) :=
  loop_lim (hs := sspec_blAll_l1) (xs := xspec_blAll_l1) (ι := fun (x : ((List DWanted) × Int × Unit × Int × Unit × Int × Int × Unit) × ((List (List Int)) × (List (List Int)) × Unit)) => (x.1.1, (x.1.2.1, (x.1.2.2.2.1, (x.1.2.2.2.2.2.1, x.2.2.1))))) (φ := fun (x : ((List DWanted) × Int × Unit × Int × Unit × Int × Int × Unit) × ((List (List Int)) × (List (List Int)) × Unit)) => (x.1.2.2.2.2.2.2.1, x.2.1)) (ψ := fun (i : (List DWanted) × Int × Int × Int × (List (List Int))) (v : Int × (List (List Int))) => ((i.1, (i.2.1, ((), (i.2.2.1, ((), (i.2.2.2.1, (v.1, ()))))))), (v.2, (i.2.2.2.2, ())))) (F := fun (i : (List DWanted) × Int × Int × Int × (List (List Int))) => spec_blAll_l1F slf i.2.2.1 i.2.2.2.1 i.2.2.2.2) (fun _ => rfl) fun i k hk v => Par.of_eq (spec_blAll_l1e slf i.1 i.2.1 i.2.2.1 i.2.2.2.1 i.2.2.2.2 k v.1 v.2) (spec_blAll_l1p slf i.2.2.1 i.2.2.2.1 i.2.2.2.2 (fun a4 a5 => hk (a4, a5)) v.1 v.2)
theorem spec_blAll_l0e (slf : ((List DWanted) × Int) → Option (List (List Int))) (a0 : List DWanted) (a1 : Int) (k : Nat) (a2 : Int) (a3 : List (List Int)) : loopC Try.prog (addE 49 (mkC [.one (.ro (.slice TWanted)), .one (.ro (.int .i64))] 1 [.one (.mat (.int .i64))] slf) EL49) (or49 slf) ((loopsIn (codeOf Try.f49)).getD 0 .skip) (Lspec_blAll_l0 slf).h (Lspec_blAll_l0 slf).ho Try.f49.ntmps (k + 1) (sspec_blAll_l0.out ((a0, (a1, ((), (a2, ())))), (a3, ()))) =
    spec_blAll_l0K slf a0 a1 (fun a2 a3 => loopC Try.prog (addE 49 (mkC [.one (.ro (.slice TWanted)), .one (.ro (.int .i64))] 1 [.one (.mat (.int .i64))] slf) EL49) (or49 slf) ((loopsIn (codeOf Try.f49)).getD 0 .skip) (Lspec_blAll_l0 slf).h (Lspec_blAll_l0 slf).ho Try.f49.ntmps k (sspec_blAll_l0.out ((a0, (a1, ((), (a2, ())))), (a3, ())))) (fun y => some (XS.out xspec_blAll_l0 (a0, a1) y)) a2 a3 := by kernel_rfl
theorem spec_blAll_l0o (slf : ((List DWanted) × Int) → Option (List (List Int))) : LoopOk Try.prog (addE 49 (mkC [.one (.ro (.slice TWanted)), .one (.ro (.int .i64))] 1 [.one (.mat (.int .i64))] slf) EL49) (or49 slf) Try.f49.ntmps ((loopsIn (codeOf Try.f49)).getD 0 .skip) (Lspec_blAll_l0 slf) :=
  loop_lim (hs := sspec_blAll_l0) (xs := xspec_blAll_l0) (ι := fun (x : ((List DWanted) × Int × Unit × Int × Unit) × ((List (List Int)) × Unit)) => (x.1.1, x.1.2.1)) (φ := fun (x : ((List DWanted) × Int × Unit × Int × Unit) × ((List (List Int)) × Unit)) => (x.1.2.2.2.1, x.2.1)) (ψ := fun (i : (List DWanted) × Int) (v : Int × (List (List Int))) => ((i.1, (i.2, ((), (v.1, ())))), (v.2, ()))) (F := fun (i : (List DWanted) × Int) => spec_blAll_l0F slf i.1 i.2) (fun _ => rfl) fun i k hk v => Par.of_eq (spec_blAll_l0e slf i.1 i.2 k v.1 v.2) (spec_blAll_l0p slf i.1 i.2 (fun a2 a3 => hk (a2, a3)) v.1 v.2)
def c49 : Callee := mkC [.one (.ro (.slice TWanted)), .one (.ro (.int .i64))] 1 [.one (.mat (.int .i64))] fun x => spec_blAll x.1 x.2
theorem e49 (slf : ((List DWanted) × Int) → Option (List (List Int))) (x : PK.dens [.one (.ro (.slice TWanted)), .one (.ro (.int .i64))]) : evalFn Try.prog (addE 49 (mkC [.one (.ro (.slice TWanted)), .one (.ro (.int .i64))] 1 [.one (.mat (.int .i64))] slf) EL49) (or49 slf) Try.f49 (PK.outs [.one (.ro (.slice TWanted)), .one (.ro (.int .i64))] x) =
    spec_blAllK slf (fun y => some (tupOf ((PK.outs [.one (.mat (.int .i64))] y).take 1), (PK.outs [.one (.mat (.int .i64))] y).drop 1)) x.1 x.2 := by kernel_rfl
theorem o49 (slf : ((List DWanted) × Int) → Option (List (List Int))) : LoOk Try.prog (addE 49 (mkC [.one (.ro (.slice TWanted)), .one (.ro (.int .i64))] 1 [.one (.mat (.int .i64))] slf) EL49) (or49 slf) Try.f49.ntmps (loopsIn (codeOf Try.f49)) :=
  LoOk.mk (m := 2) (by kernel_rfl) fun i hi => match i, hi with
    | 0, _ => ⟨Lspec_blAll_l0 slf, by kernel_rfl, spec_blAll_l0o slf⟩
    | 1, _ => ⟨Lspec_blAll_l1 slf, by kernel_rfl, spec_blAll_l1o slf⟩
    | i + 2, hi => absurd hi (by omega)
theorem k49 : CalleeOk Try.prog 49 c49 := callee_rec (ps := [.one (.ro (.slice TWanted)), .one (.ro (.int .i64))]) (rs := [.one (.mat (.int .i64))]) (F := spec_blAllF) fun slf hs => callee_mk Try.func49 (code := codeOf Try.f49) (by kernel_rfl) (vL49.add Try.func49 rfl (by kernel_rfl) hs) mixed (o49 slf) fun x y h => (e49 slf x).trans (p49 slf _ x.1 x.2 y h)
end
end Go.OAI
