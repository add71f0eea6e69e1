/- Contracts: GPa. -/
import Derived.Test.YtokaffjipngphaaGA
import Derived.Test.YtokaffjipngphaaGFl
namespace Go.OAI
open Go.Proofs
set_option linter.unusedVariables false
noncomputable section


/-- spec.paEdges -/
def EL85 : Nat → Option Callee := env0
theorem vL85 : EnvOk Try.prog EL85 := EnvOk.nil
def sspec_paEdges_l1 : LS := ⟨[(0, .one (.dat (.slice (.slice (.int .i64))))), (1, .one (.dat (.slice (.int .i64)))), (5, .one (.fix (.sref 0))), (6, .one (.dat (.int .i64))), (11, .one (.dat (.slice (.slice (.int .i64))))), (12, .one (.dat (.int .i64))), (13, .one (.dat (.int .i64))), (46, .one (.dat (.slice (.int .i64)))), (47, .one (.dat (.int .i64))), (48, .one (.dat (.int .i64)))], [.sl TEdge], []⟩
def sspec_paEdges_l1x0 : LS := ⟨[(0, .one (.dat (.slice (.slice (.int .i64))))), (1, .one (.dat (.slice (.int .i64)))), (5, .one (.fix (.sref 0))), (11, .one (.dat (.slice (.slice (.int .i64))))), (12, .one (.dat (.int .i64))), (13, .one (.dat (.int .i64)))], [.sl TEdge], []⟩
def xspec_paEdges_l1 : List (XS ((List (List Int)) × (List Int) × Int × (List (List Int)) × Int × Int × (List Int) × Int)) := [⟨.exit 3, ⟨[0, 1, 5, 11, 12, 13], [.slot 5], [], []⟩, sspec_paEdges_l1x0, List DEdge, fun i y => ((i.1, (i.2.1, ((), (i.2.2.2.1, (i.2.2.2.2.1, (i.2.2.2.2.2.1, ())))))), (y, ()))⟩]
def spec_paEdges_l1K {R : Type} (a2 : Int) (a6 : List Int) (a7 : Int) (rc : Int → List DEdge → Option R) (fin : List DEdge → Option R) (a8 : Int) (a9 : List DEdge) : Option R :=
  cond (decide (a8 < a7))
  ((lat a6 a8).bind fun e1 =>
    cond (decide (a9.length + [(IntKind.i64.wrap (a2 + 1), (IntKind.i64.wrap (e1 + 1), (1000000000, ())))].length ≤ 1099511627776))
    ((some (a9 ++ [(IntKind.i64.wrap (a2 + 1), (IntKind.i64.wrap (e1 + 1), (1000000000, ())))])).bind fun v2 =>
      rc (IntKind.i64.wrap (a8 + 1)) v2)
    (none))
  (fin a9)
def spec_paEdges_l1F (a2 : Int) (a6 : List Int) (a7 : Int) (r : (Int × (List DEdge)) → Option (List DEdge)) (x : Int × (List DEdge)) : Option (List DEdge) := spec_paEdges_l1K a2 a6 a7 (fun a8 a9 => r (a8, a9)) some x.1 x.2
theorem spec_paEdges_l1c (a2 : Int) (a6 : List Int) (a7 : Int) (x : Int × (List DEdge)) : Ct fun r => spec_paEdges_l1F a2 a6 a7 r x := by
  unfold spec_paEdges_l1F spec_paEdges_l1K
  repeat' (first | exact Ct.const | exact Ct.call | refine Ct.cond ?_ ?_ | refine Ct.bind ?_ fun _ => ?_ | refine Ct.sum (fun _ => ?_) fun _ => ?_)
def spec_paEdges_l1 (a2 : Int) (a6 : List Int) (a7 : Int) (a8 : Int) (a9 : List DEdge) : Option (List DEdge) := lim (spec_paEdges_l1F a2 a6 a7) (a8, a9)
theorem spec_paEdges_l1_eq (a2 : Int) (a6 : List Int) (a7 : Int) (a8 : Int) (a9 : List DEdge) : spec_paEdges_l1 a2 a6 a7 a8 a9 = spec_paEdges_l1K a2 a6 a7 (spec_paEdges_l1 a2 a6 a7) some a8 a9 := lim_eq (spec_paEdges_l1c a2 a6 a7) (a8, a9)
theorem spec_paEdges_l1p {R : Type} (a2 : Int) (a6 : List Int) (a7 : Int) {rc : Int → List DEdge → Option (List DEdge)} {rc' : Int → List DEdge → Option R} {fin : List DEdge → Option R} (hr : ∀ a8 a9, Par fin (rc a8 a9) (rc' a8 a9)) (a8 : Int) (a9 : List DEdge) : Par fin (spec_paEdges_l1K a2 a6 a7 rc some a8 a9) (spec_paEdges_l1K a2 a6 a7 rc' fin a8 a9) := by
  unfold spec_paEdges_l1K
  repeat' (first | exact .fin | exact .none | exact hr _ _ | refine .cond ?_ ?_ | refine .bind fun _ => ?_ | refine .sum (fun _ => ?_) fun _ => ?_)
def Lspec_paEdges_l1 : Loop := mkL ⟨[0, 1, 5, 6, 11, 12, 13, 46, 47, 48], [.slot 5], [], [.own (.slot 5) TEdge]⟩ sspec_paEdges_l1 xspec_paEdges_l1 (fun (x : ((List (List Int)) × (List Int) × Unit × Int × (List (List Int)) × Int × Int × (List Int) × Int × Int × Unit) × ((List DEdge) × Unit)) => (x.1.1, (x.1.2.1, (x.1.2.2.2.1, (x.1.2.2.2.2.1, (x.1.2.2.2.2.2.1, (x.1.2.2.2.2.2.2.1, (x.1.2.2.2.2.2.2.2.1, x.1.2.2.2.2.2.2.2.2.1)))))))) fun (x : ((List (List Int)) × (List Int) × Unit × Int × (List (List Int)) × Int × Int × (List Int) × Int × Int × Unit) × ((List DEdge) × Unit)) => spec_paEdges_l1 x.1.2.2.2.1 x.1.2.2.2.2.2.2.2.1 x.1.2.2.2.2.2.2.2.2.1 x.1.2.2.2.2.2.2.2.2.2.1 x.2.1
def sspec_paEdges_l0 : LS := ⟨[(0, .one (.dat (.slice (.slice (.int .i64))))), (1, .one (.dat (.slice (.int .i64)))), (5, .one (.fix (.sref 0))), (11, .one (.dat (.slice (.slice (.int .i64))))), (12, .one (.dat (.int .i64))), (13, .one (.dat (.int .i64)))], [.sl TEdge], []⟩
def sspec_paEdges_l0x0 : LS := ⟨[(5, .one (.fix (.sref 0)))], [.sl TEdge], []⟩
def xspec_paEdges_l0 : List (XS ((List (List Int)) × (List Int) × (List (List Int)) × Int)) := [⟨.exit 0, ⟨[5], [.slot 5], [], []⟩, sspec_paEdges_l0x0, List DEdge, fun i y => (((), ()), (y, ()))⟩]
def spec_paEdges_l0K {R : Type} (a0 : List (List Int)) (a1 : List Int) (a2 : List (List Int)) (a3 : Int) (rc : Int → List DEdge → Option R) (fin : List DEdge → Option R) (a4 : Int) (a5 : List DEdge) : Option R :=
  cond (decide (a4 < a3))
  ((lat a2 a4).bind fun e1 =>
    (lat a1 a4).bind fun e2 =>
    cond (decide (e2 > 0))
    (cond (decide (a5.length + [(0, (IntKind.i64.wrap (a4 + 1), (e2, ())))].length ≤ 1099511627776))
      ((some (a5 ++ [(0, (IntKind.i64.wrap (a4 + 1), (e2, ())))])).bind fun v3 =>
        (spec_paEdges_l1 a4 e1 (e1.length : Int) 0 v3).bind fun y6 =>
        rc (IntKind.i64.wrap (a4 + 1)) y6)
      (none))
    (cond (decide (e2 < 0))
      (cond (decide (a5.length + [(IntKind.i64.wrap (a4 + 1), (IntKind.i64.wrap ((a0.length : Int) + 1), (IntKind.i64.wrap (0 - e2), ())))].length ≤ 1099511627776))
        ((some (a5 ++ [(IntKind.i64.wrap (a4 + 1), (IntKind.i64.wrap ((a0.length : Int) + 1), (IntKind.i64.wrap (0 - e2), ())))])).bind fun v7 =>
          (spec_paEdges_l1 a4 e1 (e1.length : Int) 0 v7).bind fun y8 =>
          rc (IntKind.i64.wrap (a4 + 1)) y8)
        (none))
      ((spec_paEdges_l1 a4 e1 (e1.length : Int) 0 a5).bind fun y9 =>
        rc (IntKind.i64.wrap (a4 + 1)) y9)))
  (fin a5)
def spec_paEdges_l0F (a0 : List (List Int)) (a1 : List Int) (a2 : List (List Int)) (a3 : Int) (r : (Int × (List DEdge)) → Option (List DEdge)) (x : Int × (List DEdge)) : Option (List DEdge) := spec_paEdges_l0K a0 a1 a2 a3 (fun a4 a5 => r (a4, a5)) some x.1 x.2
theorem spec_paEdges_l0c (a0 : List (List Int)) (a1 : List Int) (a2 : List (List Int)) (a3 : Int) (x : Int × (List DEdge)) : Ct fun r => spec_paEdges_l0F a0 a1 a2 a3 r x := by
  unfold spec_paEdges_l0F spec_paEdges_l0K
  repeat' (first | exact Ct.const | exact Ct.call | refine Ct.cond ?_ ?_ | refine Ct.bind ?_ fun _ => ?_ | refine Ct.sum (fun _ => ?_) fun _ => ?_)
def spec_paEdges_l0 (a0 : List (List Int)) (a1 : List Int) (a2 : List (List Int)) (a3 : Int) (a4 : Int) (a5 : List DEdge) : Option (List DEdge) := lim (spec_paEdges_l0F a0 a1 a2 a3) (a4, a5)
theorem spec_paEdges_l0_eq (a0 : List (List Int)) (a1 : List Int) (a2 : List (List Int)) (a3 : Int) (a4 : Int) (a5 : List DEdge) : spec_paEdges_l0 a0 a1 a2 a3 a4 a5 = spec_paEdges_l0K a0 a1 a2 a3 (spec_paEdges_l0 a0 a1 a2 a3) some a4 a5 := lim_eq (spec_paEdges_l0c a0 a1 a2 a3) (a4, a5)
theorem spec_paEdges_l0p {R : Type} (a0 : List (List Int)) (a1 : List Int) (a2 : List (List Int)) (a3 : Int) {rc : Int → List DEdge → Option (List DEdge)} {rc' : Int → List DEdge → Option R} {fin : List DEdge → Option R} (hr : ∀ a4 a5, Par fin (rc a4 a5) (rc' a4 a5)) (a4 : Int) (a5 : List DEdge) : Par fin (spec_paEdges_l0K a0 a1 a2 a3 rc some a4 a5) (spec_paEdges_l0K a0 a1 a2 a3 rc' fin a4 a5) := by
  unfold spec_paEdges_l0K
  repeat' (first | exact .fin | exact .none | exact hr _ _ | refine .cond ?_ ?_ | refine .bind fun _ => ?_ | refine .sum (fun _ => ?_) fun _ => ?_)
def Lspec_paEdges_l0 : Loop := mkL ⟨[0, 1, 5, 11, 12, 13], [.slot 5], [], [.own (.slot 5) TEdge]⟩ sspec_paEdges_l0 xspec_paEdges_l0 (fun (x : ((List (List Int)) × (List Int) × Unit × (List (List Int)) × Int × Int × Unit) × ((List DEdge) × Unit)) => (x.1.1, (x.1.2.1, (x.1.2.2.2.1, x.1.2.2.2.2.1)))) fun (x : ((List (List Int)) × (List Int) × Unit × (List (List Int)) × Int × Int × Unit) × ((List DEdge) × Unit)) => spec_paEdges_l0 x.1.1 x.1.2.1 x.1.2.2.2.1 x.1.2.2.2.2.1 x.1.2.2.2.2.2.1 x.2.1
def spec_paEdgesK {R : Type} (fin : List DEdge → Option R) (x0 : List (List Int)) (x1 : List Int) : Option R :=
  (spec_paEdges_l0 x0 x1 x0 (x0.length : Int) 0 []).bind fun y19 =>
  fin y19
def spec_paEdges (x0 : List (List Int)) (x1 : List Int) : Option (List DEdge) := spec_paEdgesK some x0 x1
theorem p85 {R : Type} (fin : List DEdge → Option R) (x0 : List (List Int)) (x1 : List Int) : Par fin (spec_paEdgesK some x0 x1) (spec_paEdgesK fin x0 x1) := by
  unfold spec_paEdgesK
  repeat' (first | exact .fin | exact .none | refine .cond ?_ ?_ | refine .bind fun _ => ?_ | refine .sum (fun _ => ?_) fun _ => ?_)
def or85 : Ora := { lo := addL 3 (Lspec_paEdges_l0) (addL 11 (Lspec_paEdges_l1) lo0), fin := [] }
theorem spec_paEdges_l1e (a0 : List (List Int)) (a1 : List Int) (a2 : Int) (a3 : List (List Int)) (a4 : Int) (a5 : Int) (a6 : List Int) (a7 : Int) (k : Nat) (a8 : Int) (a9 : List DEdge) : loopC Try.prog EL85 or85 ((loopsIn (codeOf Try.f85)).getD 1 .skip) (Lspec_paEdges_l1).h (Lspec_paEdges_l1).ho Try.f85.ntmps (k + 1) (sspec_paEdges_l1.out ((a0, (a1, ((), (a2, (a3, (a4, (a5, (a6, (a7, (a8, ())))))))))), (a9, ()))) =
    spec_paEdges_l1K a2 a6 a7 (fun a8 a9 => loopC Try.prog EL85 or85 ((loopsIn (codeOf Try.f85)).getD 1 .skip) (Lspec_paEdges_l1).h (Lspec_paEdges_l1).ho Try.f85.ntmps k (sspec_paEdges_l1.out ((a0, (a1, ((), (a2, (a3, (a4, (a5, (a6, (a7, (a8, ())))))))))), (a9, ())))) (fun y => some (XS.out xspec_paEdges_l1 (a0, (a1, (a2, (a3, (a4, (a5, (a6, a7))))))) y)) a8 a9 := by kernel_rfl
theorem spec_paEdges_l1o : LoopOk Try.prog EL85 or85 Try.f85.ntmps ((loopsIn (codeOf Try.f85)).getD 1 .skip) (Lspec_paEdges_l1) :=
  loop_lim (hs := sspec_paEdges_l1) (xs := xspec_paEdges_l1) (ι := fun (x : ((List (List Int)) × (List Int) × Unit × Int × (List (List Int)) × Int × Int × (List Int) × Int × Int × Unit) × ((List DEdge) × Unit)) => (x.1.1, (x.1.2.1, (x.1.2.2.2.1, (x.1.2.2.2.2.1, (x.1.2.2.2.2.2.1, (x.1.2.2.2.2.2.2.1, (x.1.2.2.2.2.2.2.2.1, x.1.2.2.2.2.2.2.2.2.1)))))))) (φ := fun (x : ((List (List Int)) × (List Int) × Unit × Int × (List (List Int)) × Int × Int × (List Int) × Int × Int × Unit) × ((List DEdge) × Unit)) => (x.1.2.2.2.2.2.2.2.2.2.1, x.2.1)) (ψ := fun (i : (List (List Int)) × (List Int) × Int × (List (List Int)) × Int × Int × (List Int) × Int) (v : Int × (List DEdge)) => ((i.1, (i.2.1, ((), (i.2.2.1, (i.2.2.2.1, (i.2.2.2.2.1, (i.2.2.2.2.2.1, (i.2.2.2.2.2.2.1, (i.2.2.2.2.2.2.2, (v.1, ())))))))))), (v.2, ()))) (F := fun (i : (List (List Int)) × (List Int) × Int × (List (List Int)) × Int × Int × (List Int) × Int) => spec_paEdges_l1F i.2.2.1 i.2.2.2.2.2.2.1 i.2.2.2.2.2.2.2) (fun _ => rfl) fun i k hk v => Par.of_eq (spec_paEdges_l1e i.1 i.2.1 i.2.2.1 i.2.2.2.1 i.2.2.2.2.1 i.2.2.2.2.2.1 i.2.2.2.2.2.2.1 i.2.2.2.2.2.2.2 k v.1 v.2) (spec_paEdges_l1p i.2.2.1 i.2.2.2.2.2.2.1 i.2.2.2.2.2.2.2 (fun a8 a9 => hk (a8, a9)) v.1 v.2)
theorem spec_paEdges_l0e (a0 : List (List Int)) (a1 : List Int) (a2 : List (List Int)) (a3 : Int) (k : Nat) (a4 : Int) (a5 : List DEdge) : loopC Try.prog EL85 or85 ((loopsIn (codeOf Try.f85)).getD 0 .skip) (Lspec_paEdges_l0).h (Lspec_paEdges_l0).ho Try.f85.ntmps (k + 1) (sspec_paEdges_l0.out ((a0, (a1, ((), (a2, (a3, (a4, ())))))), (a5, ()))) =
    spec_paEdges_l0K a0 a1 a2 a3 (fun a4 a5 => loopC Try.prog EL85 or85 ((loopsIn (codeOf Try.f85)).getD 0 .skip) (Lspec_paEdges_l0).h (Lspec_paEdges_l0).ho Try.f85.ntmps k (sspec_paEdges_l0.out ((a0, (a1, ((), (a2, (a3, (a4, ())))))), (a5, ())))) (fun y => some (XS.out xspec_paEdges_l0 (a0, (a1, (a2, a3))) y)) a4 a5 := by kernel_rfl
theorem spec_paEdges_l0o : LoopOk Try.prog EL85 or85 Try.f85.ntmps ((loopsIn (codeOf Try.f85)).getD 0 .skip) (Lspec_paEdges_l0) :=
  loop_lim (hs := sspec_paEdges_l0) (xs := xspec_paEdges_l0) (ι := fun (x : ((List (List Int)) × (List Int) × Unit × (List (List Int)) × Int × Int × Unit) × ((List DEdge) × Unit)) => (x.1.1, (x.1.2.1, (x.1.2.2.2.1, x.1.2.2.2.2.1)))) (φ := fun (x : ((List (List Int)) × (List Int) × Unit × (List (List Int)) × Int × Int × Unit) × ((List DEdge) × Unit)) => (x.1.2.2.2.2.2.1, x.2.1)) (ψ := fun (i : (List (List Int)) × (List Int) × (List (List Int)) × Int) (v : Int × (List DEdge)) => ((i.1, (i.2.1, ((), (i.2.2.1, (i.2.2.2, (v.1, ())))))), (v.2, ()))) (F := fun (i : (List (List Int)) × (List Int) × (List (List Int)) × Int) => spec_paEdges_l0F i.1 i.2.1 i.2.2.1 i.2.2.2) (fun _ => rfl) fun i k hk v => Par.of_eq (spec_paEdges_l0e i.1 i.2.1 i.2.2.1 i.2.2.2 k v.1 v.2) (spec_paEdges_l0p i.1 i.2.1 i.2.2.1 i.2.2.2 (fun a4 a5 => hk (a4, a5)) v.1 v.2)
def c85 : Callee := mkC [.one (.ro (.slice (.slice (.int .i64)))), .one (.ro (.slice (.int .i64)))] 1 [.one (.sl TEdge)] fun x => spec_paEdges x.1 x.2
theorem e85 (x : PK.dens [.one (.ro (.slice (.slice (.int .i64)))), .one (.ro (.slice (.int .i64)))]) : evalFn Try.prog EL85 or85 Try.f85 (PK.outs [.one (.ro (.slice (.slice (.int .i64)))), .one (.ro (.slice (.int .i64)))] x) =
    spec_paEdgesK (fun y => some (tupOf ((PK.outs [.one (.sl TEdge)] y).take 1), (PK.outs [.one (.sl TEdge)] y).drop 1)) x.1 x.2 := by kernel_rfl
theorem o85 : LoOk Try.prog EL85 or85 Try.f85.ntmps (loopsIn (codeOf Try.f85)) :=
  LoOk.mk (m := 2) (by kernel_rfl) fun i hi => match i, hi with
    | 0, _ => ⟨Lspec_paEdges_l0, by kernel_rfl, spec_paEdges_l0o⟩
    | 1, _ => ⟨Lspec_paEdges_l1, by kernel_rfl, spec_paEdges_l1o⟩
    | i + 2, hi => absurd hi (by omega)
theorem k85 : CalleeOk Try.prog 85 c85 := callee_mk Try.func85 (code := codeOf Try.f85) (by kernel_rfl) vL85 mixed o85 fun x y h => (e85 x).trans (p85 _ x.1 x.2 y h)

/-- spec.paOf -/
def EL83 : Nat → Option Callee := env0
theorem vL83 : EnvOk Try.prog EL83 := EnvOk.nil
def sspec_paOf_l0 : LS := ⟨[(3, .one (.fix (.sref 0))), (7, .one (.dat (.slice (.int .i64)))), (8, .one (.dat (.int .i64))), (9, .one (.dat (.int .i64)))], [.sl (.int .i64)], []⟩
def sspec_paOf_l0x0 : LS := ⟨[(3, .one (.fix (.sref 0)))], [.sl (.int .i64)], []⟩
def xspec_paOf_l0 : List (XS ((List Int) × Int)) := [⟨.exit 0, ⟨[3], [.slot 3], [], []⟩, sspec_paOf_l0x0, List Int, fun i y => (((), ()), (y, ()))⟩]
def spec_paOf_l0K {R : Type} (a0 : List Int) (a1 : Int) (rc : Int → List Int → Option R) (fin : List Int → Option R) (a2 : Int) (a3 : List Int) : Option R :=
  cond (decide (a2 < a1))
  ((lat a0 a2).bind fun e1 =>
    cond (decide (a3.length + [IntKind.i64.wrap (e1 - 1)].length ≤ 1099511627776))
    ((some (a3 ++ [IntKind.i64.wrap (e1 - 1)])).bind fun v2 =>
      rc (IntKind.i64.wrap (a2 + 1)) v2)
    (none))
  (fin a3)
def spec_paOf_l0F (a0 : List Int) (a1 : Int) (r : (Int × (List Int)) → Option (List Int)) (x : Int × (List Int)) : Option (List Int) := spec_paOf_l0K a0 a1 (fun a2 a3 => r (a2, a3)) some x.1 x.2
theorem spec_paOf_l0c (a0 : List Int) (a1 : Int) (x : Int × (List Int)) : Ct fun r => spec_paOf_l0F a0 a1 r x := by
  unfold spec_paOf_l0F spec_paOf_l0K
  repeat' (first | exact Ct.const | exact Ct.call | refine Ct.cond ?_ ?_ | refine Ct.bind ?_ fun _ => ?_ | refine Ct.sum (fun _ => ?_) fun _ => ?_)
def spec_paOf_l0 (a0 : List Int) (a1 : Int) (a2 : Int) (a3 : List Int) : Option (List Int) := lim (spec_paOf_l0F a0 a1) (a2, a3)
theorem spec_paOf_l0_eq (a0 : List Int) (a1 : Int) (a2 : Int) (a3 : List Int) : spec_paOf_l0 a0 a1 a2 a3 = spec_paOf_l0K a0 a1 (spec_paOf_l0 a0 a1) some a2 a3 := lim_eq (spec_paOf_l0c a0 a1) (a2, a3)
theorem spec_paOf_l0p {R : Type} (a0 : List Int) (a1 : Int) {rc : Int → List Int → Option (List Int)} {rc' : Int → List Int → Option R} {fin : List Int → Option R} (hr : ∀ a2 a3, Par fin (rc a2 a3) (rc' a2 a3)) (a2 : Int) (a3 : List Int) : Par fin (spec_paOf_l0K a0 a1 rc some a2 a3) (spec_paOf_l0K a0 a1 rc' fin a2 a3) := by
  unfold spec_paOf_l0K
  repeat' (first | exact .fin | exact .none | exact hr _ _ | refine .cond ?_ ?_ | refine .bind fun _ => ?_ | refine .sum (fun _ => ?_) fun _ => ?_)
def Lspec_paOf_l0 : Loop := mkL ⟨[3, 7, 8, 9], [.slot 3], [], [.own (.slot 3) (.int .i64)]⟩ sspec_paOf_l0 xspec_paOf_l0 (fun (x : (Unit × (List Int) × Int × Int × Unit) × ((List Int) × Unit)) => (x.1.2.1, x.1.2.2.1)) fun (x : (Unit × (List Int) × Int × Int × Unit) × ((List Int) × Unit)) => spec_paOf_l0 x.1.2.1 x.1.2.2.1 x.1.2.2.2.1 x.2.1
def spec_paOfK {R : Type} (fin : List Int → Option R) (x0 : List Int) : Option R :=
  cond (decide ((1 : Int) ≤ (x0.length : Int)) && decide ((x0.length : Int) ≤ (x0.length : Int)))
  ((spec_paOf_l0 ((x0.drop 1).take ((x0.length : Int).toNat - 1)) (((x0.drop 1).take ((x0.length : Int).toNat - 1)).length : Int) 0 []).bind fun y5 =>
    fin y5)
  (none)
def spec_paOf (x0 : List Int) : Option (List Int) := spec_paOfK some x0
theorem p83 {R : Type} (fin : List Int → Option R) (x0 : List Int) : Par fin (spec_paOfK some x0) (spec_paOfK fin x0) := by
  unfold spec_paOfK
  repeat' (first | exact .fin | exact .none | refine .cond ?_ ?_ | refine .bind fun _ => ?_ | refine .sum (fun _ => ?_) fun _ => ?_)
def or83 : Ora := { lo := addL 3 (Lspec_paOf_l0) lo0, fin := [] }
theorem spec_paOf_l0e (a0 : List Int) (a1 : Int) (k : Nat) (a2 : Int) (a3 : List Int) : loopC Try.prog EL83 or83 ((loopsIn (codeOf Try.f83)).getD 0 .skip) (Lspec_paOf_l0).h (Lspec_paOf_l0).ho Try.f83.ntmps (k + 1) (sspec_paOf_l0.out (((), (a0, (a1, (a2, ())))), (a3, ()))) =
    spec_paOf_l0K a0 a1 (fun a2 a3 => loopC Try.prog EL83 or83 ((loopsIn (codeOf Try.f83)).getD 0 .skip) (Lspec_paOf_l0).h (Lspec_paOf_l0).ho Try.f83.ntmps k (sspec_paOf_l0.out (((), (a0, (a1, (a2, ())))), (a3, ())))) (fun y => some (XS.out xspec_paOf_l0 (a0, a1) y)) a2 a3 := by kernel_rfl
theorem spec_paOf_l0o : LoopOk Try.prog EL83 or83 Try.f83.ntmps ((loopsIn (codeOf Try.f83)).getD 0 .skip) (Lspec_paOf_l0) :=
  loop_lim (hs := sspec_paOf_l0) (xs := xspec_paOf_l0) (ι := fun (x : (Unit × (List Int) × Int × Int × Unit) × ((List Int) × Unit)) => (x.1.2.1, x.1.2.2.1)) (φ := fun (x : (Unit × (List Int) × Int × Int × Unit) × ((List Int) × Unit)) => (x.1.2.2.2.1, x.2.1)) (ψ := fun (i : (List Int) × Int) (v : Int × (List Int)) => (((), (i.1, (i.2, (v.1, ())))), (v.2, ()))) (F := fun (i : (List Int) × Int) => spec_paOf_l0F i.1 i.2) (fun _ => rfl) fun i k hk v => Par.of_eq (spec_paOf_l0e i.1 i.2 k v.1 v.2) (spec_paOf_l0p i.1 i.2 (fun a2 a3 => hk (a2, a3)) v.1 v.2)
def c83 : Callee := mkC [.one (.ro (.slice (.int .i64)))] 1 [.one (.sl (.int .i64))] fun x => spec_paOf x
theorem e83 (x : PK.dens [.one (.ro (.slice (.int .i64)))]) : evalFn Try.prog EL83 or83 Try.f83 (PK.outs [.one (.ro (.slice (.int .i64)))] x) =
    spec_paOfK (fun y => some (tupOf ((PK.outs [.one (.sl (.int .i64))] y).take 1), (PK.outs [.one (.sl (.int .i64))] y).drop 1)) x := by kernel_rfl
theorem o83 : LoOk Try.prog EL83 or83 Try.f83.ntmps (loopsIn (codeOf Try.f83)) :=
  LoOk.mk (m := 1) (by kernel_rfl) fun i hi => match i, hi with
    | 0, _ => ⟨Lspec_paOf_l0, by kernel_rfl, spec_paOf_l0o⟩
    | i + 1, hi => absurd hi (by omega)
theorem k83 : CalleeOk Try.prog 83 c83 := callee_mk Try.func83 (code := codeOf Try.f83) (by kernel_rfl) vL83 mixed o83 fun x y h => (e83 x).trans (p83 _ x y h)

/-- spec.paFind -/
def EL49 : Nat → Option Callee := addE 83 c83 (addE 84 c84 (addE 85 c85 env0))
theorem vL49 : EnvOk Try.prog EL49 := ((EnvOk.nil.add Try.func85 rfl (by kernel_rfl) k85).add Try.func84 rfl (by kernel_rfl) k84).add Try.func83 rfl (by kernel_rfl) k83
def spec_paFindK {R : Type} (fin : List Int → Option R) (x0 : List (List Int)) (x1 : List Int) : Option R :=
  (spec_paEdges x0 x1).bind fun y1 =>
  (spec_mfLeast (IntKind.i64.wrap ((x0.length : Int) + 2)) y1).bind fun y2 =>
  (spec_paOf y2).bind fun y3 =>
  fin y3
def spec_paFind (x0 : List (List Int)) (x1 : List Int) : Option (List Int) := spec_paFindK some x0 x1
theorem p49 {R : Type} (fin : List Int → Option R) (x0 : List (List Int)) (x1 : List Int) : Par fin (spec_paFindK some x0 x1) (spec_paFindK fin x0 x1) := by
  unfold spec_paFindK
  repeat' (first | exact .fin | exact .none | refine .cond ?_ ?_ | refine .bind fun _ => ?_ | refine .sum (fun _ => ?_) fun _ => ?_)
def c49 : Callee := mkC [.one (.ro (.slice (.slice (.int .i64)))), .one (.ro (.slice (.int .i64)))] 1 [.one (.sl (.int .i64))] fun x => spec_paFind x.1 x.2
theorem e49 (x : PK.dens [.one (.ro (.slice (.slice (.int .i64)))), .one (.ro (.slice (.int .i64)))]) : evalFn Try.prog EL49 or0 Try.f49 (PK.outs [.one (.ro (.slice (.slice (.int .i64)))), .one (.ro (.slice (.int .i64)))] x) =
    spec_paFindK (fun y => some (tupOf ((PK.outs [.one (.sl (.int .i64))] y).take 1), (PK.outs [.one (.sl (.int .i64))] y).drop 1)) x.1 x.2 := by kernel_rfl
theorem k49 : CalleeOk Try.prog 49 c49 := callee_mk Try.func49 (code := codeOf Try.f49) (by kernel_rfl) vL49 mixed (LoOk.nil (by kernel_rfl)) fun x y h => (e49 x).trans (p49 _ x.1 x.2 y h)

/-- impl.pitNetwork -/
def EL107 : Nat → Option Callee := env0
theorem vL107 : EnvOk Try.prog EL107 := EnvOk.nil
def simpl_pitNetwork_l1 : LS := ⟨[(0, .one (.dat (.slice (.slice (.int .i64))))), (6, .one (.dat (.int .i64))), (7, .one (.fix (.sref 0))), (8, .one (.dat (.int .i64))), (16, .one (.dat (.slice (.int .i64)))), (17, .one (.dat (.int .i64))), (18, .one (.dat (.int .i64))), (47, .one (.dat (.slice (.int .i64)))), (48, .one (.dat (.int .i64))), (49, .one (.dat (.int .i64)))], [.sl TEdge], []⟩
def simpl_pitNetwork_l1x0 : LS := ⟨[(0, .one (.dat (.slice (.slice (.int .i64))))), (6, .one (.dat (.int .i64))), (7, .one (.fix (.sref 0))), (16, .one (.dat (.slice (.int .i64)))), (17, .one (.dat (.int .i64))), (18, .one (.dat (.int .i64)))], [.sl TEdge], []⟩
def ximpl_pitNetwork_l1 : List (XS ((List (List Int)) × Int × Int × (List Int) × Int × Int × (List Int) × Int)) := [⟨.exit 2, ⟨[0, 6, 7, 16, 17, 18], [.slot 7], [], []⟩, simpl_pitNetwork_l1x0, List DEdge, fun i y => ((i.1, (i.2.1, ((), (i.2.2.2.1, (i.2.2.2.2.1, (i.2.2.2.2.2.1, ())))))), (y, ()))⟩]
def impl_pitNetwork_l1K {R : Type} (a2 : Int) (a6 : List Int) (a7 : Int) (rc : Int → List DEdge → Option R) (fin : List DEdge → Option R) (a8 : Int) (a9 : List DEdge) : Option R :=
  cond (decide (a8 < a7))
  ((lat a6 a8).bind fun e1 =>
    cond (decide (a9.length + [(IntKind.i64.wrap (a2 + 1), (IntKind.i64.wrap (e1 + 1), (1000000000, ())))].length ≤ 1099511627776))
    ((some (a9 ++ [(IntKind.i64.wrap (a2 + 1), (IntKind.i64.wrap (e1 + 1), (1000000000, ())))])).bind fun v2 =>
      rc (IntKind.i64.wrap (a8 + 1)) v2)
    (none))
  (fin a9)
def impl_pitNetwork_l1F (a2 : Int) (a6 : List Int) (a7 : Int) (r : (Int × (List DEdge)) → Option (List DEdge)) (x : Int × (List DEdge)) : Option (List DEdge) := impl_pitNetwork_l1K a2 a6 a7 (fun a8 a9 => r (a8, a9)) some x.1 x.2
theorem impl_pitNetwork_l1c (a2 : Int) (a6 : List Int) (a7 : Int) (x : Int × (List DEdge)) : Ct fun r => impl_pitNetwork_l1F a2 a6 a7 r x := by
  unfold impl_pitNetwork_l1F impl_pitNetwork_l1K
  repeat' (first | exact Ct.const | exact Ct.call | refine Ct.cond ?_ ?_ | refine Ct.bind ?_ fun _ => ?_ | refine Ct.sum (fun _ => ?_) fun _ => ?_)
def impl_pitNetwork_l1 (a2 : Int) (a6 : List Int) (a7 : Int) (a8 : Int) (a9 : List DEdge) : Option (List DEdge) := lim (impl_pitNetwork_l1F a2 a6 a7) (a8, a9)
theorem impl_pitNetwork_l1_eq (a2 : Int) (a6 : List Int) (a7 : Int) (a8 : Int) (a9 : List DEdge) : impl_pitNetwork_l1 a2 a6 a7 a8 a9 = impl_pitNetwork_l1K a2 a6 a7 (impl_pitNetwork_l1 a2 a6 a7) some a8 a9 := lim_eq (impl_pitNetwork_l1c a2 a6 a7) (a8, a9)
theorem impl_pitNetwork_l1p {R : Type} (a2 : Int) (a6 : List Int) (a7 : Int) {rc : Int → List DEdge → Option (List DEdge)} {rc' : Int → List DEdge → Option R} {fin : List DEdge → Option R} (hr : ∀ a8 a9, Par fin (rc a8 a9) (rc' a8 a9)) (a8 : Int) (a9 : List DEdge) : Par fin (impl_pitNetwork_l1K a2 a6 a7 rc some a8 a9) (impl_pitNetwork_l1K a2 a6 a7 rc' fin a8 a9) := by
  unfold impl_pitNetwork_l1K
  repeat' (first | exact .fin | exact .none | exact hr _ _ | refine .cond ?_ ?_ | refine .bind fun _ => ?_ | refine .sum (fun _ => ?_) fun _ => ?_)
def Limpl_pitNetwork_l1 : Loop := mkL ⟨[0, 6, 7, 8, 16, 17, 18, 47, 48, 49], [.slot 7], [], []⟩ simpl_pitNetwork_l1 ximpl_pitNetwork_l1 (fun (x : ((List (List Int)) × Int × Unit × Int × (List Int) × Int × Int × (List Int) × Int × Int × Unit) × ((List DEdge) × Unit)) => (x.1.1, (x.1.2.1, (x.1.2.2.2.1, (x.1.2.2.2.2.1, (x.1.2.2.2.2.2.1, (x.1.2.2.2.2.2.2.1, (x.1.2.2.2.2.2.2.2.1, x.1.2.2.2.2.2.2.2.2.1)))))))) fun (x : ((List (List Int)) × Int × Unit × Int × (List Int) × Int × Int × (List Int) × Int × Int × Unit) × ((List DEdge) × Unit)) => impl_pitNetwork_l1 x.1.2.2.2.1 x.1.2.2.2.2.2.2.2.1 x.1.2.2.2.2.2.2.2.2.1 x.1.2.2.2.2.2.2.2.2.2.1 x.2.1
def simpl_pitNetwork_l0 : LS := ⟨[(0, .one (.dat (.slice (.slice (.int .i64))))), (6, .one (.dat (.int .i64))), (7, .one (.fix (.sref 0))), (16, .one (.dat (.slice (.int .i64)))), (17, .one (.dat (.int .i64))), (18, .one (.dat (.int .i64)))], [.sl TEdge], []⟩
def simpl_pitNetwork_l0x0 : LS := ⟨[(6, .one (.dat (.int .i64))), (7, .one (.fix (.sref 0)))], [.sl TEdge], []⟩
def ximpl_pitNetwork_l0 : List (XS ((List (List Int)) × Int × (List Int) × Int)) := [⟨.exit 0, ⟨[6, 7], [.slot 7], [], []⟩, simpl_pitNetwork_l0x0, List DEdge, fun i y => ((i.2.1, ((), ())), (y, ()))⟩]
def impl_pitNetwork_l0K {R : Type} (a0 : List (List Int)) (a1 : Int) (a2 : List Int) (a3 : Int) (rc : Int → List DEdge → Option R) (fin : List DEdge → Option R) (a4 : Int) (a5 : List DEdge) : Option R :=
  cond (decide (a4 < a3))
  ((lat a2 a4).bind fun e1 =>
    cond (decide (e1 > 0))
    (cond (decide (a5.length + [(0, (IntKind.i64.wrap (a4 + 1), (e1, ())))].length ≤ 1099511627776))
      ((some (a5 ++ [(0, (IntKind.i64.wrap (a4 + 1), (e1, ())))])).bind fun v2 =>
        cond (decide (e1 < 0))
        (cond (decide (v2.length + [(IntKind.i64.wrap (a4 + 1), (IntKind.i64.wrap (a1 - 1), (IntKind.i64.wrap (0 - e1), ())))].length ≤ 1099511627776))
          ((some (v2 ++ [(IntKind.i64.wrap (a4 + 1), (IntKind.i64.wrap (a1 - 1), (IntKind.i64.wrap (0 - e1), ())))])).bind fun v3 =>
            (lat a0 a4).bind fun e4 =>
            (impl_pitNetwork_l1 a4 e4 (e4.length : Int) 0 v3).bind fun y7 =>
            rc (IntKind.i64.wrap (a4 + 1)) y7)
          (none))
        ((lat a0 a4).bind fun e8 =>
          (impl_pitNetwork_l1 a4 e8 (e8.length : Int) 0 v2).bind fun y9 =>
          rc (IntKind.i64.wrap (a4 + 1)) y9))
      (none))
    (cond (decide (e1 < 0))
      (cond (decide (a5.length + [(IntKind.i64.wrap (a4 + 1), (IntKind.i64.wrap (a1 - 1), (IntKind.i64.wrap (0 - e1), ())))].length ≤ 1099511627776))
        ((some (a5 ++ [(IntKind.i64.wrap (a4 + 1), (IntKind.i64.wrap (a1 - 1), (IntKind.i64.wrap (0 - e1), ())))])).bind fun v10 =>
          (lat a0 a4).bind fun e11 =>
          (impl_pitNetwork_l1 a4 e11 (e11.length : Int) 0 v10).bind fun y12 =>
          rc (IntKind.i64.wrap (a4 + 1)) y12)
        (none))
      ((lat a0 a4).bind fun e13 =>
        (impl_pitNetwork_l1 a4 e13 (e13.length : Int) 0 a5).bind fun y14 =>
        rc (IntKind.i64.wrap (a4 + 1)) y14)))
  (fin a5)
def impl_pitNetwork_l0F (a0 : List (List Int)) (a1 : Int) (a2 : List Int) (a3 : Int) (r : (Int × (List DEdge)) → Option (List DEdge)) (x : Int × (List DEdge)) : Option (List DEdge) := impl_pitNetwork_l0K a0 a1 a2 a3 (fun a4 a5 => r (a4, a5)) some x.1 x.2
theorem impl_pitNetwork_l0c (a0 : List (List Int)) (a1 : Int) (a2 : List Int) (a3 : Int) (x : Int × (List DEdge)) : Ct fun r => impl_pitNetwork_l0F a0 a1 a2 a3 r x := by
  unfold impl_pitNetwork_l0F impl_pitNetwork_l0K
  repeat' (first | exact Ct.const | exact Ct.call | refine Ct.cond ?_ ?_ | refine Ct.bind ?_ fun _ => ?_ | refine Ct.sum (fun _ => ?_) fun _ => ?_)
def impl_pitNetwork_l0 (a0 : List (List Int)) (a1 : Int) (a2 : List Int) (a3 : Int) (a4 : Int) (a5 : List DEdge) : Option (List DEdge) := lim (impl_pitNetwork_l0F a0 a1 a2 a3) (a4, a5)
theorem impl_pitNetwork_l0_eq (a0 : List (List Int)) (a1 : Int) (a2 : List Int) (a3 : Int) (a4 : Int) (a5 : List DEdge) : impl_pitNetwork_l0 a0 a1 a2 a3 a4 a5 = impl_pitNetwork_l0K a0 a1 a2 a3 (impl_pitNetwork_l0 a0 a1 a2 a3) some a4 a5 := lim_eq (impl_pitNetwork_l0c a0 a1 a2 a3) (a4, a5)
theorem impl_pitNetwork_l0p {R : Type} (a0 : List (List Int)) (a1 : Int) (a2 : List Int) (a3 : Int) {rc : Int → List DEdge → Option (List DEdge)} {rc' : Int → List DEdge → Option R} {fin : List DEdge → Option R} (hr : ∀ a4 a5, Par fin (rc a4 a5) (rc' a4 a5)) (a4 : Int) (a5 : List DEdge) : Par fin (impl_pitNetwork_l0K a0 a1 a2 a3 rc some a4 a5) (impl_pitNetwork_l0K a0 a1 a2 a3 rc' fin a4 a5) := by
  unfold impl_pitNetwork_l0K
  repeat' (first | exact .fin | exact .none | exact hr _ _ | refine .cond ?_ ?_ | refine .bind fun _ => ?_ | refine .sum (fun _ => ?_) fun _ => ?_)
def Limpl_pitNetwork_l0 : Loop := mkL ⟨[0, 6, 7, 16, 17, 18], [.slot 7], [], []⟩ simpl_pitNetwork_l0 ximpl_pitNetwork_l0 (fun (x : ((List (List Int)) × Int × Unit × (List Int) × Int × Int × Unit) × ((List DEdge) × Unit)) => (x.1.1, (x.1.2.1, (x.1.2.2.2.1, x.1.2.2.2.2.1)))) fun (x : ((List (List Int)) × Int × Unit × (List Int) × Int × Int × Unit) × ((List DEdge) × Unit)) => impl_pitNetwork_l0 x.1.1 x.1.2.1 x.1.2.2.2.1 x.1.2.2.2.2.1 x.1.2.2.2.2.2.1 x.2.1
def impl_pitNetworkK {R : Type} (fin : Int × (List DEdge) → Option R) (x0 : List (List Int)) (x1 : List Int) : Option R :=
  (impl_pitNetwork_l0 x0 (IntKind.i64.wrap ((x0.length : Int) + 2)) x1 (x1.length : Int) 0 []).bind fun y15 =>
  fin (IntKind.i64.wrap ((x0.length : Int) + 2), y15)
def impl_pitNetwork (x0 : List (List Int)) (x1 : List Int) : Option (Int × (List DEdge)) := impl_pitNetworkK some x0 x1
theorem p107 {R : Type} (fin : Int × (List DEdge) → Option R) (x0 : List (List Int)) (x1 : List Int) : Par fin (impl_pitNetworkK some x0 x1) (impl_pitNetworkK fin x0 x1) := by
  unfold impl_pitNetworkK
  repeat' (first | exact .fin | exact .none | refine .cond ?_ ?_ | refine .bind fun _ => ?_ | refine .sum (fun _ => ?_) fun _ => ?_)
def or107 : Ora := { lo := addL 4 (Limpl_pitNetwork_l0) (addL 11 (Limpl_pitNetwork_l1) lo0), fin := [] }
theorem impl_pitNetwork_l1e (a0 : List (List Int)) (a1 : Int) (a2 : Int) (a3 : List Int) (a4 : Int) (a5 : Int) (a6 : List Int) (a7 : Int) (k : Nat) (a8 : Int) (a9 : List DEdge) : loopC Try.prog EL107 or107 ((loopsIn (codeOf Try.f107)).getD 1 .skip) (Limpl_pitNetwork_l1).h (Limpl_pitNetwork_l1).ho Try.f107.ntmps (k + 1) (simpl_pitNetwork_l1.out ((a0, (a1, ((), (a2, (a3, (a4, (a5, (a6, (a7, (a8, ())))))))))), (a9, ()))) =
    impl_pitNetwork_l1K a2 a6 a7 (fun a8 a9 => loopC Try.prog EL107 or107 ((loopsIn (codeOf Try.f107)).getD 1 .skip) (Limpl_pitNetwork_l1).h (Limpl_pitNetwork_l1).ho Try.f107.ntmps k (simpl_pitNetwork_l1.out ((a0, (a1, ((), (a2, (a3, (a4, (a5, (a6, (a7, (a8, ())))))))))), (a9, ())))) (fun y => some (XS.out ximpl_pitNetwork_l1 (a0, (a1, (a2, (a3, (a4, (a5, (a6, a7))))))) y)) a8 a9 := by kernel_rfl
theorem impl_pitNetwork_l1o : LoopOk Try.prog EL107 or107 Try.f107.ntmps ((loopsIn (codeOf Try.f107)).getD 1 .skip) (Limpl_pitNetwork_l1) :=
  loop_lim (hs := simpl_pitNetwork_l1) (xs := ximpl_pitNetwork_l1) (ι := fun (x : ((List (List Int)) × Int × Unit × Int × (List Int) × Int × Int × (List Int) × Int × Int × Unit) × ((List DEdge) × Unit)) => (x.1.1, (x.1.2.1, (x.1.2.2.2.1, (x.1.2.2.2.2.1, (x.1.2.2.2.2.2.1, (x.1.2.2.2.2.2.2.1, (x.1.2.2.2.2.2.2.2.1, x.1.2.2.2.2.2.2.2.2.1)))))))) (φ := fun (x : ((List (List Int)) × Int × Unit × Int × (List Int) × Int × Int × (List Int) × Int × Int × Unit) × ((List DEdge) × Unit)) => (x.1.2.2.2.2.2.2.2.2.2.1, x.2.1)) (ψ := fun (i : (List (List Int)) × Int × Int × (List Int) × Int × Int × (List Int) × Int) (v : Int × (List DEdge)) => ((i.1, (i.2.1, ((), (i.2.2.1, (i.2.2.2.1, (i.2.2.2.2.1, (i.2.2.2.2.2.1, (i.2.2.2.2.2.2.1, (i.2.2.2.2.2.2.2, (v.1, ())))))))))), (v.2, ()))) (F := fun (i : (List (List Int)) × Int × Int × (List Int) × Int × Int × (List Int) × Int) => impl_pitNetwork_l1F i.2.2.1 i.2.2.2.2.2.2.1 i.2.2.2.2.2.2.2) (fun _ => rfl) fun i k hk v => Par.of_eq (impl_pitNetwork_l1e i.1 i.2.1 i.2.2.1 i.2.2.2.1 i.2.2.2.2.1 i.2.2.2.2.2.1 i.2.2.2.2.2.2.1 i.2.2.2.2.2.2.2 k v.1 v.2) (impl_pitNetwork_l1p i.2.2.1 i.2.2.2.2.2.2.1 i.2.2.2.2.2.2.2 (fun a8 a9 => hk (a8, a9)) v.1 v.2)
theorem impl_pitNetwork_l0e (a0 : List (List Int)) (a1 : Int) (a2 : List Int) (a3 : Int) (k : Nat) (a4 : Int) (a5 : List DEdge) : loopC Try.prog EL107 or107 ((loopsIn (codeOf Try.f107)).getD 0 .skip) (Limpl_pitNetwork_l0).h (Limpl_pitNetwork_l0).ho Try.f107.ntmps (k + 1) (simpl_pitNetwork_l0.out ((a0, (a1, ((), (a2, (a3, (a4, ())))))), (a5, ()))) =
    impl_pitNetwork_l0K a0 a1 a2 a3 (fun a4 a5 => loopC Try.prog EL107 or107 ((loopsIn (codeOf Try.f107)).getD 0 .skip) (Limpl_pitNetwork_l0).h (Limpl_pitNetwork_l0).ho Try.f107.ntmps k (simpl_pitNetwork_l0.out ((a0, (a1, ((), (a2, (a3, (a4, ())))))), (a5, ())))) (fun y => some (XS.out ximpl_pitNetwork_l0 (a0, (a1, (a2, a3))) y)) a4 a5 := by kernel_rfl
theorem impl_pitNetwork_l0o : LoopOk Try.prog EL107 or107 Try.f107.ntmps ((loopsIn (codeOf Try.f107)).getD 0 .skip) (Limpl_pitNetwork_l0) :=
  loop_lim (hs := simpl_pitNetwork_l0) (xs := ximpl_pitNetwork_l0) (ι := fun (x : ((List (List Int)) × Int × Unit × (List Int) × Int × Int × Unit) × ((List DEdge) × Unit)) => (x.1.1, (x.1.2.1, (x.1.2.2.2.1, x.1.2.2.2.2.1)))) (φ := fun (x : ((List (List Int)) × Int × Unit × (List Int) × Int × Int × Unit) × ((List DEdge) × Unit)) => (x.1.2.2.2.2.2.1, x.2.1)) (ψ := fun (i : (List (List Int)) × Int × (List Int) × Int) (v : Int × (List DEdge)) => ((i.1, (i.2.1, ((), (i.2.2.1, (i.2.2.2, (v.1, ())))))), (v.2, ()))) (F := fun (i : (List (List Int)) × Int × (List Int) × Int) => impl_pitNetwork_l0F i.1 i.2.1 i.2.2.1 i.2.2.2) (fun _ => rfl) fun i k hk v => Par.of_eq (impl_pitNetwork_l0e i.1 i.2.1 i.2.2.1 i.2.2.2 k v.1 v.2) (impl_pitNetwork_l0p i.1 i.2.1 i.2.2.1 i.2.2.2 (fun a4 a5 => hk (a4, a5)) v.1 v.2)
def c107 : Callee := mkC [.one (.ro (.slice (.slice (.int .i64)))), .one (.ro (.slice (.int .i64)))] 2 [.one (.ro (.int .i64)), .one (.sl TEdge)] fun x => impl_pitNetwork x.1 x.2
theorem e107 (x : PK.dens [.one (.ro (.slice (.slice (.int .i64)))), .one (.ro (.slice (.int .i64)))]) : evalFn Try.prog EL107 or107 Try.f107 (PK.outs [.one (.ro (.slice (.slice (.int .i64)))), .one (.ro (.slice (.int .i64)))] x) =
    impl_pitNetworkK (fun y => some (tupOf ((PK.outs [.one (.ro (.int .i64)), .one (.sl TEdge)] y).take 2), (PK.outs [.one (.ro (.int .i64)), .one (.sl TEdge)] y).drop 2)) x.1 x.2 := by kernel_rfl
theorem o107 : LoOk Try.prog EL107 or107 Try.f107.ntmps (loopsIn (codeOf Try.f107)) :=
  LoOk.mk (m := 2) (by kernel_rfl) fun i hi => match i, hi with
    | 0, _ => ⟨Limpl_pitNetwork_l0, by kernel_rfl, impl_pitNetwork_l0o⟩
    | 1, _ => ⟨Limpl_pitNetwork_l1, by kernel_rfl, impl_pitNetwork_l1o⟩
    | i + 2, hi => absurd hi (by omega)
theorem k107 : CalleeOk Try.prog 107 c107 := callee_mk Try.func107 (code := codeOf Try.f107) (by kernel_rfl) vL107 mixed o107 fun x y h => (e107 x).trans (p107 _ x.1 x.2 y h)

/-- impl.residual).toSink -/
def EL108 : Nat → Option Callee := env0
theorem vL108 : EnvOk Try.prog EL108 := EnvOk.nil
def simpl_residual_toSink_l1 : LS := ⟨[(0, .one (.fix (.ptr 0 0))), (3, .one (.fix (.sref 4))), (5, .one (.win 5)), (40, .one (.dat (.slice (.int .i64)))), (41, .one (.dat (.int .i64))), (42, .one (.dat (.int .i64)))], [.box [.dat (.slice (.slice (.int .i64))), .dat (.slice (.int .i64)), .fix (.sref 1), .fix (.sref 2), .fix (.sref 3)], .sl (.int .i64), .sl (.int .i64), .sl (.int .i64), .sl .bool, .sl (.int .i64)], [0]⟩
def simpl_residual_toSink_l1x0 : LS := ⟨[(0, .one (.fix (.ptr 0 0))), (3, .one (.fix (.sref 4))), (5, .one (.win 5))], [.box [.dat (.slice (.slice (.int .i64))), .dat (.slice (.int .i64)), .fix (.sref 1), .fix (.sref 2), .fix (.sref 3)], .sl (.int .i64), .sl (.int .i64), .sl (.int .i64), .sl .bool, .sl (.int .i64)], [0]⟩
def ximpl_residual_toSink_l1 : List (XS ((List Int) × Int × (List (List Int)) × (List Int) × (List Int) × (List Int) × (List Int))) := [⟨.exit 2, ⟨[0, 3, 5], [.slot 0, .cell 0 2, .cell 0 3, .cell 0 4, .slot 3, .slot 5], [0], []⟩, simpl_residual_toSink_l1x0, Nat × Nat × (List Bool) × (List Int), fun i y => (((), ((), ((y.1, y.2.1), ()))), ((i.2.2.1, (i.2.2.2.1, ((), ((), ((), ()))))), (i.2.2.2.2.1, (i.2.2.2.2.2.1, (i.2.2.2.2.2.2, (y.2.2.1, (y.2.2.2, ())))))))⟩]
def impl_residual_toSink_l1K {R : Type} (a2 : List Int) (a3 : Int) (a6 : List Int) (a7 : List Int) (rc : Nat → Nat → Int → List Bool → List Int → Option R) (fin : Nat × Nat × (List Bool) × (List Int) → Option R) (a0 : Nat) (a1 : Nat) (a4 : Int) (a10 : List Bool) (a11 : List Int) : Option R :=
  cond (decide (a4 < a3))
  ((lat a2 a4).bind fun e1 =>
    cond (decide ((0 : Int) ≤ xorI .i64 e1 1) && decide (xorI .i64 e1 1 < (a7.length : Int)))
    (cond (decide ((a7.getD (0 + (xorI .i64 e1 1).toNat) 0) > 0))
      ((lat a6 e1).bind fun e2 =>
        cond (decide ((0 : Int) ≤ e2) && decide (e2 < (a10.length : Int)))
        (cond (!(a10.getD (0 + e2.toNat) false))
          ((lat a6 e1).bind fun e3 =>
            cond (decide ((0 : Int) ≤ e3) && decide (e3 < (a10.length : Int)))
            ((some (a10.set (0 + e3.toNat) true)).bind fun v4 =>
              (lat a6 e1).bind fun e5 =>
              cond (decide (((a11.drop a0).take a1).length + [e5].length ≤ 1099511627776))
              ((some (((a11.drop a0).take a1) ++ [e5])).bind fun v6 =>
                rc 0 v6.length (IntKind.i64.wrap (a4 + 1)) v4 v6)
              (none))
            (none))
          (rc a0 a1 (IntKind.i64.wrap (a4 + 1)) a10 a11))
        (none))
      (rc a0 a1 (IntKind.i64.wrap (a4 + 1)) a10 a11))
    (none))
  (fin (a0, (a1, (a10, a11))))
def impl_residual_toSink_l1F (a2 : List Int) (a3 : Int) (a6 : List Int) (a7 : List Int) (r : (Nat × Nat × Int × (List Bool) × (List Int)) → Option (Nat × Nat × (List Bool) × (List Int))) (x : Nat × Nat × Int × (List Bool) × (List Int)) : Option (Nat × Nat × (List Bool) × (List Int)) := impl_residual_toSink_l1K a2 a3 a6 a7 (fun a0 a1 a4 a10 a11 => r (a0, (a1, (a4, (a10, a11))))) some x.1 x.2.1 x.2.2.1 x.2.2.2.1 x.2.2.2.2
theorem impl_residual_toSink_l1c (a2 : List Int) (a3 : Int) (a6 : List Int) (a7 : List Int) (x : Nat × Nat × Int × (List Bool) × (List Int)) : Ct fun r => impl_residual_toSink_l1F a2 a3 a6 a7 r x := by
  unfold impl_residual_toSink_l1F impl_residual_toSink_l1K
  repeat' (first | exact Ct.const | exact Ct.call | refine Ct.cond ?_ ?_ | refine Ct.bind ?_ fun _ => ?_ | refine Ct.sum (fun _ => ?_) fun _ => ?_)
def impl_residual_toSink_l1 (a2 : List Int) (a3 : Int) (a6 : List Int) (a7 : List Int) (a0 : Nat) (a1 : Nat) (a4 : Int) (a10 : List Bool) (a11 : List Int) : Option (Nat × Nat × (List Bool) × (List Int)) := lim (impl_residual_toSink_l1F a2 a3 a6 a7) (a0, (a1, (a4, (a10, a11))))
theorem impl_residual_toSink_l1_eq (a2 : List Int) (a3 : Int) (a6 : List Int) (a7 : List Int) (a0 : Nat) (a1 : Nat) (a4 : Int) (a10 : List Bool) (a11 : List Int) : impl_residual_toSink_l1 a2 a3 a6 a7 a0 a1 a4 a10 a11 = impl_residual_toSink_l1K a2 a3 a6 a7 (impl_residual_toSink_l1 a2 a3 a6 a7) some a0 a1 a4 a10 a11 := lim_eq (impl_residual_toSink_l1c a2 a3 a6 a7) (a0, (a1, (a4, (a10, a11))))
theorem impl_residual_toSink_l1p {R : Type} (a2 : List Int) (a3 : Int) (a6 : List Int) (a7 : List Int) {rc : Nat → Nat → Int → List Bool → List Int → Option (Nat × Nat × (List Bool) × (List Int))} {rc' : Nat → Nat → Int → List Bool → List Int → Option R} {fin : Nat × Nat × (List Bool) × (List Int) → Option R} (hr : ∀ a0 a1 a4 a10 a11, Par fin (rc a0 a1 a4 a10 a11) (rc' a0 a1 a4 a10 a11)) (a0 : Nat) (a1 : Nat) (a4 : Int) (a10 : List Bool) (a11 : List Int) : Par fin (impl_residual_toSink_l1K a2 a3 a6 a7 rc some a0 a1 a4 a10 a11) (impl_residual_toSink_l1K a2 a3 a6 a7 rc' fin a0 a1 a4 a10 a11) := by
  unfold impl_residual_toSink_l1K
  repeat' (first | exact .fin | exact .none | exact hr _ _ _ _ _ | refine .cond ?_ ?_ | refine .bind fun _ => ?_ | refine .sum (fun _ => ?_) fun _ => ?_)
def Limpl_residual_toSink_l1 : Loop := mkL ⟨[0, 3, 5, 40, 41, 42], [.slot 0, .cell 0 2, .cell 0 3, .cell 0 4, .slot 3, .slot 5], [0], [.win (.slot 5)]⟩ simpl_residual_toSink_l1 ximpl_residual_toSink_l1 (fun (x : (Unit × Unit × (Nat × Nat) × (List Int) × Int × Int × Unit) × (((List (List Int)) × (List Int) × Unit × Unit × Unit × Unit) × (List Int) × (List Int) × (List Int) × (List Bool) × (List Int) × Unit)) => (x.1.2.2.2.1, (x.1.2.2.2.2.1, (x.2.1.1, (x.2.1.2.1, (x.2.2.1, (x.2.2.2.1, x.2.2.2.2.1))))))) fun (x : (Unit × Unit × (Nat × Nat) × (List Int) × Int × Int × Unit) × (((List (List Int)) × (List Int) × Unit × Unit × Unit × Unit) × (List Int) × (List Int) × (List Int) × (List Bool) × (List Int) × Unit)) => impl_residual_toSink_l1 x.1.2.2.2.1 x.1.2.2.2.2.1 x.2.1.2.1 x.2.2.1 x.1.2.2.1.1 x.1.2.2.1.2 x.1.2.2.2.2.2.1 x.2.2.2.2.2.1 x.2.2.2.2.2.2.1
def simpl_residual_toSink_l0 : LS := ⟨[(0, .one (.fix (.ptr 0 0))), (3, .one (.fix (.sref 4))), (5, .one (.win 5))], [.box [.dat (.slice (.slice (.int .i64))), .dat (.slice (.int .i64)), .fix (.sref 1), .fix (.sref 2), .fix (.sref 3)], .sl (.int .i64), .sl (.int .i64), .sl (.int .i64), .sl .bool, .sl (.int .i64)], [0]⟩
def simpl_residual_toSink_l0x0 : LS := ⟨[(0, .one (.fix (.ptr 0 0))), (3, .one (.fix (.sref 4)))], [.box [.dat (.slice (.slice (.int .i64))), .dat (.slice (.int .i64)), .fix (.sref 1), .fix (.sref 2), .fix (.sref 3)], .sl (.int .i64), .sl (.int .i64), .sl (.int .i64), .sl .bool], [0]⟩
def ximpl_residual_toSink_l0 : List (XS ((List (List Int)) × (List Int) × (List Int) × (List Int) × (List Int))) := [⟨.exit 0, ⟨[0, 3], [.slot 0, .cell 0 2, .cell 0 3, .cell 0 4, .slot 3], [0], []⟩, simpl_residual_toSink_l0x0, List Bool, fun i y => (((), ((), ())), ((i.1, (i.2.1, ((), ((), ((), ()))))), (i.2.2.1, (i.2.2.2.1, (i.2.2.2.2, (y, ()))))))⟩]
def impl_residual_toSink_l0K {R : Type} (a2 : List (List Int)) (a3 : List Int) (a4 : List Int) (rc : Nat → Nat → List Bool → List Int → Option R) (fin : List Bool → Option R) (a0 : Nat) (a1 : Nat) (a7 : List Bool) (a8 : List Int) : Option R :=
  cond (decide ((((a8.drop a0).take a1).length : Int) > 0))
  (cond (decide ((0 : Int) < (((a8.drop a0).take a1).length : Int)))
    (cond (decide ((1 : Int) ≤ (((a8.drop a0).take a1).length : Int)) && decide ((((a8.drop a0).take a1).length : Int) ≤ (((a8.drop a0).take a1).length : Int)))
      ((lat a2 (a8.getD (a0 + 0) 0)).bind fun e1 =>
        (impl_residual_toSink_l1 e1 (e1.length : Int) a3 a4 (a0 + 1) ((((a8.drop a0).take a1).length : Int).toNat - 1) 0 a7 a8).bind fun y14 =>
        rc y14.1 y14.2.1 y14.2.2.1 y14.2.2.2)
      (none))
    (none))
  (fin a7)
def impl_residual_toSink_l0F (a2 : List (List Int)) (a3 : List Int) (a4 : List Int) (r : (Nat × Nat × (List Bool) × (List Int)) → Option (List Bool)) (x : Nat × Nat × (List Bool) × (List Int)) : Option (List Bool) := impl_residual_toSink_l0K a2 a3 a4 (fun a0 a1 a7 a8 => r (a0, (a1, (a7, a8)))) some x.1 x.2.1 x.2.2.1 x.2.2.2
theorem impl_residual_toSink_l0c (a2 : List (List Int)) (a3 : List Int) (a4 : List Int) (x : Nat × Nat × (List Bool) × (List Int)) : Ct fun r => impl_residual_toSink_l0F a2 a3 a4 r x := by
  unfold impl_residual_toSink_l0F impl_residual_toSink_l0K
  repeat' (first | exact Ct.const | exact Ct.call | refine Ct.cond ?_ ?_ | refine Ct.bind ?_ fun _ => ?_ | refine Ct.sum (fun _ => ?_) fun _ => ?_)
def impl_residual_toSink_l0 (a2 : List (List Int)) (a3 : List Int) (a4 : List Int) (a0 : Nat) (a1 : Nat) (a7 : List Bool) (a8 : List Int) : Option (List Bool) := lim (impl_residual_toSink_l0F a2 a3 a4) (a0, (a1, (a7, a8)))
theorem impl_residual_toSink_l0_eq (a2 : List (List Int)) (a3 : List Int) (a4 : List Int) (a0 : Nat) (a1 : Nat) (a7 : List Bool) (a8 : List Int) : impl_residual_toSink_l0 a2 a3 a4 a0 a1 a7 a8 = impl_residual_toSink_l0K a2 a3 a4 (impl_residual_toSink_l0 a2 a3 a4) some a0 a1 a7 a8 := lim_eq (impl_residual_toSink_l0c a2 a3 a4) (a0, (a1, (a7, a8)))
theorem impl_residual_toSink_l0p {R : Type} (a2 : List (List Int)) (a3 : List Int) (a4 : List Int) {rc : Nat → Nat → List Bool → List Int → Option (List Bool)} {rc' : Nat → Nat → List Bool → List Int → Option R} {fin : List Bool → Option R} (hr : ∀ a0 a1 a7 a8, Par fin (rc a0 a1 a7 a8) (rc' a0 a1 a7 a8)) (a0 : Nat) (a1 : Nat) (a7 : List Bool) (a8 : List Int) : Par fin (impl_residual_toSink_l0K a2 a3 a4 rc some a0 a1 a7 a8) (impl_residual_toSink_l0K a2 a3 a4 rc' fin a0 a1 a7 a8) := by
  unfold impl_residual_toSink_l0K
  repeat' (first | exact .fin | exact .none | exact hr _ _ _ _ | refine .cond ?_ ?_ | refine .bind fun _ => ?_ | refine .sum (fun _ => ?_) fun _ => ?_)
def Limpl_residual_toSink_l0 : Loop := mkL ⟨[0, 3, 5], [.slot 0, .cell 0 2, .cell 0 3, .cell 0 4, .slot 3, .slot 5], [0], [.win (.slot 5)]⟩ simpl_residual_toSink_l0 ximpl_residual_toSink_l0 (fun (x : (Unit × Unit × (Nat × Nat) × Unit) × (((List (List Int)) × (List Int) × Unit × Unit × Unit × Unit) × (List Int) × (List Int) × (List Int) × (List Bool) × (List Int) × Unit)) => (x.2.1.1, (x.2.1.2.1, (x.2.2.1, (x.2.2.2.1, x.2.2.2.2.1))))) fun (x : (Unit × Unit × (Nat × Nat) × Unit) × (((List (List Int)) × (List Int) × Unit × Unit × Unit × Unit) × (List Int) × (List Int) × (List Int) × (List Bool) × (List Int) × Unit)) => impl_residual_toSink_l0 x.2.1.1 x.2.1.2.1 x.2.2.1 x.1.2.2.1.1 x.1.2.2.1.2 x.2.2.2.2.2.1 x.2.2.2.2.2.2.1
def impl_residual_toSinkK {R : Type} (fin : (List Bool) × ((List (List Int)) × (List Int) × (List Int) × (List Int) × (List Int)) → Option R) (x0 : (List (List Int)) × (List Int) × (List Int) × (List Int) × (List Int)) : Option R :=
  cond (decide ((0 : Int) ≤ (x0.1.length : Int)) && (decide ((x0.1.length : Int) ≤ (x0.1.length : Int)) && decide ((x0.1.length : Int) ≤ 1099511627776)))
  ((some ((List.replicate ((x0.1.length : Int).toNat) false : List Bool))).bind fun v1 =>
    cond (decide ((0 : Int) ≤ IntKind.i64.wrap ((x0.1.length : Int) - 1)) && decide (IntKind.i64.wrap ((x0.1.length : Int) - 1) < (v1.length : Int)))
    ((some (v1.set (0 + (IntKind.i64.wrap ((x0.1.length : Int) - 1)).toNat) true)).bind fun v2 =>
      (impl_residual_toSink_l0 x0.1 x0.2.1 x0.2.2.1 0 ([IntKind.i64.wrap ((x0.1.length : Int) - 1)].length) v2 [IntKind.i64.wrap ((x0.1.length : Int) - 1)]).bind fun y31 =>
      fin (y31, x0))
    (none))
  (none)
def impl_residual_toSink (x0 : (List (List Int)) × (List Int) × (List Int) × (List Int) × (List Int)) : Option ((List Bool) × ((List (List Int)) × (List Int) × (List Int) × (List Int) × (List Int))) := impl_residual_toSinkK some x0
theorem p108 {R : Type} (fin : (List Bool) × ((List (List Int)) × (List Int) × (List Int) × (List Int) × (List Int)) → Option R) (x0 : (List (List Int)) × (List Int) × (List Int) × (List Int) × (List Int)) : Par fin (impl_residual_toSinkK some x0) (impl_residual_toSinkK fin x0) := by
  unfold impl_residual_toSinkK
  repeat' (first | exact .fin | exact .none | refine .cond ?_ ?_ | refine .bind fun _ => ?_ | refine .sum (fun _ => ?_) fun _ => ?_)
def or108 : Ora := { lo := addL 5 (Limpl_residual_toSink_l0) (addL 9 (Limpl_residual_toSink_l1) lo0), fin := [] }
theorem impl_residual_toSink_l1e (a2 : List Int) (a3 : Int) (a5 : List (List Int)) (a6 : List Int) (a7 : List Int) (a8 : List Int) (a9 : List Int) (k : Nat) (a0 : Nat) (a1 : Nat) (a4 : Int) (a10 : List Bool) (a11 : List Int) : loopC Try.prog EL108 or108 ((loopsIn (codeOf Try.f108)).getD 1 .skip) (Limpl_residual_toSink_l1).h (Limpl_residual_toSink_l1).ho Try.f108.ntmps (k + 1) (simpl_residual_toSink_l1.out (((), ((), ((a0, a1), (a2, (a3, (a4, ())))))), ((a5, (a6, ((), ((), ((), ()))))), (a7, (a8, (a9, (a10, (a11, ())))))))) =
    impl_residual_toSink_l1K a2 a3 a6 a7 (fun a0 a1 a4 a10 a11 => loopC Try.prog EL108 or108 ((loopsIn (codeOf Try.f108)).getD 1 .skip) (Limpl_residual_toSink_l1).h (Limpl_residual_toSink_l1).ho Try.f108.ntmps k (simpl_residual_toSink_l1.out (((), ((), ((a0, a1), (a2, (a3, (a4, ())))))), ((a5, (a6, ((), ((), ((), ()))))), (a7, (a8, (a9, (a10, (a11, ()))))))))) (fun y => some (XS.out ximpl_residual_toSink_l1 (a2, (a3, (a5, (a6, (a7, (a8, a9)))))) y)) a0 a1 a4 a10 a11 := by kernel_rfl
theorem impl_residual_toSink_l1o : LoopOk Try.prog EL108 or108 Try.f108.ntmps ((loopsIn (codeOf Try.f108)).getD 1 .skip) (Limpl_residual_toSink_l1) :=
  loop_lim (hs := simpl_residual_toSink_l1) (xs := ximpl_residual_toSink_l1) (ι := fun (x : (Unit × Unit × (Nat × Nat) × (List Int) × Int × Int × Unit) × (((List (List Int)) × (List Int) × Unit × Unit × Unit × Unit) × (List Int) × (List Int) × (List Int) × (List Bool) × (List Int) × Unit)) => (x.1.2.2.2.1, (x.1.2.2.2.2.1, (x.2.1.1, (x.2.1.2.1, (x.2.2.1, (x.2.2.2.1, x.2.2.2.2.1))))))) (φ := fun (x : (Unit × Unit × (Nat × Nat) × (List Int) × Int × Int × Unit) × (((List (List Int)) × (List Int) × Unit × Unit × Unit × Unit) × (List Int) × (List Int) × (List Int) × (List Bool) × (List Int) × Unit)) => (x.1.2.2.1.1, (x.1.2.2.1.2, (x.1.2.2.2.2.2.1, (x.2.2.2.2.2.1, x.2.2.2.2.2.2.1))))) (ψ := fun (i : (List Int) × Int × (List (List Int)) × (List Int) × (List Int) × (List Int) × (List Int)) (v : Nat × Nat × Int × (List Bool) × (List Int)) => (((), ((), ((v.1, v.2.1), (i.1, (i.2.1, (v.2.2.1, ())))))), ((i.2.2.1, (i.2.2.2.1, ((), ((), ((), ()))))), (i.2.2.2.2.1, (i.2.2.2.2.2.1, (i.2.2.2.2.2.2, (v.2.2.2.1, (v.2.2.2.2, ())))))))) (F := fun (i : (List Int) × Int × (List (List Int)) × (List Int) × (List Int) × (List Int) × (List Int)) => impl_residual_toSink_l1F i.1 i.2.1 i.2.2.2.1 i.2.2.2.2.1) (fun _ => rfl) fun i k hk v => Par.of_eq (impl_residual_toSink_l1e i.1 i.2.1 i.2.2.1 i.2.2.2.1 i.2.2.2.2.1 i.2.2.2.2.2.1 i.2.2.2.2.2.2 k v.1 v.2.1 v.2.2.1 v.2.2.2.1 v.2.2.2.2) (impl_residual_toSink_l1p i.1 i.2.1 i.2.2.2.1 i.2.2.2.2.1 (fun a0 a1 a4 a10 a11 => hk (a0, (a1, (a4, (a10, a11))))) v.1 v.2.1 v.2.2.1 v.2.2.2.1 v.2.2.2.2)
theorem impl_residual_toSink_l0e (a2 : List (List Int)) (a3 : List Int) (a4 : List Int) (a5 : List Int) (a6 : List Int) (k : Nat) (a0 : Nat) (a1 : Nat) (a7 : List Bool) (a8 : List Int) : loopC Try.prog EL108 or108 ((loopsIn (codeOf Try.f108)).getD 0 .skip) (Limpl_residual_toSink_l0).h (Limpl_residual_toSink_l0).ho Try.f108.ntmps (k + 1) (simpl_residual_toSink_l0.out (((), ((), ((a0, a1), ()))), ((a2, (a3, ((), ((), ((), ()))))), (a4, (a5, (a6, (a7, (a8, ())))))))) =
    impl_residual_toSink_l0K a2 a3 a4 (fun a0 a1 a7 a8 => loopC Try.prog EL108 or108 ((loopsIn (codeOf Try.f108)).getD 0 .skip) (Limpl_residual_toSink_l0).h (Limpl_residual_toSink_l0).ho Try.f108.ntmps k (simpl_residual_toSink_l0.out (((), ((), ((a0, a1), ()))), ((a2, (a3, ((), ((), ((), ()))))), (a4, (a5, (a6, (a7, (a8, ()))))))))) (fun y => some (XS.out ximpl_residual_toSink_l0 (a2, (a3, (a4, (a5, a6)))) y)) a0 a1 a7 a8 := by kernel_rfl
theorem impl_residual_toSink_l0o : LoopOk Try.prog EL108 or108 Try.f108.ntmps ((loopsIn (codeOf Try.f108)).getD 0 .skip) (Limpl_residual_toSink_l0) :=
  loop_lim (hs := simpl_residual_toSink_l0) (xs := ximpl_residual_toSink_l0) (ι := fun (x : (Unit × Unit × (Nat × Nat) × Unit) × (((List (List Int)) × (List Int) × Unit × Unit × Unit × Unit) × (List Int) × (List Int) × (List Int) × (List Bool) × (List Int) × Unit)) => (x.2.1.1, (x.2.1.2.1, (x.2.2.1, (x.2.2.2.1, x.2.2.2.2.1))))) (φ := fun (x : (Unit × Unit × (Nat × Nat) × Unit) × (((List (List Int)) × (List Int) × Unit × Unit × Unit × Unit) × (List Int) × (List Int) × (List Int) × (List Bool) × (List Int) × Unit)) => (x.1.2.2.1.1, (x.1.2.2.1.2, (x.2.2.2.2.2.1, x.2.2.2.2.2.2.1)))) (ψ := fun (i : (List (List Int)) × (List Int) × (List Int) × (List Int) × (List Int)) (v : Nat × Nat × (List Bool) × (List Int)) => (((), ((), ((v.1, v.2.1), ()))), ((i.1, (i.2.1, ((), ((), ((), ()))))), (i.2.2.1, (i.2.2.2.1, (i.2.2.2.2, (v.2.2.1, (v.2.2.2, ())))))))) (F := fun (i : (List (List Int)) × (List Int) × (List Int) × (List Int) × (List Int)) => impl_residual_toSink_l0F i.1 i.2.1 i.2.2.1) (fun _ => rfl) fun i k hk v => Par.of_eq (impl_residual_toSink_l0e i.1 i.2.1 i.2.2.1 i.2.2.2.1 i.2.2.2.2 k v.1 v.2.1 v.2.2.1 v.2.2.2) (impl_residual_toSink_l0p i.1 i.2.1 i.2.2.1 (fun a0 a1 a7 a8 => hk (a0, (a1, (a7, a8)))) v.1 v.2.1 v.2.2.1 v.2.2.2)
def c108 : Callee := mkC [.box [.ro (.slice (.slice (.int .i64))), .ro (.slice (.int .i64)), .sl (.int .i64), .sl (.int .i64), .sl (.int .i64)]] 1 [.one (.sl .bool), .box [.ro (.slice (.slice (.int .i64))), .ro (.slice (.int .i64)), .sl (.int .i64), .sl (.int .i64), .sl (.int .i64)]] fun x => impl_residual_toSink x
theorem e108 (x : PK.dens [.box [.ro (.slice (.slice (.int .i64))), .ro (.slice (.int .i64)), .sl (.int .i64), .sl (.int .i64), .sl (.int .i64)]]) : evalFn Try.prog EL108 or108 Try.f108 (PK.outs [.box [.ro (.slice (.slice (.int .i64))), .ro (.slice (.int .i64)), .sl (.int .i64), .sl (.int .i64), .sl (.int .i64)]] x) =
    impl_residual_toSinkK (fun y => some (tupOf ((PK.outs [.one (.sl .bool), .box [.ro (.slice (.slice (.int .i64))), .ro (.slice (.int .i64)), .sl (.int .i64), .sl (.int .i64), .sl (.int .i64)]] y).take 1), (PK.outs [.one (.sl .bool), .box [.ro (.slice (.slice (.int .i64))), .ro (.slice (.int .i64)), .sl (.int .i64), .sl (.int .i64), .sl (.int .i64)]] y).drop 1)) x := by kernel_rfl
theorem o108 : LoOk Try.prog EL108 or108 Try.f108.ntmps (loopsIn (codeOf Try.f108)) :=
  LoOk.mk (m := 2) (by kernel_rfl) fun i hi => match i, hi with
    | 0, _ => ⟨Limpl_residual_toSink_l0, by kernel_rfl, impl_residual_toSink_l0o⟩
    | 1, _ => ⟨Limpl_residual_toSink_l1, by kernel_rfl, impl_residual_toSink_l1o⟩
    | i + 2, hi => absurd hi (by omega)
theorem k108 : CalleeOk Try.prog 108 c108 := callee_mk Try.func108 (code := codeOf Try.f108) (by kernel_rfl) vL108 mixed o108 fun x y h => (e108 x).trans (p108 _ x y h)
end
end Go.OAI
