/- Contracts: GFr. -/
import Derived.Test.YtnmeejeedfeolaaGA
namespace Go.OAI
open Go.Proofs
set_option linter.unusedVariables false
noncomputable section


/-- impl.abs -/
def EL120 : Nat → Option Callee := env0
theorem vL120 : EnvOk Try.prog EL120 := EnvOk.nil
def impl_absK {R : Type} (fin : Int → Option R) (x0 : Int) : Option R :=
  fin (if (IntKind.i64.wrap (0 - x0)) > x0 then IntKind.i64.wrap (0 - x0) else x0)
def impl_abs (x0 : Int) : Option (Int) := impl_absK some x0
theorem p120 {R : Type} (fin : Int → Option R) (x0 : Int) : Par fin (impl_absK some x0) (impl_absK fin x0) := by
  unfold impl_absK
  repeat' (first | exact .fin | exact .none | refine .cond ?_ ?_ | refine .bind fun _ => ?_ | refine .sum (fun _ => ?_) fun _ => ?_)
def c120 : Callee := mkC [.one (.ro (.int .i64))] 1 [.one (.ro (.int .i64))] fun x => impl_abs x
theorem e120 (x : PK.dens [.one (.ro (.int .i64))]) : evalFn Try.prog EL120 or0 Try.f120 (PK.outs [.one (.ro (.int .i64))] x) =
    impl_absK (fun y => some (tupOf ((PK.outs [.one (.ro (.int .i64))] y).take 1), (PK.outs [.one (.ro (.int .i64))] y).drop 1)) x := by kernel_rfl
theorem k120 : CalleeOk Try.prog 120 c120 := callee_mk Try.func120 (code := codeOf Try.f120) (by kernel_rfl) vL120 mixed (LoOk.nil (by kernel_rfl)) fun x y h => (e120 x).trans (p120 _ x y h)

/-- impl.lowest -/
def EL87 : Nat → Option Callee := addE 120 c120 env0
theorem vL87 : EnvOk Try.prog EL87 := EnvOk.nil.add Try.func120 rfl (by kernel_rfl) k120
def simpl_lowest_l0 : LS := ⟨[(0, .one (.dat (.int .i64))), (1, .one (.dat (.int .i64))), (6, .one (.dat (.int .i64))), (7, .one (.dat (.int .i64)))], [], []⟩
def simpl_lowest_l0x0 : LS := ⟨[(0, .one (.dat (.int .i64))), (1, .one (.dat (.int .i64))), (6, .one (.dat (.int .i64)))], [], []⟩
def ximpl_lowest_l0 : List (XS (Int × Int)) := [⟨.exit 0, ⟨[0, 1, 6], [], [], []⟩, simpl_lowest_l0x0, Int, fun i y => ((i.1, (i.2, (y, ()))), ())⟩]
def impl_lowest_l0K {R : Type} (rc : Int → Int → Option R) (fin : Int → Option R) (a2 : Int) (a3 : Int) : Option R :=
  cond (a3 != 0)
  (cond (decide (a3 = 0))
    (none)
    (rc a3 (a2.tmod a3)))
  (fin a2)
def impl_lowest_l0F (r : (Int × Int) → Option (Int)) (x : Int × Int) : Option (Int) := impl_lowest_l0K (fun a2 a3 => r (a2, a3)) some x.1 x.2
theorem impl_lowest_l0c (x : Int × Int) : Ct fun r => impl_lowest_l0F r x := by
  unfold impl_lowest_l0F impl_lowest_l0K
  repeat' (first | exact Ct.const | exact Ct.call | refine Ct.cond ?_ ?_ | refine Ct.bind ?_ fun _ => ?_ | refine Ct.sum (fun _ => ?_) fun _ => ?_)
def impl_lowest_l0 (a2 : Int) (a3 : Int) : Option (Int) := lim (impl_lowest_l0F) (a2, a3)
theorem impl_lowest_l0_eq (a2 : Int) (a3 : Int) : impl_lowest_l0 a2 a3 = impl_lowest_l0K (impl_lowest_l0) some a2 a3 := lim_eq (impl_lowest_l0c) (a2, a3)
theorem impl_lowest_l0p {R : Type} {rc : Int → Int → Option (Int)} {rc' : Int → Int → Option R} {fin : Int → Option R} (hr : ∀ a2 a3, Par fin (rc a2 a3) (rc' a2 a3)) (a2 : Int) (a3 : Int) : Par fin (impl_lowest_l0K rc some a2 a3) (impl_lowest_l0K rc' fin a2 a3) := by
  unfold impl_lowest_l0K
  repeat' (first | exact .fin | exact .none | exact hr _ _ | refine .cond ?_ ?_ | refine .bind fun _ => ?_ | refine .sum (fun _ => ?_) fun _ => ?_)
def Limpl_lowest_l0 : Loop := mkL ⟨[0, 1, 6, 7], [], [], []⟩ simpl_lowest_l0 ximpl_lowest_l0 (fun (x : (Int × Int × Int × Int × Unit) × (Unit)) => (x.1.1, x.1.2.1)) fun (x : (Int × Int × Int × Int × Unit) × (Unit)) => impl_lowest_l0 x.1.2.2.1 x.1.2.2.2.1
def impl_lowestK {R : Type} (fin : Int × Int → Option R) (x0 : Int) (x1 : Int) : Option R :=
  (impl_abs x0).bind fun y1 =>
  (impl_lowest_l0 y1 x1).bind fun y2 =>
  cond (decide (y2 = 0))
  (none)
  (cond (decide (y2 = 0))
    (none)
    (fin (IntKind.i64.wrap (x0.tdiv y2), IntKind.i64.wrap (x1.tdiv y2))))
def impl_lowest (x0 : Int) (x1 : Int) : Option (Int × Int) := impl_lowestK some x0 x1
theorem p87 {R : Type} (fin : Int × Int → Option R) (x0 : Int) (x1 : Int) : Par fin (impl_lowestK some x0 x1) (impl_lowestK fin x0 x1) := by
  unfold impl_lowestK
  repeat' (first | exact .fin | exact .none | refine .cond ?_ ?_ | refine .bind fun _ => ?_ | refine .sum (fun _ => ?_) fun _ => ?_)
def or87 : Ora := { lo := addL 2 (Limpl_lowest_l0) lo0, fin := [] }
theorem impl_lowest_l0e (a0 : Int) (a1 : Int) (k : Nat) (a2 : Int) (a3 : Int) : loopC Try.prog EL87 or87 ((loopsIn (codeOf Try.f87)).getD 0 .skip) (Limpl_lowest_l0).h (Limpl_lowest_l0).ho Try.f87.ntmps (k + 1) (simpl_lowest_l0.out ((a0, (a1, (a2, (a3, ())))), ())) =
    impl_lowest_l0K (fun a2 a3 => loopC Try.prog EL87 or87 ((loopsIn (codeOf Try.f87)).getD 0 .skip) (Limpl_lowest_l0).h (Limpl_lowest_l0).ho Try.f87.ntmps k (simpl_lowest_l0.out ((a0, (a1, (a2, (a3, ())))), ()))) (fun y => some (XS.out ximpl_lowest_l0 (a0, a1) y)) a2 a3 := by kernel_rfl
theorem impl_lowest_l0o : LoopOk Try.prog EL87 or87 Try.f87.ntmps ((loopsIn (codeOf Try.f87)).getD 0 .skip) (Limpl_lowest_l0) :=
  loop_lim (hs := simpl_lowest_l0) (xs := ximpl_lowest_l0) (ι := fun (x : (Int × Int × Int × Int × Unit) × (Unit)) => (x.1.1, x.1.2.1)) (φ := fun (x : (Int × Int × Int × Int × Unit) × (Unit)) => (x.1.2.2.1, x.1.2.2.2.1)) (ψ := fun (i : Int × Int) (v : Int × Int) => ((i.1, (i.2, (v.1, (v.2, ())))), ())) (F := fun (i : Int × Int) => impl_lowest_l0F) (fun _ => rfl) fun i k hk v => Par.of_eq (impl_lowest_l0e i.1 i.2 k v.1 v.2) (impl_lowest_l0p (fun a2 a3 => hk (a2, a3)) v.1 v.2)
def c87 : Callee := mkC [.one (.ro (.int .i64)), .one (.ro (.int .i64))] 2 [.one (.ro (.int .i64)), .one (.ro (.int .i64))] fun x => impl_lowest x.1 x.2
theorem e87 (x : PK.dens [.one (.ro (.int .i64)), .one (.ro (.int .i64))]) : evalFn Try.prog EL87 or87 Try.f87 (PK.outs [.one (.ro (.int .i64)), .one (.ro (.int .i64))] x) =
    impl_lowestK (fun y => some (tupOf ((PK.outs [.one (.ro (.int .i64)), .one (.ro (.int .i64))] y).take 2), (PK.outs [.one (.ro (.int .i64)), .one (.ro (.int .i64))] y).drop 2)) x.1 x.2 := by kernel_rfl
theorem o87 : LoOk Try.prog EL87 or87 Try.f87.ntmps (loopsIn (codeOf Try.f87)) :=
  LoOk.mk (m := 1) (by kernel_rfl) fun i hi => match i, hi with
    | 0, _ => ⟨Limpl_lowest_l0, by kernel_rfl, impl_lowest_l0o⟩
    | i + 1, hi => absurd hi (by omega)
theorem k87 : CalleeOk Try.prog 87 c87 := callee_mk Try.func87 (code := codeOf Try.f87) (by kernel_rfl) vL87 mixed o87 fun x y h => (e87 x).trans (p87 _ x.1 x.2 y h)

/-- spec.moPart -/
def EL116 : Nat → Option Callee := env0
theorem vL116 : EnvOk Try.prog EL116 := EnvOk.nil
def sspec_moPart_l0 : LS := ⟨[(0, .one (.dat (.int .i64))), (1, .one (.dat (.int .i64))), (6, .one (.dat (.int .i64))), (7, .one (.dat (.int .i64)))], [], []⟩
def sspec_moPart_l0x0 : LS := ⟨[(0, .one (.dat (.int .i64))), (1, .one (.dat (.int .i64))), (6, .one (.dat (.int .i64)))], [], []⟩
def xspec_moPart_l0 : List (XS (Int × Int)) := [⟨.exit 0, ⟨[0, 1, 6], [], [], []⟩, sspec_moPart_l0x0, Int, fun i y => ((i.1, (i.2, (y, ()))), ())⟩]
def spec_moPart_l0K {R : Type} (rc : Int → Int → Option R) (fin : Int → Option R) (a2 : Int) (a3 : Int) : Option R :=
  cond (decide (a3 > 0))
  (cond (decide (a3 = 0))
    (none)
    (rc a3 (a2.tmod a3)))
  (fin a2)
def spec_moPart_l0F (r : (Int × Int) → Option (Int)) (x : Int × Int) : Option (Int) := spec_moPart_l0K (fun a2 a3 => r (a2, a3)) some x.1 x.2
theorem spec_moPart_l0c (x : Int × Int) : Ct fun r => spec_moPart_l0F r x := by
  unfold spec_moPart_l0F spec_moPart_l0K
  repeat' (first | exact Ct.const | exact Ct.call | refine Ct.cond ?_ ?_ | refine Ct.bind ?_ fun _ => ?_ | refine Ct.sum (fun _ => ?_) fun _ => ?_)
def spec_moPart_l0 (a2 : Int) (a3 : Int) : Option (Int) := lim (spec_moPart_l0F) (a2, a3)
theorem spec_moPart_l0_eq (a2 : Int) (a3 : Int) : spec_moPart_l0 a2 a3 = spec_moPart_l0K (spec_moPart_l0) some a2 a3 := lim_eq (spec_moPart_l0c) (a2, a3)
theorem spec_moPart_l0p {R : Type} {rc : Int → Int → Option (Int)} {rc' : Int → Int → Option R} {fin : Int → Option R} (hr : ∀ a2 a3, Par fin (rc a2 a3) (rc' a2 a3)) (a2 : Int) (a3 : Int) : Par fin (spec_moPart_l0K rc some a2 a3) (spec_moPart_l0K rc' fin a2 a3) := by
  unfold spec_moPart_l0K
  repeat' (first | exact .fin | exact .none | exact hr _ _ | refine .cond ?_ ?_ | refine .bind fun _ => ?_ | refine .sum (fun _ => ?_) fun _ => ?_)
def Lspec_moPart_l0 : Loop := mkL ⟨[0, 1, 6, 7], [], [], []⟩ sspec_moPart_l0 xspec_moPart_l0 (fun (x : (Int × Int × Int × Int × Unit) × (Unit)) => (x.1.1, x.1.2.1)) fun (x : (Int × Int × Int × Int × Unit) × (Unit)) => spec_moPart_l0 x.1.2.2.1 x.1.2.2.2.1
def spec_moPartK {R : Type} (fin : Int × Int → Option R) (x0 : Int) (x1 : Int) : Option R :=
  (spec_moPart_l0 x0 x1).bind fun y1 =>
  cond (decide (y1 = 0))
  (none)
  (cond (decide (y1 = 0))
    (none)
    (fin (IntKind.i64.wrap (x0.tdiv y1), IntKind.i64.wrap (x1.tdiv y1))))
def spec_moPart (x0 : Int) (x1 : Int) : Option (Int × Int) := spec_moPartK some x0 x1
theorem p116 {R : Type} (fin : Int × Int → Option R) (x0 : Int) (x1 : Int) : Par fin (spec_moPartK some x0 x1) (spec_moPartK fin x0 x1) := by
  unfold spec_moPartK
  repeat' (first | exact .fin | exact .none | refine .cond ?_ ?_ | refine .bind fun _ => ?_ | refine .sum (fun _ => ?_) fun _ => ?_)
def or116 : Ora := { lo := addL 2 (Lspec_moPart_l0) lo0, fin := [] }
theorem spec_moPart_l0e (a0 : Int) (a1 : Int) (k : Nat) (a2 : Int) (a3 : Int) : loopC Try.prog EL116 or116 ((loopsIn (codeOf Try.f116)).getD 0 .skip) (Lspec_moPart_l0).h (Lspec_moPart_l0).ho Try.f116.ntmps (k + 1) (sspec_moPart_l0.out ((a0, (a1, (a2, (a3, ())))), ())) =
    spec_moPart_l0K (fun a2 a3 => loopC Try.prog EL116 or116 ((loopsIn (codeOf Try.f116)).getD 0 .skip) (Lspec_moPart_l0).h (Lspec_moPart_l0).ho Try.f116.ntmps k (sspec_moPart_l0.out ((a0, (a1, (a2, (a3, ())))), ()))) (fun y => some (XS.out xspec_moPart_l0 (a0, a1) y)) a2 a3 := by kernel_rfl
theorem spec_moPart_l0o : LoopOk Try.prog EL116 or116 Try.f116.ntmps ((loopsIn (codeOf Try.f116)).getD 0 .skip) (Lspec_moPart_l0) :=
  loop_lim (hs := sspec_moPart_l0) (xs := xspec_moPart_l0) (ι := fun (x : (Int × Int × Int × Int × Unit) × (Unit)) => (x.1.1, x.1.2.1)) (φ := fun (x : (Int × Int × Int × Int × Unit) × (Unit)) => (x.1.2.2.1, x.1.2.2.2.1)) (ψ := fun (i : Int × Int) (v : Int × Int) => ((i.1, (i.2, (v.1, (v.2, ())))), ())) (F := fun (i : Int × Int) => spec_moPart_l0F) (fun _ => rfl) fun i k hk v => Par.of_eq (spec_moPart_l0e i.1 i.2 k v.1 v.2) (spec_moPart_l0p (fun a2 a3 => hk (a2, a3)) v.1 v.2)
def c116 : Callee := mkC [.one (.ro (.int .i64)), .one (.ro (.int .i64))] 2 [.one (.ro (.int .i64)), .one (.ro (.int .i64))] fun x => spec_moPart x.1 x.2
theorem e116 (x : PK.dens [.one (.ro (.int .i64)), .one (.ro (.int .i64))]) : evalFn Try.prog EL116 or116 Try.f116 (PK.outs [.one (.ro (.int .i64)), .one (.ro (.int .i64))] x) =
    spec_moPartK (fun y => some (tupOf ((PK.outs [.one (.ro (.int .i64)), .one (.ro (.int .i64))] y).take 2), (PK.outs [.one (.ro (.int .i64)), .one (.ro (.int .i64))] y).drop 2)) x.1 x.2 := by kernel_rfl
theorem o116 : LoOk Try.prog EL116 or116 Try.f116.ntmps (loopsIn (codeOf Try.f116)) :=
  LoOk.mk (m := 1) (by kernel_rfl) fun i hi => match i, hi with
    | 0, _ => ⟨Lspec_moPart_l0, by kernel_rfl, spec_moPart_l0o⟩
    | i + 1, hi => absurd hi (by omega)
theorem k116 : CalleeOk Try.prog 116 c116 := callee_mk Try.func116 (code := codeOf Try.f116) (by kernel_rfl) vL116 mixed o116 fun x y h => (e116 x).trans (p116 _ x.1 x.2 y h)
end
end Go.OAI
