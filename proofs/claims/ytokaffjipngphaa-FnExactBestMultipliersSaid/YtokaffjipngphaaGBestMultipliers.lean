/- Contracts: GBestMultipliers. -/
import Derived.Test.YtokaffjipngphaaGA
import Derived.Test.YtokaffjipngphaaGM
import Derived.Test.YtokaffjipngphaaGRe
import Derived.Test.YtokaffjipngphaaGRb
namespace Go.OAI
open Go.Proofs
set_option linter.unusedVariables false
noncomputable section


/-- spec.BestMultipliers -/
def EL32 : Nat → Option Callee := addE 61 c61 (addE 56 c56 (addE 65 c65 (addE 47 c47 env0)))
theorem vL32 : EnvOk Try.prog EL32 := (((EnvOk.nil.add Try.func47 rfl (by kernel_rfl) k47).add Try.func65 rfl (by kernel_rfl) k65).add Try.func56 rfl (by kernel_rfl) k56).add Try.func61 rfl (by kernel_rfl) k61
def sspec_BestMultipliers_l0 : LS := ⟨[(2, .one (.fix (.ptr 0 0))), (6, .one (.dat (.int .i64))), (7, .one (.dat (.int .i64))), (20, .one (.dat (.slice (.slice (.int .i64))))), (21, .one (.dat (.int .i64))), (22, .one (.dat (.int .i64)))], [.box [.dat (.slice (.slice (.int .i64))), .dat (.slice (.int .i64)), .dat (.slice (.int .i64)), .dat (.int .i64), .dat (.int .i64), .dat (.int .i64), .dat (.int .i64), .dat (.int .i64)]], []⟩
def sspec_BestMultipliers_l0x0 : LS := ⟨[(4, .one (.dat (.int .i64))), (5, .one (.dat .bool))], [], []⟩
def sspec_BestMultipliers_l0x1 : LS := ⟨[(6, .one (.dat (.int .i64)))], [], []⟩
def xspec_BestMultipliers_l0 : List (XS ((List (List Int)) × Int × (List (List Int)) × (List Int) × (List Int) × Int × Int × Int × Int × Int)) := [⟨.ret, ⟨[4, 5], [], [], []⟩, sspec_BestMultipliers_l0x0, Int × Bool, fun i y => ((y.1, (y.2, ())), ())⟩,
  ⟨.exit 0, ⟨[6], [], [], []⟩, sspec_BestMultipliers_l0x1, Int, fun i y => ((y, ()), ())⟩]
def spec_BestMultipliers_l0K {R : Type} (a2 : List (List Int)) (a3 : Int) (a5 : List (List Int)) (a6 : List Int) (a7 : List Int) (a8 : Int) (a9 : Int) (a10 : Int) (a11 : Int) (a12 : Int) (rc : Int → Int → Int → Option R) (fin : ((Int × Bool) ⊕ Int) → Option R) (a0 : Int) (a1 : Int) (a4 : Int) : Option R :=
  cond (decide (a4 < a3))
  ((lat a2 a4).bind fun e1 =>
    (spec_reGood (a5, (a6, (a7, ((a8, (a9, ())), (a10, (a11, (a12, ()))))))) e1).bind fun y2 =>
    cond (!y2)
    (fin (.inl (0, false)))
    ((spec_reBound (a5, (a6, (a7, ((a8, (a9, ())), (a10, (a11, (a12, ()))))))) e1).bind fun y3 =>
      cond (a4 == 0)
      (rc a4 y3 (IntKind.i64.wrap (a4 + 1)))
      (cond (decide (y3 < a1))
        (rc a4 y3 (IntKind.i64.wrap (a4 + 1)))
        (rc a0 a1 (IntKind.i64.wrap (a4 + 1))))))
  (fin (.inr a0))
def spec_BestMultipliers_l0F (a2 : List (List Int)) (a3 : Int) (a5 : List (List Int)) (a6 : List Int) (a7 : List Int) (a8 : Int) (a9 : Int) (a10 : Int) (a11 : Int) (a12 : Int) (r : (Int × Int × Int) → Option ((Int × Bool) ⊕ Int)) (x : Int × Int × Int) : Option ((Int × Bool) ⊕ Int) := spec_BestMultipliers_l0K a2 a3 a5 a6 a7 a8 a9 a10 a11 a12 (fun a0 a1 a4 => r (a0, (a1, a4))) some x.1 x.2.1 x.2.2
theorem spec_BestMultipliers_l0c (a2 : List (List Int)) (a3 : Int) (a5 : List (List Int)) (a6 : List Int) (a7 : List Int) (a8 : Int) (a9 : Int) (a10 : Int) (a11 : Int) (a12 : Int) (x : Int × Int × Int) : Ct fun r => spec_BestMultipliers_l0F a2 a3 a5 a6 a7 a8 a9 a10 a11 a12 r x := by
  unfold spec_BestMultipliers_l0F spec_BestMultipliers_l0K
  repeat' (first | exact Ct.const | exact Ct.call | refine Ct.cond ?_ ?_ | refine Ct.bind ?_ fun _ => ?_ | refine Ct.sum (fun _ => ?_) fun _ => ?_)
def spec_BestMultipliers_l0 (a2 : List (List Int)) (a3 : Int) (a5 : List (List Int)) (a6 : List Int) (a7 : List Int) (a8 : Int) (a9 : Int) (a10 : Int) (a11 : Int) (a12 : Int) (a0 : Int) (a1 : Int) (a4 : Int) : Option ((Int × Bool) ⊕ Int) := lim (spec_BestMultipliers_l0F a2 a3 a5 a6 a7 a8 a9 a10 a11 a12) (a0, (a1, a4))
theorem spec_BestMultipliers_l0_eq (a2 : List (List Int)) (a3 : Int) (a5 : List (List Int)) (a6 : List Int) (a7 : List Int) (a8 : Int) (a9 : Int) (a10 : Int) (a11 : Int) (a12 : Int) (a0 : Int) (a1 : Int) (a4 : Int) : spec_BestMultipliers_l0 a2 a3 a5 a6 a7 a8 a9 a10 a11 a12 a0 a1 a4 = spec_BestMultipliers_l0K a2 a3 a5 a6 a7 a8 a9 a10 a11 a12 (spec_BestMultipliers_l0 a2 a3 a5 a6 a7 a8 a9 a10 a11 a12) some a0 a1 a4 := lim_eq (spec_BestMultipliers_l0c a2 a3 a5 a6 a7 a8 a9 a10 a11 a12) (a0, (a1, a4))
theorem spec_BestMultipliers_l0p {R : Type} (a2 : List (List Int)) (a3 : Int) (a5 : List (List Int)) (a6 : List Int) (a7 : List Int) (a8 : Int) (a9 : Int) (a10 : Int) (a11 : Int) (a12 : Int) {rc : Int → Int → Int → Option ((Int × Bool) ⊕ Int)} {rc' : Int → Int → Int → Option R} {fin : ((Int × Bool) ⊕ Int) → Option R} (hr : ∀ a0 a1 a4, Par fin (rc a0 a1 a4) (rc' a0 a1 a4)) (a0 : Int) (a1 : Int) (a4 : Int) : Par fin (spec_BestMultipliers_l0K a2 a3 a5 a6 a7 a8 a9 a10 a11 a12 rc some a0 a1 a4) (spec_BestMultipliers_l0K a2 a3 a5 a6 a7 a8 a9 a10 a11 a12 rc' fin a0 a1 a4) := by
  unfold spec_BestMultipliers_l0K
  repeat' (first | exact .fin | exact .none | exact hr _ _ _ | refine .cond ?_ ?_ | refine .bind fun _ => ?_ | refine .sum (fun _ => ?_) fun _ => ?_)
def Lspec_BestMultipliers_l0 : Loop := mkL ⟨[2, 6, 7, 20, 21, 22], [.slot 2], [], []⟩ sspec_BestMultipliers_l0 xspec_BestMultipliers_l0 (fun (x : (Unit × Int × Int × (List (List Int)) × Int × Int × Unit) × (((List (List Int)) × (List Int) × (List Int) × Int × Int × Int × Int × Int × Unit) × Unit)) => (x.1.2.2.2.1, (x.1.2.2.2.2.1, (x.2.1.1, (x.2.1.2.1, (x.2.1.2.2.1, (x.2.1.2.2.2.1, (x.2.1.2.2.2.2.1, (x.2.1.2.2.2.2.2.1, (x.2.1.2.2.2.2.2.2.1, x.2.1.2.2.2.2.2.2.2.1)))))))))) fun (x : (Unit × Int × Int × (List (List Int)) × Int × Int × Unit) × (((List (List Int)) × (List Int) × (List Int) × Int × Int × Int × Int × Int × Unit) × Unit)) => spec_BestMultipliers_l0 x.1.2.2.2.1 x.1.2.2.2.2.1 x.2.1.1 x.2.1.2.1 x.2.1.2.2.1 x.2.1.2.2.2.1 x.2.1.2.2.2.2.1 x.2.1.2.2.2.2.2.1 x.2.1.2.2.2.2.2.2.1 x.2.1.2.2.2.2.2.2.2.1 x.1.2.1 x.1.2.2.1 x.1.2.2.2.2.2.1
def spec_BestMultipliersK {R : Type} (fin : Int × Bool → Option R) (x0 : DJob) (x1 : List (List Int)) : Option R :=
  (spec_plJob x0).bind fun y1 =>
  cond (!y1)
  (fin (0, false))
  ((spec_l1In (x1.length : Int) 1 12).bind fun y2 =>
    cond (!y2)
    (fin (0, false))
    ((spec_BestMultipliers_l0 x1 (x1.length : Int) x0.1 x0.2.1 x0.2.2.1 x0.2.2.2.1.1 x0.2.2.2.1.2.1 x0.2.2.2.2.1 x0.2.2.2.2.2.1 x0.2.2.2.2.2.2.1 0 0 0).bind fun y6 =>
      sumO y6 (fun y7 =>
      fin y7)
      (fun y8 =>
      fin (y8, true))))
def spec_BestMultipliers (x0 : DJob) (x1 : List (List Int)) : Option (Int × Bool) := spec_BestMultipliersK some x0 x1
theorem p32 {R : Type} (fin : Int × Bool → Option R) (x0 : DJob) (x1 : List (List Int)) : Par fin (spec_BestMultipliersK some x0 x1) (spec_BestMultipliersK fin x0 x1) := by
  unfold spec_BestMultipliersK
  repeat' (first | exact .fin | exact .none | refine .cond ?_ ?_ | refine .bind fun _ => ?_ | refine .sum (fun _ => ?_) fun _ => ?_)
def or32 : Ora := { lo := addL 5 (Lspec_BestMultipliers_l0) lo0, fin := [] }
theorem spec_BestMultipliers_l0e (a2 : List (List Int)) (a3 : Int) (a5 : List (List Int)) (a6 : List Int) (a7 : List Int) (a8 : Int) (a9 : Int) (a10 : Int) (a11 : Int) (a12 : Int) (k : Nat) (a0 : Int) (a1 : Int) (a4 : Int) : loopC Try.prog EL32 or32 ((loopsIn (codeOf Try.f32)).getD 0 .skip) (Lspec_BestMultipliers_l0).h (Lspec_BestMultipliers_l0).ho Try.f32.ntmps (k + 1) (sspec_BestMultipliers_l0.out (((), (a0, (a1, (a2, (a3, (a4, ())))))), ((a5, (a6, (a7, (a8, (a9, (a10, (a11, (a12, ())))))))), ()))) =
    spec_BestMultipliers_l0K a2 a3 a5 a6 a7 a8 a9 a10 a11 a12 (fun a0 a1 a4 => loopC Try.prog EL32 or32 ((loopsIn (codeOf Try.f32)).getD 0 .skip) (Lspec_BestMultipliers_l0).h (Lspec_BestMultipliers_l0).ho Try.f32.ntmps k (sspec_BestMultipliers_l0.out (((), (a0, (a1, (a2, (a3, (a4, ())))))), ((a5, (a6, (a7, (a8, (a9, (a10, (a11, (a12, ())))))))), ())))) (fun y => some (XS.out xspec_BestMultipliers_l0 (a2, (a3, (a5, (a6, (a7, (a8, (a9, (a10, (a11, a12))))))))) y)) a0 a1 a4 := by kernel_rfl
theorem spec_BestMultipliers_l0o : LoopOk Try.prog EL32 or32 Try.f32.ntmps ((loopsIn (codeOf Try.f32)).getD 0 .skip) (Lspec_BestMultipliers_l0) :=
  loop_lim (hs := sspec_BestMultipliers_l0) (xs := xspec_BestMultipliers_l0) (ι := fun (x : (Unit × Int × Int × (List (List Int)) × Int × Int × Unit) × (((List (List Int)) × (List Int) × (List Int) × Int × Int × Int × Int × Int × Unit) × Unit)) => (x.1.2.2.2.1, (x.1.2.2.2.2.1, (x.2.1.1, (x.2.1.2.1, (x.2.1.2.2.1, (x.2.1.2.2.2.1, (x.2.1.2.2.2.2.1, (x.2.1.2.2.2.2.2.1, (x.2.1.2.2.2.2.2.2.1, x.2.1.2.2.2.2.2.2.2.1)))))))))) (φ := fun (x : (Unit × Int × Int × (List (List Int)) × Int × Int × Unit) × (((List (List Int)) × (List Int) × (List Int) × Int × Int × Int × Int × Int × Unit) × Unit)) => (x.1.2.1, (x.1.2.2.1, x.1.2.2.2.2.2.1))) (ψ := fun (i : (List (List Int)) × Int × (List (List Int)) × (List Int) × (List Int) × Int × Int × Int × Int × Int) (v : Int × Int × Int) => (((), (v.1, (v.2.1, (i.1, (i.2.1, (v.2.2, ())))))), ((i.2.2.1, (i.2.2.2.1, (i.2.2.2.2.1, (i.2.2.2.2.2.1, (i.2.2.2.2.2.2.1, (i.2.2.2.2.2.2.2.1, (i.2.2.2.2.2.2.2.2.1, (i.2.2.2.2.2.2.2.2.2, ())))))))), ()))) (F := fun (i : (List (List Int)) × Int × (List (List Int)) × (List Int) × (List Int) × Int × Int × Int × Int × Int) => spec_BestMultipliers_l0F i.1 i.2.1 i.2.2.1 i.2.2.2.1 i.2.2.2.2.1 i.2.2.2.2.2.1 i.2.2.2.2.2.2.1 i.2.2.2.2.2.2.2.1 i.2.2.2.2.2.2.2.2.1 i.2.2.2.2.2.2.2.2.2) (fun _ => rfl) fun i k hk v => Par.of_eq (spec_BestMultipliers_l0e i.1 i.2.1 i.2.2.1 i.2.2.2.1 i.2.2.2.2.1 i.2.2.2.2.2.1 i.2.2.2.2.2.2.1 i.2.2.2.2.2.2.2.1 i.2.2.2.2.2.2.2.2.1 i.2.2.2.2.2.2.2.2.2 k v.1 v.2.1 v.2.2) (spec_BestMultipliers_l0p i.1 i.2.1 i.2.2.1 i.2.2.2.1 i.2.2.2.2.1 i.2.2.2.2.2.1 i.2.2.2.2.2.2.1 i.2.2.2.2.2.2.2.1 i.2.2.2.2.2.2.2.2.1 i.2.2.2.2.2.2.2.2.2 (fun a0 a1 a4 => hk (a0, (a1, a4))) v.1 v.2.1 v.2.2)
def c32 : Callee := mkC [.agg [.ro TJob], .one (.ro (.slice (.slice (.int .i64))))] 2 [.one (.ro (.int .i64)), .one (.ro .bool)] fun x => spec_BestMultipliers x.1 x.2
theorem e32 (x : PK.dens [.agg [.ro TJob], .one (.ro (.slice (.slice (.int .i64))))]) : evalFn Try.prog EL32 or32 Try.f32 (PK.outs [.agg [.ro TJob], .one (.ro (.slice (.slice (.int .i64))))] x) =
    spec_BestMultipliersK (fun y => some (tupOf ((PK.outs [.one (.ro (.int .i64)), .one (.ro .bool)] y).take 2), (PK.outs [.one (.ro (.int .i64)), .one (.ro .bool)] y).drop 2)) x.1 x.2 := by kernel_rfl
theorem o32 : LoOk Try.prog EL32 or32 Try.f32.ntmps (loopsIn (codeOf Try.f32)) :=
  LoOk.mk (m := 1) (by kernel_rfl) fun i hi => match i, hi with
    | 0, _ => ⟨Lspec_BestMultipliers_l0, by kernel_rfl, spec_BestMultipliers_l0o⟩
    | i + 1, hi => absurd hi (by omega)
theorem k32 : CalleeOk Try.prog 32 c32 := callee_mk Try.func32 (code := codeOf Try.f32) (by kernel_rfl) vL32 mixed o32 fun x y h => (e32 x).trans (p32 _ x.1 x.2 y h)

/-- impl.BestMultipliers -/
def EL34 : Nat → Option Callee := addE 62 c62 (addE 59 c59 (addE 58 c58 (addE 52 c52 env0)))
theorem vL34 : EnvOk Try.prog EL34 := (((EnvOk.nil.add Try.func52 rfl (by kernel_rfl) k52).add Try.func58 rfl (by kernel_rfl) k58).add Try.func59 rfl (by kernel_rfl) k59).add Try.func62 rfl (by kernel_rfl) k62
def simpl_BestMultipliers_l0 : LS := ⟨[(1, .one (.dat (.slice (.slice (.int .i64))))), (2, .one (.fix (.ptr 0 0))), (26, .one (.dat (.slice (.slice (.int .i64))))), (27, .one (.dat (.int .i64))), (28, .one (.dat (.int .i64)))], [.box [.dat (.slice (.slice (.int .i64))), .dat (.slice (.int .i64)), .dat (.slice (.int .i64)), .dat (.int .i64), .dat (.int .i64), .dat (.int .i64), .dat (.int .i64), .dat (.int .i64)]], []⟩
def simpl_BestMultipliers_l0x0 : LS := ⟨[(4, .one (.dat (.int .i64))), (5, .one (.dat .bool))], [], []⟩
def simpl_BestMultipliers_l0x1 : LS := ⟨[(1, .one (.dat (.slice (.slice (.int .i64))))), (2, .one (.fix (.ptr 0 0)))], [.box [.dat (.slice (.slice (.int .i64))), .dat (.slice (.int .i64)), .dat (.slice (.int .i64)), .dat (.int .i64), .dat (.int .i64), .dat (.int .i64), .dat (.int .i64), .dat (.int .i64)]], []⟩
def ximpl_BestMultipliers_l0 : List (XS ((List (List Int)) × (List (List Int)) × Int × (List (List Int)) × (List Int) × (List Int) × Int × Int × Int × Int × Int)) := [⟨.ret, ⟨[4, 5], [], [], []⟩, simpl_BestMultipliers_l0x0, Int × Bool, fun i y => ((y.1, (y.2, ())), ())⟩,
  ⟨.exit 0, ⟨[1, 2], [.slot 2], [], []⟩, simpl_BestMultipliers_l0x1, Unit, fun i y => ((i.1, ((), ())), ((i.2.2.2.1, (i.2.2.2.2.1, (i.2.2.2.2.2.1, (i.2.2.2.2.2.2.1, (i.2.2.2.2.2.2.2.1, (i.2.2.2.2.2.2.2.2.1, (i.2.2.2.2.2.2.2.2.2.1, (i.2.2.2.2.2.2.2.2.2.2, ())))))))), ()))⟩]
def impl_BestMultipliers_l0K {R : Type} (a1 : List (List Int)) (a2 : Int) (a4 : List (List Int)) (a5 : List Int) (a6 : List Int) (a7 : Int) (a8 : Int) (a9 : Int) (a10 : Int) (a11 : Int) (rc : Int → Option R) (fin : ((Int × Bool) ⊕ Unit) → Option R) (a3 : Int) : Option R :=
  cond (decide (a3 < a2))
  ((lat a1 a3).bind fun e1 =>
    (impl_areMultipliers (a4, (a5, (a6, ((a7, (a8, ())), (a9, (a10, (a11, ()))))))) e1).bind fun y2 =>
    cond (!y2)
    (fin (.inl (0, false)))
    (rc (IntKind.i64.wrap (a3 + 1))))
  (fin (.inr ()))
def impl_BestMultipliers_l0F (a1 : List (List Int)) (a2 : Int) (a4 : List (List Int)) (a5 : List Int) (a6 : List Int) (a7 : Int) (a8 : Int) (a9 : Int) (a10 : Int) (a11 : Int) (r : Int → Option ((Int × Bool) ⊕ Unit)) (x : Int) : Option ((Int × Bool) ⊕ Unit) := impl_BestMultipliers_l0K a1 a2 a4 a5 a6 a7 a8 a9 a10 a11 (fun a3 => r a3) some x
theorem impl_BestMultipliers_l0c (a1 : List (List Int)) (a2 : Int) (a4 : List (List Int)) (a5 : List Int) (a6 : List Int) (a7 : Int) (a8 : Int) (a9 : Int) (a10 : Int) (a11 : Int) (x : Int) : Ct fun r => impl_BestMultipliers_l0F a1 a2 a4 a5 a6 a7 a8 a9 a10 a11 r x := by
  unfold impl_BestMultipliers_l0F impl_BestMultipliers_l0K
  repeat' (first | exact Ct.const | exact Ct.call | refine Ct.cond ?_ ?_ | refine Ct.bind ?_ fun _ => ?_ | refine Ct.sum (fun _ => ?_) fun _ => ?_)
def impl_BestMultipliers_l0 (a1 : List (List Int)) (a2 : Int) (a4 : List (List Int)) (a5 : List Int) (a6 : List Int) (a7 : Int) (a8 : Int) (a9 : Int) (a10 : Int) (a11 : Int) (a3 : Int) : Option ((Int × Bool) ⊕ Unit) := lim (impl_BestMultipliers_l0F a1 a2 a4 a5 a6 a7 a8 a9 a10 a11) a3
theorem impl_BestMultipliers_l0_eq (a1 : List (List Int)) (a2 : Int) (a4 : List (List Int)) (a5 : List Int) (a6 : List Int) (a7 : Int) (a8 : Int) (a9 : Int) (a10 : Int) (a11 : Int) (a3 : Int) : impl_BestMultipliers_l0 a1 a2 a4 a5 a6 a7 a8 a9 a10 a11 a3 = impl_BestMultipliers_l0K a1 a2 a4 a5 a6 a7 a8 a9 a10 a11 (impl_BestMultipliers_l0 a1 a2 a4 a5 a6 a7 a8 a9 a10 a11) some a3 := lim_eq (impl_BestMultipliers_l0c a1 a2 a4 a5 a6 a7 a8 a9 a10 a11) a3
theorem impl_BestMultipliers_l0p {R : Type} (a1 : List (List Int)) (a2 : Int) (a4 : List (List Int)) (a5 : List Int) (a6 : List Int) (a7 : Int) (a8 : Int) (a9 : Int) (a10 : Int) (a11 : Int) {rc : Int → Option ((Int × Bool) ⊕ Unit)} {rc' : Int → Option R} {fin : ((Int × Bool) ⊕ Unit) → Option R} (hr : ∀ a3, Par fin (rc a3) (rc' a3)) (a3 : Int) : Par fin (impl_BestMultipliers_l0K a1 a2 a4 a5 a6 a7 a8 a9 a10 a11 rc some a3) (impl_BestMultipliers_l0K a1 a2 a4 a5 a6 a7 a8 a9 a10 a11 rc' fin a3) := by
  unfold impl_BestMultipliers_l0K
  repeat' (first | exact .fin | exact .none | exact hr _ | refine .cond ?_ ?_ | refine .bind fun _ => ?_ | refine .sum (fun _ => ?_) fun _ => ?_)
def Limpl_BestMultipliers_l0 : Loop := mkL ⟨[1, 2, 26, 27, 28], [.slot 2], [], []⟩ simpl_BestMultipliers_l0 ximpl_BestMultipliers_l0 (fun (x : ((List (List Int)) × Unit × (List (List Int)) × Int × Int × Unit) × (((List (List Int)) × (List Int) × (List Int) × Int × Int × Int × Int × Int × Unit) × Unit)) => (x.1.1, (x.1.2.2.1, (x.1.2.2.2.1, (x.2.1.1, (x.2.1.2.1, (x.2.1.2.2.1, (x.2.1.2.2.2.1, (x.2.1.2.2.2.2.1, (x.2.1.2.2.2.2.2.1, (x.2.1.2.2.2.2.2.2.1, x.2.1.2.2.2.2.2.2.2.1))))))))))) fun (x : ((List (List Int)) × Unit × (List (List Int)) × Int × Int × Unit) × (((List (List Int)) × (List Int) × (List Int) × Int × Int × Int × Int × Int × Unit) × Unit)) => impl_BestMultipliers_l0 x.1.2.2.1 x.1.2.2.2.1 x.2.1.1 x.2.1.2.1 x.2.1.2.2.1 x.2.1.2.2.2.1 x.2.1.2.2.2.2.1 x.2.1.2.2.2.2.2.1 x.2.1.2.2.2.2.2.2.1 x.2.1.2.2.2.2.2.2.2.1 x.1.2.2.2.2.1
def simpl_BestMultipliers_l1 : LS := ⟨[(2, .one (.fix (.ptr 0 0))), (8, .one (.dat (.int .i64))), (9, .one (.dat (.int .i64))), (37, .one (.dat (.slice (.slice (.int .i64))))), (38, .one (.dat (.int .i64))), (39, .one (.dat (.int .i64)))], [.box [.dat (.slice (.slice (.int .i64))), .dat (.slice (.int .i64)), .dat (.slice (.int .i64)), .dat (.int .i64), .dat (.int .i64), .dat (.int .i64), .dat (.int .i64), .dat (.int .i64)]], []⟩
def simpl_BestMultipliers_l1x0 : LS := ⟨[(8, .one (.dat (.int .i64)))], [], []⟩
def ximpl_BestMultipliers_l1 : List (XS ((List (List Int)) × Int × (List (List Int)) × (List Int) × (List Int) × Int × Int × Int × Int × Int)) := [⟨.exit 2, ⟨[8], [], [], []⟩, simpl_BestMultipliers_l1x0, Int, fun i y => ((y, ()), ())⟩]
def impl_BestMultipliers_l1K {R : Type} (a2 : List (List Int)) (a3 : Int) (a5 : List (List Int)) (a6 : List Int) (a7 : List Int) (a8 : Int) (a9 : Int) (a10 : Int) (a11 : Int) (a12 : Int) (rc : Int → Int → Int → Option R) (fin : Int → Option R) (a0 : Int) (a1 : Int) (a4 : Int) : Option R :=
  cond (decide (a4 < a3))
  ((lat a2 a4).bind fun e1 =>
    (impl_relaxedPlan (a5, (a6, (a7, ((a8, (a9, ())), (a10, (a11, (a12, ()))))))) e1).bind fun y2 =>
    (impl_paidWorth (a5, (a6, (a7, ((a8, (a9, ())), (a10, (a11, (a12, ()))))))) e1 (y2.1, (y2.2, ()))).bind fun y3 =>
    cond (a4 == 0)
    (rc a4 y3 (IntKind.i64.wrap (a4 + 1)))
    (cond (decide (y3 < a1))
      (rc a4 y3 (IntKind.i64.wrap (a4 + 1)))
      (rc a0 a1 (IntKind.i64.wrap (a4 + 1)))))
  (fin a0)
def impl_BestMultipliers_l1F (a2 : List (List Int)) (a3 : Int) (a5 : List (List Int)) (a6 : List Int) (a7 : List Int) (a8 : Int) (a9 : Int) (a10 : Int) (a11 : Int) (a12 : Int) (r : (Int × Int × Int) → Option (Int)) (x : Int × Int × Int) : Option (Int) := impl_BestMultipliers_l1K a2 a3 a5 a6 a7 a8 a9 a10 a11 a12 (fun a0 a1 a4 => r (a0, (a1, a4))) some x.1 x.2.1 x.2.2
theorem impl_BestMultipliers_l1c (a2 : List (List Int)) (a3 : Int) (a5 : List (List Int)) (a6 : List Int) (a7 : List Int) (a8 : Int) (a9 : Int) (a10 : Int) (a11 : Int) (a12 : Int) (x : Int × Int × Int) : Ct fun r => impl_BestMultipliers_l1F a2 a3 a5 a6 a7 a8 a9 a10 a11 a12 r x := by
  unfold impl_BestMultipliers_l1F impl_BestMultipliers_l1K
  repeat' (first | exact Ct.const | exact Ct.call | refine Ct.cond ?_ ?_ | refine Ct.bind ?_ fun _ => ?_ | refine Ct.sum (fun _ => ?_) fun _ => ?_)
def impl_BestMultipliers_l1 (a2 : List (List Int)) (a3 : Int) (a5 : List (List Int)) (a6 : List Int) (a7 : List Int) (a8 : Int) (a9 : Int) (a10 : Int) (a11 : Int) (a12 : Int) (a0 : Int) (a1 : Int) (a4 : Int) : Option (Int) := lim (impl_BestMultipliers_l1F a2 a3 a5 a6 a7 a8 a9 a10 a11 a12) (a0, (a1, a4))
theorem impl_BestMultipliers_l1_eq (a2 : List (List Int)) (a3 : Int) (a5 : List (List Int)) (a6 : List Int) (a7 : List Int) (a8 : Int) (a9 : Int) (a10 : Int) (a11 : Int) (a12 : Int) (a0 : Int) (a1 : Int) (a4 : Int) : impl_BestMultipliers_l1 a2 a3 a5 a6 a7 a8 a9 a10 a11 a12 a0 a1 a4 = impl_BestMultipliers_l1K a2 a3 a5 a6 a7 a8 a9 a10 a11 a12 (impl_BestMultipliers_l1 a2 a3 a5 a6 a7 a8 a9 a10 a11 a12) some a0 a1 a4 := lim_eq (impl_BestMultipliers_l1c a2 a3 a5 a6 a7 a8 a9 a10 a11 a12) (a0, (a1, a4))
theorem impl_BestMultipliers_l1p {R : Type} (a2 : List (List Int)) (a3 : Int) (a5 : List (List Int)) (a6 : List Int) (a7 : List Int) (a8 : Int) (a9 : Int) (a10 : Int) (a11 : Int) (a12 : Int) {rc : Int → Int → Int → Option (Int)} {rc' : Int → Int → Int → Option R} {fin : Int → Option R} (hr : ∀ a0 a1 a4, Par fin (rc a0 a1 a4) (rc' a0 a1 a4)) (a0 : Int) (a1 : Int) (a4 : Int) : Par fin (impl_BestMultipliers_l1K a2 a3 a5 a6 a7 a8 a9 a10 a11 a12 rc some a0 a1 a4) (impl_BestMultipliers_l1K a2 a3 a5 a6 a7 a8 a9 a10 a11 a12 rc' fin a0 a1 a4) := by
  unfold impl_BestMultipliers_l1K
  repeat' (first | exact .fin | exact .none | exact hr _ _ _ | refine .cond ?_ ?_ | refine .bind fun _ => ?_ | refine .sum (fun _ => ?_) fun _ => ?_)
def Limpl_BestMultipliers_l1 : Loop := mkL ⟨[2, 8, 9, 37, 38, 39], [.slot 2], [], []⟩ simpl_BestMultipliers_l1 ximpl_BestMultipliers_l1 (fun (x : (Unit × Int × Int × (List (List Int)) × Int × Int × Unit) × (((List (List Int)) × (List Int) × (List Int) × Int × Int × Int × Int × Int × Unit) × Unit)) => (x.1.2.2.2.1, (x.1.2.2.2.2.1, (x.2.1.1, (x.2.1.2.1, (x.2.1.2.2.1, (x.2.1.2.2.2.1, (x.2.1.2.2.2.2.1, (x.2.1.2.2.2.2.2.1, (x.2.1.2.2.2.2.2.2.1, x.2.1.2.2.2.2.2.2.2.1)))))))))) fun (x : (Unit × Int × Int × (List (List Int)) × Int × Int × Unit) × (((List (List Int)) × (List Int) × (List Int) × Int × Int × Int × Int × Int × Unit) × Unit)) => impl_BestMultipliers_l1 x.1.2.2.2.1 x.1.2.2.2.2.1 x.2.1.1 x.2.1.2.1 x.2.1.2.2.1 x.2.1.2.2.2.1 x.2.1.2.2.2.2.1 x.2.1.2.2.2.2.2.1 x.2.1.2.2.2.2.2.2.1 x.2.1.2.2.2.2.2.2.2.1 x.1.2.1 x.1.2.2.1 x.1.2.2.2.2.2.1
def impl_BestMultipliersK {R : Type} (fin : Int × Bool → Option R) (x0 : DJob) (x1 : List (List Int)) : Option R :=
  (impl_IsJob x0).bind fun y1 =>
  cond (!y1)
  (fin (0, false))
  (cond (decide ((x1.length : Int) < 1))
    (fin (0, false))
    (cond (decide ((x1.length : Int) > 12))
      (fin (0, false))
      ((impl_BestMultipliers_l0 x1 (x1.length : Int) x0.1 x0.2.1 x0.2.2.1 x0.2.2.2.1.1 x0.2.2.2.1.2.1 x0.2.2.2.2.1 x0.2.2.2.2.2.1 x0.2.2.2.2.2.2.1 0).bind fun y4 =>
        sumO y4 (fun y5 =>
        fin y5)
        (fun y6 =>
        (impl_BestMultipliers_l1 x1 (x1.length : Int) x0.1 x0.2.1 x0.2.2.1 x0.2.2.2.1.1 x0.2.2.2.1.2.1 x0.2.2.2.2.1 x0.2.2.2.2.2.1 x0.2.2.2.2.2.2.1 0 0 0).bind fun y10 =>
          fin (y10, true)))))
def impl_BestMultipliers (x0 : DJob) (x1 : List (List Int)) : Option (Int × Bool) := impl_BestMultipliersK some x0 x1
theorem p34 {R : Type} (fin : Int × Bool → Option R) (x0 : DJob) (x1 : List (List Int)) : Par fin (impl_BestMultipliersK some x0 x1) (impl_BestMultipliersK fin x0 x1) := by
  unfold impl_BestMultipliersK
  repeat' (first | exact .fin | exact .none | refine .cond ?_ ?_ | refine .bind fun _ => ?_ | refine .sum (fun _ => ?_) fun _ => ?_)
def or34 : Ora := { lo := addL 11 (Limpl_BestMultipliers_l1) (addL 4 (Limpl_BestMultipliers_l0) lo0), fin := [] }
theorem impl_BestMultipliers_l0e (a0 : List (List Int)) (a1 : List (List Int)) (a2 : Int) (a4 : List (List Int)) (a5 : List Int) (a6 : List Int) (a7 : Int) (a8 : Int) (a9 : Int) (a10 : Int) (a11 : Int) (k : Nat) (a3 : Int) : loopC Try.prog EL34 or34 ((loopsIn (codeOf Try.f34)).getD 0 .skip) (Limpl_BestMultipliers_l0).h (Limpl_BestMultipliers_l0).ho Try.f34.ntmps (k + 1) (simpl_BestMultipliers_l0.out ((a0, ((), (a1, (a2, (a3, ()))))), ((a4, (a5, (a6, (a7, (a8, (a9, (a10, (a11, ())))))))), ()))) =
    impl_BestMultipliers_l0K a1 a2 a4 a5 a6 a7 a8 a9 a10 a11 (fun a3 => loopC Try.prog EL34 or34 ((loopsIn (codeOf Try.f34)).getD 0 .skip) (Limpl_BestMultipliers_l0).h (Limpl_BestMultipliers_l0).ho Try.f34.ntmps k (simpl_BestMultipliers_l0.out ((a0, ((), (a1, (a2, (a3, ()))))), ((a4, (a5, (a6, (a7, (a8, (a9, (a10, (a11, ())))))))), ())))) (fun y => some (XS.out ximpl_BestMultipliers_l0 (a0, (a1, (a2, (a4, (a5, (a6, (a7, (a8, (a9, (a10, a11)))))))))) y)) a3 := by kernel_rfl
theorem impl_BestMultipliers_l0o : LoopOk Try.prog EL34 or34 Try.f34.ntmps ((loopsIn (codeOf Try.f34)).getD 0 .skip) (Limpl_BestMultipliers_l0) :=
  loop_lim (hs := simpl_BestMultipliers_l0) (xs := ximpl_BestMultipliers_l0) (ι := fun (x : ((List (List Int)) × Unit × (List (List Int)) × Int × Int × Unit) × (((List (List Int)) × (List Int) × (List Int) × Int × Int × Int × Int × Int × Unit) × Unit)) => (x.1.1, (x.1.2.2.1, (x.1.2.2.2.1, (x.2.1.1, (x.2.1.2.1, (x.2.1.2.2.1, (x.2.1.2.2.2.1, (x.2.1.2.2.2.2.1, (x.2.1.2.2.2.2.2.1, (x.2.1.2.2.2.2.2.2.1, x.2.1.2.2.2.2.2.2.2.1))))))))))) (φ := fun (x : ((List (List Int)) × Unit × (List (List Int)) × Int × Int × Unit) × (((List (List Int)) × (List Int) × (List Int) × Int × Int × Int × Int × Int × Unit) × Unit)) => x.1.2.2.2.2.1) (ψ := fun (i : (List (List Int)) × (List (List Int)) × Int × (List (List Int)) × (List Int) × (List Int) × Int × Int × Int × Int × Int) (v : Int) => ((i.1, ((), (i.2.1, (i.2.2.1, (v, ()))))), ((i.2.2.2.1, (i.2.2.2.2.1, (i.2.2.2.2.2.1, (i.2.2.2.2.2.2.1, (i.2.2.2.2.2.2.2.1, (i.2.2.2.2.2.2.2.2.1, (i.2.2.2.2.2.2.2.2.2.1, (i.2.2.2.2.2.2.2.2.2.2, ())))))))), ()))) (F := fun (i : (List (List Int)) × (List (List Int)) × Int × (List (List Int)) × (List Int) × (List Int) × Int × Int × Int × Int × Int) => impl_BestMultipliers_l0F i.2.1 i.2.2.1 i.2.2.2.1 i.2.2.2.2.1 i.2.2.2.2.2.1 i.2.2.2.2.2.2.1 i.2.2.2.2.2.2.2.1 i.2.2.2.2.2.2.2.2.1 i.2.2.2.2.2.2.2.2.2.1 i.2.2.2.2.2.2.2.2.2.2) (fun _ => rfl) fun i k hk v => Par.of_eq (impl_BestMultipliers_l0e i.1 i.2.1 i.2.2.1 i.2.2.2.1 i.2.2.2.2.1 i.2.2.2.2.2.1 i.2.2.2.2.2.2.1 i.2.2.2.2.2.2.2.1 i.2.2.2.2.2.2.2.2.1 i.2.2.2.2.2.2.2.2.2.1 i.2.2.2.2.2.2.2.2.2.2 k v) (impl_BestMultipliers_l0p i.2.1 i.2.2.1 i.2.2.2.1 i.2.2.2.2.1 i.2.2.2.2.2.1 i.2.2.2.2.2.2.1 i.2.2.2.2.2.2.2.1 i.2.2.2.2.2.2.2.2.1 i.2.2.2.2.2.2.2.2.2.1 i.2.2.2.2.2.2.2.2.2.2 (fun a3 => hk a3) v)
theorem impl_BestMultipliers_l1e (a2 : List (List Int)) (a3 : Int) (a5 : List (List Int)) (a6 : List Int) (a7 : List Int) (a8 : Int) (a9 : Int) (a10 : Int) (a11 : Int) (a12 : Int) (k : Nat) (a0 : Int) (a1 : Int) (a4 : Int) : loopC Try.prog EL34 or34 ((loopsIn (codeOf Try.f34)).getD 1 .skip) (Limpl_BestMultipliers_l1).h (Limpl_BestMultipliers_l1).ho Try.f34.ntmps (k + 1) (simpl_BestMultipliers_l1.out (((), (a0, (a1, (a2, (a3, (a4, ())))))), ((a5, (a6, (a7, (a8, (a9, (a10, (a11, (a12, ())))))))), ()))) =
    impl_BestMultipliers_l1K a2 a3 a5 a6 a7 a8 a9 a10 a11 a12 (fun a0 a1 a4 => loopC Try.prog EL34 or34 ((loopsIn (codeOf Try.f34)).getD 1 .skip) (Limpl_BestMultipliers_l1).h (Limpl_BestMultipliers_l1).ho Try.f34.ntmps k (simpl_BestMultipliers_l1.out (((), (a0, (a1, (a2, (a3, (a4, ())))))), ((a5, (a6, (a7, (a8, (a9, (a10, (a11, (a12, ())))))))), ())))) (fun y => some (XS.out ximpl_BestMultipliers_l1 (a2, (a3, (a5, (a6, (a7, (a8, (a9, (a10, (a11, a12))))))))) y)) a0 a1 a4 := by kernel_rfl
theorem impl_BestMultipliers_l1o : LoopOk Try.prog EL34 or34 Try.f34.ntmps ((loopsIn (codeOf Try.f34)).getD 1 .skip) (Limpl_BestMultipliers_l1) :=
  loop_lim (hs := simpl_BestMultipliers_l1) (xs := ximpl_BestMultipliers_l1) (ι := fun (x : (Unit × Int × Int × (List (List Int)) × Int × Int × Unit) × (((List (List Int)) × (List Int) × (List Int) × Int × Int × Int × Int × Int × Unit) × Unit)) => (x.1.2.2.2.1, (x.1.2.2.2.2.1, (x.2.1.1, (x.2.1.2.1, (x.2.1.2.2.1, (x.2.1.2.2.2.1, (x.2.1.2.2.2.2.1, (x.2.1.2.2.2.2.2.1, (x.2.1.2.2.2.2.2.2.1, x.2.1.2.2.2.2.2.2.2.1)))))))))) (φ := fun (x : (Unit × Int × Int × (List (List Int)) × Int × Int × Unit) × (((List (List Int)) × (List Int) × (List Int) × Int × Int × Int × Int × Int × Unit) × Unit)) => (x.1.2.1, (x.1.2.2.1, x.1.2.2.2.2.2.1))) (ψ := fun (i : (List (List Int)) × Int × (List (List Int)) × (List Int) × (List Int) × Int × Int × Int × Int × Int) (v : Int × Int × Int) => (((), (v.1, (v.2.1, (i.1, (i.2.1, (v.2.2, ())))))), ((i.2.2.1, (i.2.2.2.1, (i.2.2.2.2.1, (i.2.2.2.2.2.1, (i.2.2.2.2.2.2.1, (i.2.2.2.2.2.2.2.1, (i.2.2.2.2.2.2.2.2.1, (i.2.2.2.2.2.2.2.2.2, ())))))))), ()))) (F := fun (i : (List (List Int)) × Int × (List (List Int)) × (List Int) × (List Int) × Int × Int × Int × Int × Int) => impl_BestMultipliers_l1F i.1 i.2.1 i.2.2.1 i.2.2.2.1 i.2.2.2.2.1 i.2.2.2.2.2.1 i.2.2.2.2.2.2.1 i.2.2.2.2.2.2.2.1 i.2.2.2.2.2.2.2.2.1 i.2.2.2.2.2.2.2.2.2) (fun _ => rfl) fun i k hk v => Par.of_eq (impl_BestMultipliers_l1e i.1 i.2.1 i.2.2.1 i.2.2.2.1 i.2.2.2.2.1 i.2.2.2.2.2.1 i.2.2.2.2.2.2.1 i.2.2.2.2.2.2.2.1 i.2.2.2.2.2.2.2.2.1 i.2.2.2.2.2.2.2.2.2 k v.1 v.2.1 v.2.2) (impl_BestMultipliers_l1p i.1 i.2.1 i.2.2.1 i.2.2.2.1 i.2.2.2.2.1 i.2.2.2.2.2.1 i.2.2.2.2.2.2.1 i.2.2.2.2.2.2.2.1 i.2.2.2.2.2.2.2.2.1 i.2.2.2.2.2.2.2.2.2 (fun a0 a1 a4 => hk (a0, (a1, a4))) v.1 v.2.1 v.2.2)
def c34 : Callee := mkC [.agg [.ro TJob], .one (.ro (.slice (.slice (.int .i64))))] 2 [.one (.ro (.int .i64)), .one (.ro .bool)] fun x => impl_BestMultipliers x.1 x.2
theorem e34 (x : PK.dens [.agg [.ro TJob], .one (.ro (.slice (.slice (.int .i64))))]) : evalFn Try.prog EL34 or34 Try.f34 (PK.outs [.agg [.ro TJob], .one (.ro (.slice (.slice (.int .i64))))] x) =
    impl_BestMultipliersK (fun y => some (tupOf ((PK.outs [.one (.ro (.int .i64)), .one (.ro .bool)] y).take 2), (PK.outs [.one (.ro (.int .i64)), .one (.ro .bool)] y).drop 2)) x.1 x.2 := by kernel_rfl
theorem o34 : LoOk Try.prog EL34 or34 Try.f34.ntmps (loopsIn (codeOf Try.f34)) :=
  LoOk.mk (m := 2) (by kernel_rfl) fun i hi => match i, hi with
    | 0, _ => ⟨Limpl_BestMultipliers_l0, by kernel_rfl, impl_BestMultipliers_l0o⟩
    | 1, _ => ⟨Limpl_BestMultipliers_l1, by kernel_rfl, impl_BestMultipliers_l1o⟩
    | i + 2, hi => absurd hi (by omega)
theorem k34 : CalleeOk Try.prog 34 c34 := callee_mk Try.func34 (code := codeOf Try.f34) (by kernel_rfl) vL34 mixed o34 fun x y h => (e34 x).trans (p34 _ x.1 x.2 y h)

/-- laws.FnExactBestMultipliers -/
def EL7 : Nat → Option Callee := addE 35 c35 (addE 16 c16 (addE 34 c34 (addE 32 c32 (addE 33 c33 (addE 14 c14 (addE 31 c31 (addE 12 c12 env0)))))))
theorem vL7 : EnvOk Try.prog EL7 := (((((((EnvOk.nil.add Try.func12 rfl (by kernel_rfl) k12).add Try.func31 rfl (by kernel_rfl) k31).add Try.func14 rfl (by kernel_rfl) k14).add Try.func33 rfl (by kernel_rfl) k33).add Try.func32 rfl (by kernel_rfl) k32).add Try.func34 rfl (by kernel_rfl) k34).add Try.func16 rfl (by kernel_rfl) k16).add Try.func35 rfl (by kernel_rfl) k35
def laws_FnExactBestMultipliersK {R : Type} (fin : Bool → Option R) (x0 : DJob) (x1 : List (List Int)) : Option R :=
  (laws_szJob x0 1048576).bind fun y1 =>
  cond (decide (y1 < 0))
  (fin true)
  ((laws_szIntSS x1 y1).bind fun y2 =>
    cond (decide (y2 < 0))
    (fin true)
    ((laws_toJob x0).bind fun y3 =>
      (laws_toIntSS x1).bind fun y4 =>
      (spec_BestMultipliers (y3.1, (y3.2.1, (y3.2.2.1, ((y3.2.2.2.1, (y3.2.2.2.2.1, ())), (y3.2.2.2.2.2.1, (y3.2.2.2.2.2.2.1, (y3.2.2.2.2.2.2.2, ()))))))) y4).bind fun y5 =>
      (laws_toJob x0).bind fun y6 =>
      (laws_toIntSS x1).bind fun y7 =>
      (impl_BestMultipliers (y6.1, (y6.2.1, (y6.2.2.1, ((y6.2.2.2.1, (y6.2.2.2.2.1, ())), (y6.2.2.2.2.2.1, (y6.2.2.2.2.2.2.1, (y6.2.2.2.2.2.2.2, ()))))))) y7).bind fun y8 =>
      cond (y8.1 != y5.1)
      (fin false)
      (cond (!(y8.2 == y5.2))
        (fin false)
        ((laws_toJob x0).bind fun y9 =>
          (laws_eqJob (y6.1, (y6.2.1, (y6.2.2.1, ((y6.2.2.2.1, (y6.2.2.2.2.1, ())), (y6.2.2.2.2.2.1, (y6.2.2.2.2.2.2.1, (y6.2.2.2.2.2.2.2, ()))))))) (y9.1, (y9.2.1, (y9.2.2.1, ((y9.2.2.2.1, (y9.2.2.2.2.1, ())), (y9.2.2.2.2.2.1, (y9.2.2.2.2.2.2.1, (y9.2.2.2.2.2.2.2, ())))))))).bind fun y10 =>
          cond (!y10)
          (fin false)
          ((laws_toIntSS x1).bind fun y11 =>
            (laws_eqIntSS y7 y11).bind fun y12 =>
            cond (!y12)
            (fin false)
            (fin true))))))
def laws_FnExactBestMultipliers (x0 : DJob) (x1 : List (List Int)) : Option (Bool) := laws_FnExactBestMultipliersK some x0 x1
theorem p7 {R : Type} (fin : Bool → Option R) (x0 : DJob) (x1 : List (List Int)) : Par fin (laws_FnExactBestMultipliersK some x0 x1) (laws_FnExactBestMultipliersK fin x0 x1) := by
  unfold laws_FnExactBestMultipliersK
  repeat' (first | exact .fin | exact .none | refine .cond ?_ ?_ | refine .bind fun _ => ?_ | refine .sum (fun _ => ?_) fun _ => ?_)
def c7 : Callee := mkC [.agg [.ro TJob], .one (.ro (.slice (.slice (.int .i64))))] 1 [.one (.ro .bool)] fun x => laws_FnExactBestMultipliers x.1 x.2
theorem e7 (x : PK.dens [.agg [.ro TJob], .one (.ro (.slice (.slice (.int .i64))))]) : evalFn Try.prog EL7 or0 Try.f7 (PK.outs [.agg [.ro TJob], .one (.ro (.slice (.slice (.int .i64))))] x) =
    laws_FnExactBestMultipliersK (fun y => some (tupOf ((PK.outs [.one (.ro .bool)] y).take 1), (PK.outs [.one (.ro .bool)] y).drop 1)) x.1 x.2 := by kernel_rfl
theorem k7 : CalleeOk Try.prog 7 c7 := callee_mk Try.func7 (code := codeOf Try.f7) (by kernel_rfl) vL7 mixed (LoOk.nil (by kernel_rfl)) fun x y h => (e7 x).trans (p7 _ x.1 x.2 y h)
end
end Go.OAI
