/- Contracts: GF. -/
import Derived.Test.YtokaffjipngphaaGA
import Derived.Test.YtokaffjipngphaaGT
namespace Go.OAI
open Go.Proofs
set_option linter.unusedVariables false
noncomputable section


/-- impl.keepsOrder -/
def EL104 : Nat → Option Callee := env0
theorem vL104 : EnvOk Try.prog EL104 := EnvOk.nil
def simpl_keepsOrder_l0 : LS := ⟨[(2, .one (.dat (.int .i64))), (4, .one (.fix (.ptr 0 0))), (13, .one (.dat (.slice (.int .i64)))), (14, .one (.dat (.int .i64))), (15, .one (.dat (.int .i64)))], [.box [.dat (.int .i64), .dat (.slice (.int .i64))]], []⟩
def simpl_keepsOrder_l0x0 : LS := ⟨[(6, .one (.dat .bool))], [], []⟩
def simpl_keepsOrder_l0x1 : LS := ⟨[], [], []⟩
def ximpl_keepsOrder_l0 : List (XS (Int × (List Int) × Int × Int × (List Int))) := [⟨.ret, ⟨[6], [], [], []⟩, simpl_keepsOrder_l0x0, Bool, fun i y => ((y, ()), ())⟩,
  ⟨.exit 0, ⟨[], [], [], []⟩, simpl_keepsOrder_l0x1, Unit, fun i y => ((), ())⟩]
def impl_keepsOrder_l0K {R : Type} (a0 : Int) (a1 : List Int) (a2 : Int) (a5 : List Int) (rc : Int → Option R) (fin : (Bool ⊕ Unit) → Option R) (a3 : Int) : Option R :=
  cond (decide (a3 < a2))
  ((lat a1 a3).bind fun e1 =>
    (lat a5 a0).bind fun e2 =>
    cond (decide (e2 ≥ 0))
    ((lat a5 e1).bind fun e3 =>
      cond (decide (e3 < 0))
      (fin (.inl false))
      ((lat a5 e1).bind fun e4 =>
        (lat a5 a0).bind fun e5 =>
        cond (decide (e4 > e5))
        (fin (.inl false))
        (rc (IntKind.i64.wrap (a3 + 1)))))
    (rc (IntKind.i64.wrap (a3 + 1))))
  (fin (.inr ()))
def impl_keepsOrder_l0F (a0 : Int) (a1 : List Int) (a2 : Int) (a5 : List Int) (r : Int → Option (Bool ⊕ Unit)) (x : Int) : Option (Bool ⊕ Unit) := impl_keepsOrder_l0K a0 a1 a2 a5 (fun a3 => r a3) some x
theorem impl_keepsOrder_l0c (a0 : Int) (a1 : List Int) (a2 : Int) (a5 : List Int) (x : Int) : Ct fun r => impl_keepsOrder_l0F a0 a1 a2 a5 r x := by
  unfold impl_keepsOrder_l0F impl_keepsOrder_l0K
  repeat' (first | exact Ct.const | exact Ct.call | refine Ct.cond ?_ ?_ | refine Ct.bind ?_ fun _ => ?_ | refine Ct.sum (fun _ => ?_) fun _ => ?_)
def impl_keepsOrder_l0 (a0 : Int) (a1 : List Int) (a2 : Int) (a5 : List Int) (a3 : Int) : Option (Bool ⊕ Unit) := lim (impl_keepsOrder_l0F a0 a1 a2 a5) a3
theorem impl_keepsOrder_l0_eq (a0 : Int) (a1 : List Int) (a2 : Int) (a5 : List Int) (a3 : Int) : impl_keepsOrder_l0 a0 a1 a2 a5 a3 = impl_keepsOrder_l0K a0 a1 a2 a5 (impl_keepsOrder_l0 a0 a1 a2 a5) some a3 := lim_eq (impl_keepsOrder_l0c a0 a1 a2 a5) a3
theorem impl_keepsOrder_l0p {R : Type} (a0 : Int) (a1 : List Int) (a2 : Int) (a5 : List Int) {rc : Int → Option (Bool ⊕ Unit)} {rc' : Int → Option R} {fin : (Bool ⊕ Unit) → Option R} (hr : ∀ a3, Par fin (rc a3) (rc' a3)) (a3 : Int) : Par fin (impl_keepsOrder_l0K a0 a1 a2 a5 rc some a3) (impl_keepsOrder_l0K a0 a1 a2 a5 rc' fin a3) := by
  unfold impl_keepsOrder_l0K
  repeat' (first | exact .fin | exact .none | exact hr _ | refine .cond ?_ ?_ | refine .bind fun _ => ?_ | refine .sum (fun _ => ?_) fun _ => ?_)
def Limpl_keepsOrder_l0 : Loop := mkL ⟨[2, 4, 13, 14, 15], [.slot 4], [], []⟩ simpl_keepsOrder_l0 ximpl_keepsOrder_l0 (fun (x : (Int × Unit × (List Int) × Int × Int × Unit) × ((Int × (List Int) × Unit) × Unit)) => (x.1.1, (x.1.2.2.1, (x.1.2.2.2.1, (x.2.1.1, x.2.1.2.1))))) fun (x : (Int × Unit × (List Int) × Int × Int × Unit) × ((Int × (List Int) × Unit) × Unit)) => impl_keepsOrder_l0 x.1.1 x.1.2.2.1 x.1.2.2.2.1 x.2.1.2.1 x.1.2.2.2.2.1
def impl_keepsOrderK {R : Type} (fin : Bool → Option R) (x0 : DJob) (x1 : DPlan) (x2 : Int) : Option R :=
  (lat x0.1 x2).bind fun e1 =>
  (impl_keepsOrder_l0 x2 e1 (e1.length : Int) x1.2.1 0).bind fun y7 =>
  sumO y7 (fun y8 =>
  fin y8)
  (fun y9 =>
  fin true)
def impl_keepsOrder (x0 : DJob) (x1 : DPlan) (x2 : Int) : Option (Bool) := impl_keepsOrderK some x0 x1 x2
theorem p104 {R : Type} (fin : Bool → Option R) (x0 : DJob) (x1 : DPlan) (x2 : Int) : Par fin (impl_keepsOrderK some x0 x1 x2) (impl_keepsOrderK fin x0 x1 x2) := by
  unfold impl_keepsOrderK
  repeat' (first | exact .fin | exact .none | refine .cond ?_ ?_ | refine .bind fun _ => ?_ | refine .sum (fun _ => ?_) fun _ => ?_)
def or104 : Ora := { lo := addL 2 (Limpl_keepsOrder_l0) lo0, fin := [] }
theorem impl_keepsOrder_l0e (a0 : Int) (a1 : List Int) (a2 : Int) (a4 : Int) (a5 : List Int) (k : Nat) (a3 : Int) : loopC Try.prog EL104 or104 ((loopsIn (codeOf Try.f104)).getD 0 .skip) (Limpl_keepsOrder_l0).h (Limpl_keepsOrder_l0).ho Try.f104.ntmps (k + 1) (simpl_keepsOrder_l0.out ((a0, ((), (a1, (a2, (a3, ()))))), ((a4, (a5, ())), ()))) =
    impl_keepsOrder_l0K a0 a1 a2 a5 (fun a3 => loopC Try.prog EL104 or104 ((loopsIn (codeOf Try.f104)).getD 0 .skip) (Limpl_keepsOrder_l0).h (Limpl_keepsOrder_l0).ho Try.f104.ntmps k (simpl_keepsOrder_l0.out ((a0, ((), (a1, (a2, (a3, ()))))), ((a4, (a5, ())), ())))) (fun y => some (XS.out ximpl_keepsOrder_l0 (a0, (a1, (a2, (a4, a5)))) y)) a3 := by kernel_rfl
theorem impl_keepsOrder_l0o : LoopOk Try.prog EL104 or104 Try.f104.ntmps ((loopsIn (codeOf Try.f104)).getD 0 .skip) (Limpl_keepsOrder_l0) :=
  loop_lim (hs := simpl_keepsOrder_l0) (xs := ximpl_keepsOrder_l0) (ι := fun (x : (Int × Unit × (List Int) × Int × Int × Unit) × ((Int × (List Int) × Unit) × Unit)) => (x.1.1, (x.1.2.2.1, (x.1.2.2.2.1, (x.2.1.1, x.2.1.2.1))))) (φ := fun (x : (Int × Unit × (List Int) × Int × Int × Unit) × ((Int × (List Int) × Unit) × Unit)) => x.1.2.2.2.2.1) (ψ := fun (i : Int × (List Int) × Int × Int × (List Int)) (v : Int) => ((i.1, ((), (i.2.1, (i.2.2.1, (v, ()))))), ((i.2.2.2.1, (i.2.2.2.2, ())), ()))) (F := fun (i : Int × (List Int) × Int × Int × (List Int)) => impl_keepsOrder_l0F i.1 i.2.1 i.2.2.1 i.2.2.2.2) (fun _ => rfl) fun i k hk v => Par.of_eq (impl_keepsOrder_l0e i.1 i.2.1 i.2.2.1 i.2.2.2.1 i.2.2.2.2 k v) (impl_keepsOrder_l0p i.1 i.2.1 i.2.2.1 i.2.2.2.2 (fun a3 => hk a3) v)
def c104 : Callee := mkC [.agg [.ro TJob], .agg [.ro TPlan], .one (.ro (.int .i64))] 1 [.one (.ro .bool)] fun x => impl_keepsOrder x.1 x.2.1 x.2.2
theorem e104 (x : PK.dens [.agg [.ro TJob], .agg [.ro TPlan], .one (.ro (.int .i64))]) : evalFn Try.prog EL104 or104 Try.f104 (PK.outs [.agg [.ro TJob], .agg [.ro TPlan], .one (.ro (.int .i64))] x) =
    impl_keepsOrderK (fun y => some (tupOf ((PK.outs [.one (.ro .bool)] y).take 1), (PK.outs [.one (.ro .bool)] y).drop 1)) x.1 x.2.1 x.2.2 := by kernel_rfl
theorem o104 : LoOk Try.prog EL104 or104 Try.f104.ntmps (loopsIn (codeOf Try.f104)) :=
  LoOk.mk (m := 1) (by kernel_rfl) fun i hi => match i, hi with
    | 0, _ => ⟨Limpl_keepsOrder_l0, by kernel_rfl, impl_keepsOrder_l0o⟩
    | i + 1, hi => absurd hi (by omega)
theorem k104 : CalleeOk Try.prog 104 c104 := callee_mk Try.func104 (code := codeOf Try.f104) (by kernel_rfl) vL104 mixed o104 fun x y h => (e104 x).trans (p104 _ x.1 x.2.1 x.2.2 y h)

/-- impl.isFeasible -/
def EL72 : Nat → Option Callee := addE 99 c99 (addE 104 c104 env0)
theorem vL72 : EnvOk Try.prog EL72 := (EnvOk.nil.add Try.func104 rfl (by kernel_rfl) k104).add Try.func99 rfl (by kernel_rfl) k99
def simpl_isFeasible_l0 : LS := ⟨[(2, .one (.fix (.ptr 0 0))), (3, .one (.fix (.ptr 1 0))), (10, .one (.dat (.int .i64))), (11, .one (.dat (.int .i64)))], [.box [.dat (.slice (.slice (.int .i64))), .dat (.slice (.int .i64)), .dat (.slice (.int .i64)), .dat (.int .i64), .dat (.int .i64), .dat (.int .i64), .dat (.int .i64), .dat (.int .i64)], .box [.dat (.int .i64), .dat (.slice (.int .i64))]], []⟩
def simpl_isFeasible_l0x0 : LS := ⟨[(4, .one (.dat .bool))], [], []⟩
def simpl_isFeasible_l0x1 : LS := ⟨[(2, .one (.fix (.ptr 0 0))), (3, .one (.fix (.ptr 1 0)))], [.box [.dat (.slice (.slice (.int .i64))), .dat (.slice (.int .i64)), .dat (.slice (.int .i64)), .dat (.int .i64), .dat (.int .i64), .dat (.int .i64), .dat (.int .i64), .dat (.int .i64)], .box [.dat (.int .i64), .dat (.slice (.int .i64))]], []⟩
def ximpl_isFeasible_l0 : List (XS (Int × (List (List Int)) × (List Int) × (List Int) × Int × Int × Int × Int × Int × Int × (List Int))) := [⟨.ret, ⟨[4], [], [], []⟩, simpl_isFeasible_l0x0, Bool, fun i y => ((y, ()), ())⟩,
  ⟨.exit 0, ⟨[2, 3], [.slot 2, .slot 3], [], []⟩, simpl_isFeasible_l0x1, Unit, fun i y => (((), ((), ())), ((i.2.1, (i.2.2.1, (i.2.2.2.1, (i.2.2.2.2.1, (i.2.2.2.2.2.1, (i.2.2.2.2.2.2.1, (i.2.2.2.2.2.2.2.1, (i.2.2.2.2.2.2.2.2.1, ())))))))), ((i.2.2.2.2.2.2.2.2.2.1, (i.2.2.2.2.2.2.2.2.2.2, ())), ())))⟩]
def impl_isFeasible_l0K {R : Type} (a0 : Int) (a2 : List (List Int)) (a3 : List Int) (a4 : List Int) (a5 : Int) (a6 : Int) (a7 : Int) (a8 : Int) (a9 : Int) (a10 : Int) (a11 : List Int) (rc : Int → Option R) (fin : (Bool ⊕ Unit) → Option R) (a1 : Int) : Option R :=
  cond (decide (a1 < a0))
  ((impl_keepsOrder (a2, (a3, (a4, ((a5, (a6, ())), (a7, (a8, (a9, ()))))))) (a10, (a11, ())) a1).bind fun y1 =>
    cond (!y1)
    (fin (.inl false))
    (rc (IntKind.i64.wrap (a1 + 1))))
  (fin (.inr ()))
def impl_isFeasible_l0F (a0 : Int) (a2 : List (List Int)) (a3 : List Int) (a4 : List Int) (a5 : Int) (a6 : Int) (a7 : Int) (a8 : Int) (a9 : Int) (a10 : Int) (a11 : List Int) (r : Int → Option (Bool ⊕ Unit)) (x : Int) : Option (Bool ⊕ Unit) := impl_isFeasible_l0K a0 a2 a3 a4 a5 a6 a7 a8 a9 a10 a11 (fun a1 => r a1) some x
theorem impl_isFeasible_l0c (a0 : Int) (a2 : List (List Int)) (a3 : List Int) (a4 : List Int) (a5 : Int) (a6 : Int) (a7 : Int) (a8 : Int) (a9 : Int) (a10 : Int) (a11 : List Int) (x : Int) : Ct fun r => impl_isFeasible_l0F a0 a2 a3 a4 a5 a6 a7 a8 a9 a10 a11 r x := by
  unfold impl_isFeasible_l0F impl_isFeasible_l0K
  repeat' (first | exact Ct.const | exact Ct.call | refine Ct.cond ?_ ?_ | refine Ct.bind ?_ fun _ => ?_ | refine Ct.sum (fun _ => ?_) fun _ => ?_)
def impl_isFeasible_l0 (a0 : Int) (a2 : List (List Int)) (a3 : List Int) (a4 : List Int) (a5 : Int) (a6 : Int) (a7 : Int) (a8 : Int) (a9 : Int) (a10 : Int) (a11 : List Int) (a1 : Int) : Option (Bool ⊕ Unit) := lim (impl_isFeasible_l0F a0 a2 a3 a4 a5 a6 a7 a8 a9 a10 a11) a1
theorem impl_isFeasible_l0_eq (a0 : Int) (a2 : List (List Int)) (a3 : List Int) (a4 : List Int) (a5 : Int) (a6 : Int) (a7 : Int) (a8 : Int) (a9 : Int) (a10 : Int) (a11 : List Int) (a1 : Int) : impl_isFeasible_l0 a0 a2 a3 a4 a5 a6 a7 a8 a9 a10 a11 a1 = impl_isFeasible_l0K a0 a2 a3 a4 a5 a6 a7 a8 a9 a10 a11 (impl_isFeasible_l0 a0 a2 a3 a4 a5 a6 a7 a8 a9 a10 a11) some a1 := lim_eq (impl_isFeasible_l0c a0 a2 a3 a4 a5 a6 a7 a8 a9 a10 a11) a1
theorem impl_isFeasible_l0p {R : Type} (a0 : Int) (a2 : List (List Int)) (a3 : List Int) (a4 : List Int) (a5 : Int) (a6 : Int) (a7 : Int) (a8 : Int) (a9 : Int) (a10 : Int) (a11 : List Int) {rc : Int → Option (Bool ⊕ Unit)} {rc' : Int → Option R} {fin : (Bool ⊕ Unit) → Option R} (hr : ∀ a1, Par fin (rc a1) (rc' a1)) (a1 : Int) : Par fin (impl_isFeasible_l0K a0 a2 a3 a4 a5 a6 a7 a8 a9 a10 a11 rc some a1) (impl_isFeasible_l0K a0 a2 a3 a4 a5 a6 a7 a8 a9 a10 a11 rc' fin a1) := by
  unfold impl_isFeasible_l0K
  repeat' (first | exact .fin | exact .none | exact hr _ | refine .cond ?_ ?_ | refine .bind fun _ => ?_ | refine .sum (fun _ => ?_) fun _ => ?_)
def Limpl_isFeasible_l0 : Loop := mkL ⟨[2, 3, 10, 11], [.slot 2, .slot 3], [], []⟩ simpl_isFeasible_l0 ximpl_isFeasible_l0 (fun (x : (Unit × Unit × Int × Int × Unit) × (((List (List Int)) × (List Int) × (List Int) × Int × Int × Int × Int × Int × Unit) × (Int × (List Int) × Unit) × Unit)) => (x.1.2.2.1, (x.2.1.1, (x.2.1.2.1, (x.2.1.2.2.1, (x.2.1.2.2.2.1, (x.2.1.2.2.2.2.1, (x.2.1.2.2.2.2.2.1, (x.2.1.2.2.2.2.2.2.1, (x.2.1.2.2.2.2.2.2.2.1, (x.2.2.1.1, x.2.2.1.2.1))))))))))) fun (x : (Unit × Unit × Int × Int × Unit) × (((List (List Int)) × (List Int) × (List Int) × Int × Int × Int × Int × Int × Unit) × (Int × (List Int) × Unit) × Unit)) => impl_isFeasible_l0 x.1.2.2.1 x.2.1.1 x.2.1.2.1 x.2.1.2.2.1 x.2.1.2.2.2.1 x.2.1.2.2.2.2.1 x.2.1.2.2.2.2.2.1 x.2.1.2.2.2.2.2.2.1 x.2.1.2.2.2.2.2.2.2.1 x.2.2.1.1 x.2.2.1.2.1 x.1.2.2.2.1
def simpl_isFeasible_l1 : LS := ⟨[(2, .one (.fix (.ptr 0 0))), (22, .one (.fix (.sref 1))), (23, .one (.dat (.int .i64))), (24, .one (.dat (.int .i64)))], [.box [.dat (.slice (.slice (.int .i64))), .dat (.slice (.int .i64)), .dat (.slice (.int .i64)), .dat (.int .i64), .dat (.int .i64), .dat (.int .i64), .dat (.int .i64), .dat (.int .i64)], .mat (.int .i64)], []⟩
def simpl_isFeasible_l1x0 : LS := ⟨[(4, .one (.dat .bool))], [], []⟩
def simpl_isFeasible_l1x1 : LS := ⟨[], [], []⟩
def ximpl_isFeasible_l1 : List (XS (Int × (List (List Int)) × (List Int) × (List Int) × Int × Int × Int × Int × Int × (List (List Int)))) := [⟨.ret, ⟨[4], [], [], []⟩, simpl_isFeasible_l1x0, Bool, fun i y => ((y, ()), ())⟩,
  ⟨.exit 2, ⟨[], [], [], []⟩, simpl_isFeasible_l1x1, Unit, fun i y => ((), ())⟩]
def impl_isFeasible_l1K {R : Type} (a0 : Int) (a5 : Int) (a6 : Int) (a10 : List (List Int)) (rc : Int → Option R) (fin : (Bool ⊕ Unit) → Option R) (a1 : Int) : Option R :=
  cond (decide (a1 < a0))
  (cond (decide ((0 : Int) ≤ a1) && decide (a1 < (a10.length : Int)))
    (cond (decide ((0 : Int) < ((a10.getD (0 + a1.toNat) []).length : Int)))
      (cond (decide (((a10.getD (0 + a1.toNat) []).getD (0 + 0) 0) > a5))
        (fin (.inl false))
        (cond (decide ((1 : Int) < ((a10.getD (0 + a1.toNat) []).length : Int)))
          (cond (decide (((a10.getD (0 + a1.toNat) []).getD (0 + 1) 0) > a6))
            (fin (.inl false))
            (rc (IntKind.i64.wrap (a1 + 1))))
          (none)))
      (none))
    (none))
  (fin (.inr ()))
def impl_isFeasible_l1F (a0 : Int) (a5 : Int) (a6 : Int) (a10 : List (List Int)) (r : Int → Option (Bool ⊕ Unit)) (x : Int) : Option (Bool ⊕ Unit) := impl_isFeasible_l1K a0 a5 a6 a10 (fun a1 => r a1) some x
theorem impl_isFeasible_l1c (a0 : Int) (a5 : Int) (a6 : Int) (a10 : List (List Int)) (x : Int) : Ct fun r => impl_isFeasible_l1F a0 a5 a6 a10 r x := by
  unfold impl_isFeasible_l1F impl_isFeasible_l1K
  repeat' (first | exact Ct.const | exact Ct.call | refine Ct.cond ?_ ?_ | refine Ct.bind ?_ fun _ => ?_ | refine Ct.sum (fun _ => ?_) fun _ => ?_)
def impl_isFeasible_l1 (a0 : Int) (a5 : Int) (a6 : Int) (a10 : List (List Int)) (a1 : Int) : Option (Bool ⊕ Unit) := lim (impl_isFeasible_l1F a0 a5 a6 a10) a1
theorem impl_isFeasible_l1_eq (a0 : Int) (a5 : Int) (a6 : Int) (a10 : List (List Int)) (a1 : Int) : impl_isFeasible_l1 a0 a5 a6 a10 a1 = impl_isFeasible_l1K a0 a5 a6 a10 (impl_isFeasible_l1 a0 a5 a6 a10) some a1 := lim_eq (impl_isFeasible_l1c a0 a5 a6 a10) a1
theorem impl_isFeasible_l1p {R : Type} (a0 : Int) (a5 : Int) (a6 : Int) (a10 : List (List Int)) {rc : Int → Option (Bool ⊕ Unit)} {rc' : Int → Option R} {fin : (Bool ⊕ Unit) → Option R} (hr : ∀ a1, Par fin (rc a1) (rc' a1)) (a1 : Int) : Par fin (impl_isFeasible_l1K a0 a5 a6 a10 rc some a1) (impl_isFeasible_l1K a0 a5 a6 a10 rc' fin a1) := by
  unfold impl_isFeasible_l1K
  repeat' (first | exact .fin | exact .none | exact hr _ | refine .cond ?_ ?_ | refine .bind fun _ => ?_ | refine .sum (fun _ => ?_) fun _ => ?_)
def Limpl_isFeasible_l1 : Loop := mkL ⟨[2, 22, 23, 24], [.slot 2, .slot 22], [], []⟩ simpl_isFeasible_l1 ximpl_isFeasible_l1 (fun (x : (Unit × Unit × Int × Int × Unit) × (((List (List Int)) × (List Int) × (List Int) × Int × Int × Int × Int × Int × Unit) × (List (List Int)) × Unit)) => (x.1.2.2.1, (x.2.1.1, (x.2.1.2.1, (x.2.1.2.2.1, (x.2.1.2.2.2.1, (x.2.1.2.2.2.2.1, (x.2.1.2.2.2.2.2.1, (x.2.1.2.2.2.2.2.2.1, (x.2.1.2.2.2.2.2.2.2.1, x.2.2.1)))))))))) fun (x : (Unit × Unit × Int × Int × Unit) × (((List (List Int)) × (List Int) × (List Int) × Int × Int × Int × Int × Int × Unit) × (List (List Int)) × Unit)) => impl_isFeasible_l1 x.1.2.2.1 x.2.1.2.2.2.1 x.2.1.2.2.2.2.1 x.2.2.1 x.1.2.2.2.1
def impl_isFeasibleK {R : Type} (fin : Bool → Option R) (x0 : DJob) (x1 : DPlan) : Option R :=
  (impl_isFeasible_l0 (x1.2.1.length : Int) x0.1 x0.2.1 x0.2.2.1 x0.2.2.2.1.1 x0.2.2.2.1.2.1 x0.2.2.2.2.1 x0.2.2.2.2.2.1 x0.2.2.2.2.2.2.1 x1.1 x1.2.1 0).bind fun y2 =>
  sumO y2 (fun y3 =>
  fin y3)
  (fun y4 =>
  (impl_tonnesIn x0 x1).bind fun y5 =>
    (impl_isFeasible_l1 (y5.length : Int) x0.2.2.2.1.1 x0.2.2.2.1.2.1 y5 0).bind fun y6 =>
    sumO y6 (fun y7 =>
    fin y7)
    (fun y8 =>
    fin true))
def impl_isFeasible (x0 : DJob) (x1 : DPlan) : Option (Bool) := impl_isFeasibleK some x0 x1
theorem p72 {R : Type} (fin : Bool → Option R) (x0 : DJob) (x1 : DPlan) : Par fin (impl_isFeasibleK some x0 x1) (impl_isFeasibleK fin x0 x1) := by
  unfold impl_isFeasibleK
  repeat' (first | exact .fin | exact .none | refine .cond ?_ ?_ | refine .bind fun _ => ?_ | refine .sum (fun _ => ?_) fun _ => ?_)
def or72 : Ora := { lo := addL 8 (Limpl_isFeasible_l1) (addL 2 (Limpl_isFeasible_l0) lo0), fin := [] }
theorem impl_isFeasible_l0e (a0 : Int) (a2 : List (List Int)) (a3 : List Int) (a4 : List Int) (a5 : Int) (a6 : Int) (a7 : Int) (a8 : Int) (a9 : Int) (a10 : Int) (a11 : List Int) (k : Nat) (a1 : Int) : loopC Try.prog EL72 or72 ((loopsIn (codeOf Try.f72)).getD 0 .skip) (Limpl_isFeasible_l0).h (Limpl_isFeasible_l0).ho Try.f72.ntmps (k + 1) (simpl_isFeasible_l0.out (((), ((), (a0, (a1, ())))), ((a2, (a3, (a4, (a5, (a6, (a7, (a8, (a9, ())))))))), ((a10, (a11, ())), ())))) =
    impl_isFeasible_l0K a0 a2 a3 a4 a5 a6 a7 a8 a9 a10 a11 (fun a1 => loopC Try.prog EL72 or72 ((loopsIn (codeOf Try.f72)).getD 0 .skip) (Limpl_isFeasible_l0).h (Limpl_isFeasible_l0).ho Try.f72.ntmps k (simpl_isFeasible_l0.out (((), ((), (a0, (a1, ())))), ((a2, (a3, (a4, (a5, (a6, (a7, (a8, (a9, ())))))))), ((a10, (a11, ())), ()))))) (fun y => some (XS.out ximpl_isFeasible_l0 (a0, (a2, (a3, (a4, (a5, (a6, (a7, (a8, (a9, (a10, a11)))))))))) y)) a1 := by kernel_rfl
theorem impl_isFeasible_l0o : LoopOk Try.prog EL72 or72 Try.f72.ntmps ((loopsIn (codeOf Try.f72)).getD 0 .skip) (Limpl_isFeasible_l0) :=
  loop_lim (hs := simpl_isFeasible_l0) (xs := ximpl_isFeasible_l0) (ι := fun (x : (Unit × Unit × Int × Int × Unit) × (((List (List Int)) × (List Int) × (List Int) × Int × Int × Int × Int × Int × Unit) × (Int × (List Int) × Unit) × Unit)) => (x.1.2.2.1, (x.2.1.1, (x.2.1.2.1, (x.2.1.2.2.1, (x.2.1.2.2.2.1, (x.2.1.2.2.2.2.1, (x.2.1.2.2.2.2.2.1, (x.2.1.2.2.2.2.2.2.1, (x.2.1.2.2.2.2.2.2.2.1, (x.2.2.1.1, x.2.2.1.2.1))))))))))) (φ := fun (x : (Unit × Unit × Int × Int × Unit) × (((List (List Int)) × (List Int) × (List Int) × Int × Int × Int × Int × Int × Unit) × (Int × (List Int) × Unit) × Unit)) => x.1.2.2.2.1) (ψ := fun (i : Int × (List (List Int)) × (List Int) × (List Int) × Int × Int × Int × Int × Int × Int × (List Int)) (v : Int) => (((), ((), (i.1, (v, ())))), ((i.2.1, (i.2.2.1, (i.2.2.2.1, (i.2.2.2.2.1, (i.2.2.2.2.2.1, (i.2.2.2.2.2.2.1, (i.2.2.2.2.2.2.2.1, (i.2.2.2.2.2.2.2.2.1, ())))))))), ((i.2.2.2.2.2.2.2.2.2.1, (i.2.2.2.2.2.2.2.2.2.2, ())), ())))) (F := fun (i : Int × (List (List Int)) × (List Int) × (List Int) × Int × Int × Int × Int × Int × Int × (List Int)) => impl_isFeasible_l0F i.1 i.2.1 i.2.2.1 i.2.2.2.1 i.2.2.2.2.1 i.2.2.2.2.2.1 i.2.2.2.2.2.2.1 i.2.2.2.2.2.2.2.1 i.2.2.2.2.2.2.2.2.1 i.2.2.2.2.2.2.2.2.2.1 i.2.2.2.2.2.2.2.2.2.2) (fun _ => rfl) fun i k hk v => Par.of_eq (impl_isFeasible_l0e i.1 i.2.1 i.2.2.1 i.2.2.2.1 i.2.2.2.2.1 i.2.2.2.2.2.1 i.2.2.2.2.2.2.1 i.2.2.2.2.2.2.2.1 i.2.2.2.2.2.2.2.2.1 i.2.2.2.2.2.2.2.2.2.1 i.2.2.2.2.2.2.2.2.2.2 k v) (impl_isFeasible_l0p i.1 i.2.1 i.2.2.1 i.2.2.2.1 i.2.2.2.2.1 i.2.2.2.2.2.1 i.2.2.2.2.2.2.1 i.2.2.2.2.2.2.2.1 i.2.2.2.2.2.2.2.2.1 i.2.2.2.2.2.2.2.2.2.1 i.2.2.2.2.2.2.2.2.2.2 (fun a1 => hk a1) v)
theorem impl_isFeasible_l1e (a0 : Int) (a2 : List (List Int)) (a3 : List Int) (a4 : List Int) (a5 : Int) (a6 : Int) (a7 : Int) (a8 : Int) (a9 : Int) (a10 : List (List Int)) (k : Nat) (a1 : Int) : loopC Try.prog EL72 or72 ((loopsIn (codeOf Try.f72)).getD 1 .skip) (Limpl_isFeasible_l1).h (Limpl_isFeasible_l1).ho Try.f72.ntmps (k + 1) (simpl_isFeasible_l1.out (((), ((), (a0, (a1, ())))), ((a2, (a3, (a4, (a5, (a6, (a7, (a8, (a9, ())))))))), (a10, ())))) =
    impl_isFeasible_l1K a0 a5 a6 a10 (fun a1 => loopC Try.prog EL72 or72 ((loopsIn (codeOf Try.f72)).getD 1 .skip) (Limpl_isFeasible_l1).h (Limpl_isFeasible_l1).ho Try.f72.ntmps k (simpl_isFeasible_l1.out (((), ((), (a0, (a1, ())))), ((a2, (a3, (a4, (a5, (a6, (a7, (a8, (a9, ())))))))), (a10, ()))))) (fun y => some (XS.out ximpl_isFeasible_l1 (a0, (a2, (a3, (a4, (a5, (a6, (a7, (a8, (a9, a10))))))))) y)) a1 := by kernel_rfl
theorem impl_isFeasible_l1o : LoopOk Try.prog EL72 or72 Try.f72.ntmps ((loopsIn (codeOf Try.f72)).getD 1 .skip) (Limpl_isFeasible_l1) :=
  loop_lim (hs := simpl_isFeasible_l1) (xs := ximpl_isFeasible_l1) (ι := fun (x : (Unit × Unit × Int × Int × Unit) × (((List (List Int)) × (List Int) × (List Int) × Int × Int × Int × Int × Int × Unit) × (List (List Int)) × Unit)) => (x.1.2.2.1, (x.2.1.1, (x.2.1.2.1, (x.2.1.2.2.1, (x.2.1.2.2.2.1, (x.2.1.2.2.2.2.1, (x.2.1.2.2.2.2.2.1, (x.2.1.2.2.2.2.2.2.1, (x.2.1.2.2.2.2.2.2.2.1, x.2.2.1)))))))))) (φ := fun (x : (Unit × Unit × Int × Int × Unit) × (((List (List Int)) × (List Int) × (List Int) × Int × Int × Int × Int × Int × Unit) × (List (List Int)) × Unit)) => x.1.2.2.2.1) (ψ := fun (i : Int × (List (List Int)) × (List Int) × (List Int) × Int × Int × Int × Int × Int × (List (List Int))) (v : Int) => (((), ((), (i.1, (v, ())))), ((i.2.1, (i.2.2.1, (i.2.2.2.1, (i.2.2.2.2.1, (i.2.2.2.2.2.1, (i.2.2.2.2.2.2.1, (i.2.2.2.2.2.2.2.1, (i.2.2.2.2.2.2.2.2.1, ())))))))), (i.2.2.2.2.2.2.2.2.2, ())))) (F := fun (i : Int × (List (List Int)) × (List Int) × (List Int) × Int × Int × Int × Int × Int × (List (List Int))) => impl_isFeasible_l1F i.1 i.2.2.2.2.1 i.2.2.2.2.2.1 i.2.2.2.2.2.2.2.2.2) (fun _ => rfl) fun i k hk v => Par.of_eq (impl_isFeasible_l1e i.1 i.2.1 i.2.2.1 i.2.2.2.1 i.2.2.2.2.1 i.2.2.2.2.2.1 i.2.2.2.2.2.2.1 i.2.2.2.2.2.2.2.1 i.2.2.2.2.2.2.2.2.1 i.2.2.2.2.2.2.2.2.2 k v) (impl_isFeasible_l1p i.1 i.2.2.2.2.1 i.2.2.2.2.2.1 i.2.2.2.2.2.2.2.2.2 (fun a1 => hk a1) v)
def c72 : Callee := mkC [.agg [.ro TJob], .agg [.ro TPlan]] 1 [.one (.ro .bool)] fun x => impl_isFeasible x.1 x.2
theorem e72 (x : PK.dens [.agg [.ro TJob], .agg [.ro TPlan]]) : evalFn Try.prog EL72 or72 Try.f72 (PK.outs [.agg [.ro TJob], .agg [.ro TPlan]] x) =
    impl_isFeasibleK (fun y => some (tupOf ((PK.outs [.one (.ro .bool)] y).take 1), (PK.outs [.one (.ro .bool)] y).drop 1)) x.1 x.2 := by kernel_rfl
theorem o72 : LoOk Try.prog EL72 or72 Try.f72.ntmps (loopsIn (codeOf Try.f72)) :=
  LoOk.mk (m := 2) (by kernel_rfl) fun i hi => match i, hi with
    | 0, _ => ⟨Limpl_isFeasible_l0, by kernel_rfl, impl_isFeasible_l0o⟩
    | 1, _ => ⟨Limpl_isFeasible_l1, by kernel_rfl, impl_isFeasible_l1o⟩
    | i + 2, hi => absurd hi (by omega)
theorem k72 : CalleeOk Try.prog 72 c72 := callee_mk Try.func72 (code := codeOf Try.f72) (by kernel_rfl) vL72 mixed o72 fun x y h => (e72 x).trans (p72 _ x.1 x.2 y h)

/-- spec.plFaults -/
def EL101 : Nat → Option Callee := addE 65 c65 env0
theorem vL101 : EnvOk Try.prog EL101 := EnvOk.nil.add Try.func65 rfl (by kernel_rfl) k65
def sspec_plFaults_l1 : LS := ⟨[(2, .one (.fix (.ptr 0 0))), (3, .one (.fix (.ptr 1 0))), (5, .one (.fix (.sref 2))), (6, .one (.dat (.int .i64))), (7, .one (.dat (.int .i64))), (11, .one (.dat (.slice (.int .i64)))), (12, .one (.dat (.int .i64))), (13, .one (.dat (.int .i64))), (24, .one (.dat (.slice (.int .i64)))), (25, .one (.dat (.int .i64))), (26, .one (.dat (.int .i64)))], [.box [.dat (.slice (.slice (.int .i64))), .dat (.slice (.int .i64)), .dat (.slice (.int .i64)), .dat (.int .i64), .dat (.int .i64), .dat (.int .i64), .dat (.int .i64), .dat (.int .i64)], .box [.dat (.int .i64), .dat (.slice (.int .i64))], .mat (.int .i64)], []⟩
def sspec_plFaults_l1x0 : LS := ⟨[(2, .one (.fix (.ptr 0 0))), (3, .one (.fix (.ptr 1 0))), (5, .one (.fix (.sref 2))), (11, .one (.dat (.slice (.int .i64)))), (12, .one (.dat (.int .i64))), (13, .one (.dat (.int .i64)))], [.box [.dat (.slice (.slice (.int .i64))), .dat (.slice (.int .i64)), .dat (.slice (.int .i64)), .dat (.int .i64), .dat (.int .i64), .dat (.int .i64), .dat (.int .i64), .dat (.int .i64)], .box [.dat (.int .i64), .dat (.slice (.int .i64))], .mat (.int .i64)], []⟩
def xspec_plFaults_l1 : List (XS (Int × Int × (List Int) × Int × Int × (List Int) × Int × (List (List Int)) × (List Int) × (List Int) × Int × Int × Int × Int × Int × Int × (List Int))) := [⟨.exit 2, ⟨[2, 3, 5, 11, 12, 13], [.slot 2, .slot 3, .slot 5], [], []⟩, sspec_plFaults_l1x0, List (List Int), fun i y => (((), ((), ((), (i.2.2.1, (i.2.2.2.1, (i.2.2.2.2.1, ())))))), ((i.2.2.2.2.2.2.2.1, (i.2.2.2.2.2.2.2.2.1, (i.2.2.2.2.2.2.2.2.2.1, (i.2.2.2.2.2.2.2.2.2.2.1, (i.2.2.2.2.2.2.2.2.2.2.2.1, (i.2.2.2.2.2.2.2.2.2.2.2.2.1, (i.2.2.2.2.2.2.2.2.2.2.2.2.2.1, (i.2.2.2.2.2.2.2.2.2.2.2.2.2.2.1, ())))))))), ((i.2.2.2.2.2.2.2.2.2.2.2.2.2.2.2.1, (i.2.2.2.2.2.2.2.2.2.2.2.2.2.2.2.2, ())), (y, ()))))⟩]
def spec_plFaults_l1K {R : Type} (a0 : Int) (a1 : Int) (a5 : List Int) (a6 : Int) (a17 : List Int) (rc : Int → List (List Int) → Option R) (fin : List (List Int) → Option R) (a7 : Int) (a18 : List (List Int)) : Option R :=
  cond (decide (a7 < a6))
  ((lat a5 a7).bind fun e1 =>
    (lat a17 e1).bind fun e2 =>
    (spec_l1In e2 0 a1).bind fun y3 =>
    cond (!y3)
    (cond (decide (a18.length + [[a0, e1]].length ≤ 1099511627776))
      ((some (a18 ++ [[a0, e1]])).bind fun v4 =>
        rc (IntKind.i64.wrap (a7 + 1)) v4)
      (none))
    (rc (IntKind.i64.wrap (a7 + 1)) a18))
  (fin a18)
def spec_plFaults_l1F (a0 : Int) (a1 : Int) (a5 : List Int) (a6 : Int) (a17 : List Int) (r : (Int × (List (List Int))) → Option (List (List Int))) (x : Int × (List (List Int))) : Option (List (List Int)) := spec_plFaults_l1K a0 a1 a5 a6 a17 (fun a7 a18 => r (a7, a18)) some x.1 x.2
theorem spec_plFaults_l1c (a0 : Int) (a1 : Int) (a5 : List Int) (a6 : Int) (a17 : List Int) (x : Int × (List (List Int))) : Ct fun r => spec_plFaults_l1F a0 a1 a5 a6 a17 r x := by
  unfold spec_plFaults_l1F spec_plFaults_l1K
  repeat' (first | exact Ct.const | exact Ct.call | refine Ct.cond ?_ ?_ | refine Ct.bind ?_ fun _ => ?_ | refine Ct.sum (fun _ => ?_) fun _ => ?_)
def spec_plFaults_l1 (a0 : Int) (a1 : Int) (a5 : List Int) (a6 : Int) (a17 : List Int) (a7 : Int) (a18 : List (List Int)) : Option (List (List Int)) := lim (spec_plFaults_l1F a0 a1 a5 a6 a17) (a7, a18)
theorem spec_plFaults_l1_eq (a0 : Int) (a1 : Int) (a5 : List Int) (a6 : Int) (a17 : List Int) (a7 : Int) (a18 : List (List Int)) : spec_plFaults_l1 a0 a1 a5 a6 a17 a7 a18 = spec_plFaults_l1K a0 a1 a5 a6 a17 (spec_plFaults_l1 a0 a1 a5 a6 a17) some a7 a18 := lim_eq (spec_plFaults_l1c a0 a1 a5 a6 a17) (a7, a18)
theorem spec_plFaults_l1p {R : Type} (a0 : Int) (a1 : Int) (a5 : List Int) (a6 : Int) (a17 : List Int) {rc : Int → List (List Int) → Option (List (List Int))} {rc' : Int → List (List Int) → Option R} {fin : List (List Int) → Option R} (hr : ∀ a7 a18, Par fin (rc a7 a18) (rc' a7 a18)) (a7 : Int) (a18 : List (List Int)) : Par fin (spec_plFaults_l1K a0 a1 a5 a6 a17 rc some a7 a18) (spec_plFaults_l1K a0 a1 a5 a6 a17 rc' fin a7 a18) := by
  unfold spec_plFaults_l1K
  repeat' (first | exact .fin | exact .none | exact hr _ _ | refine .cond ?_ ?_ | refine .bind fun _ => ?_ | refine .sum (fun _ => ?_) fun _ => ?_)
def Lspec_plFaults_l1 : Loop := mkL ⟨[2, 3, 5, 6, 7, 11, 12, 13, 24, 25, 26], [.slot 2, .slot 3, .slot 5], [], []⟩ sspec_plFaults_l1 xspec_plFaults_l1 (fun (x : (Unit × Unit × Unit × Int × Int × (List Int) × Int × Int × (List Int) × Int × Int × Unit) × (((List (List Int)) × (List Int) × (List Int) × Int × Int × Int × Int × Int × Unit) × (Int × (List Int) × Unit) × (List (List Int)) × Unit)) => (x.1.2.2.2.1, (x.1.2.2.2.2.1, (x.1.2.2.2.2.2.1, (x.1.2.2.2.2.2.2.1, (x.1.2.2.2.2.2.2.2.1, (x.1.2.2.2.2.2.2.2.2.1, (x.1.2.2.2.2.2.2.2.2.2.1, (x.2.1.1, (x.2.1.2.1, (x.2.1.2.2.1, (x.2.1.2.2.2.1, (x.2.1.2.2.2.2.1, (x.2.1.2.2.2.2.2.1, (x.2.1.2.2.2.2.2.2.1, (x.2.1.2.2.2.2.2.2.2.1, (x.2.2.1.1, x.2.2.1.2.1))))))))))))))))) fun (x : (Unit × Unit × Unit × Int × Int × (List Int) × Int × Int × (List Int) × Int × Int × Unit) × (((List (List Int)) × (List Int) × (List Int) × Int × Int × Int × Int × Int × Unit) × (Int × (List Int) × Unit) × (List (List Int)) × Unit)) => spec_plFaults_l1 x.1.2.2.2.1 x.1.2.2.2.2.1 x.1.2.2.2.2.2.2.2.2.1 x.1.2.2.2.2.2.2.2.2.2.1 x.2.2.1.2.1 x.1.2.2.2.2.2.2.2.2.2.2.1 x.2.2.2.1
def sspec_plFaults_l0 : LS := ⟨[(2, .one (.fix (.ptr 0 0))), (3, .one (.fix (.ptr 1 0))), (5, .one (.fix (.sref 2))), (11, .one (.dat (.slice (.int .i64)))), (12, .one (.dat (.int .i64))), (13, .one (.dat (.int .i64)))], [.box [.dat (.slice (.slice (.int .i64))), .dat (.slice (.int .i64)), .dat (.slice (.int .i64)), .dat (.int .i64), .dat (.int .i64), .dat (.int .i64), .dat (.int .i64), .dat (.int .i64)], .box [.dat (.int .i64), .dat (.slice (.int .i64))], .mat (.int .i64)], []⟩
def sspec_plFaults_l0x0 : LS := ⟨[(5, .one (.fix (.sref 0)))], [.mat (.int .i64)], []⟩
def xspec_plFaults_l0 : List (XS ((List Int) × Int × (List (List Int)) × (List Int) × (List Int) × Int × Int × Int × Int × Int × Int × (List Int))) := [⟨.exit 0, ⟨[5], [.slot 5], [], []⟩, sspec_plFaults_l0x0, List (List Int), fun i y => (((), ()), (y, ()))⟩]
def spec_plFaults_l0K {R : Type} (a0 : List Int) (a1 : Int) (a3 : List (List Int)) (a12 : List Int) (rc : Int → List (List Int) → Option R) (fin : List (List Int) → Option R) (a2 : Int) (a13 : List (List Int)) : Option R :=
  cond (decide (a2 < a1))
  ((lat a0 a2).bind fun e1 =>
    cond (decide (e1 < 0))
    (rc (IntKind.i64.wrap (a2 + 1)) a13)
    ((lat a3 a2).bind fun e2 =>
      (spec_plFaults_l1 a2 e1 e2 (e2.length : Int) a12 0 a13).bind fun y7 =>
      rc (IntKind.i64.wrap (a2 + 1)) y7))
  (fin a13)
def spec_plFaults_l0F (a0 : List Int) (a1 : Int) (a3 : List (List Int)) (a12 : List Int) (r : (Int × (List (List Int))) → Option (List (List Int))) (x : Int × (List (List Int))) : Option (List (List Int)) := spec_plFaults_l0K a0 a1 a3 a12 (fun a2 a13 => r (a2, a13)) some x.1 x.2
theorem spec_plFaults_l0c (a0 : List Int) (a1 : Int) (a3 : List (List Int)) (a12 : List Int) (x : Int × (List (List Int))) : Ct fun r => spec_plFaults_l0F a0 a1 a3 a12 r x := by
  unfold spec_plFaults_l0F spec_plFaults_l0K
  repeat' (first | exact Ct.const | exact Ct.call | refine Ct.cond ?_ ?_ | refine Ct.bind ?_ fun _ => ?_ | refine Ct.sum (fun _ => ?_) fun _ => ?_)
def spec_plFaults_l0 (a0 : List Int) (a1 : Int) (a3 : List (List Int)) (a12 : List Int) (a2 : Int) (a13 : List (List Int)) : Option (List (List Int)) := lim (spec_plFaults_l0F a0 a1 a3 a12) (a2, a13)
theorem spec_plFaults_l0_eq (a0 : List Int) (a1 : Int) (a3 : List (List Int)) (a12 : List Int) (a2 : Int) (a13 : List (List Int)) : spec_plFaults_l0 a0 a1 a3 a12 a2 a13 = spec_plFaults_l0K a0 a1 a3 a12 (spec_plFaults_l0 a0 a1 a3 a12) some a2 a13 := lim_eq (spec_plFaults_l0c a0 a1 a3 a12) (a2, a13)
theorem spec_plFaults_l0p {R : Type} (a0 : List Int) (a1 : Int) (a3 : List (List Int)) (a12 : List Int) {rc : Int → List (List Int) → Option (List (List Int))} {rc' : Int → List (List Int) → Option R} {fin : List (List Int) → Option R} (hr : ∀ a2 a13, Par fin (rc a2 a13) (rc' a2 a13)) (a2 : Int) (a13 : List (List Int)) : Par fin (spec_plFaults_l0K a0 a1 a3 a12 rc some a2 a13) (spec_plFaults_l0K a0 a1 a3 a12 rc' fin a2 a13) := by
  unfold spec_plFaults_l0K
  repeat' (first | exact .fin | exact .none | exact hr _ _ | refine .cond ?_ ?_ | refine .bind fun _ => ?_ | refine .sum (fun _ => ?_) fun _ => ?_)
def Lspec_plFaults_l0 : Loop := mkL ⟨[2, 3, 5, 11, 12, 13], [.slot 2, .slot 3, .slot 5], [], [.ownm (.slot 5) (.int .i64)]⟩ sspec_plFaults_l0 xspec_plFaults_l0 (fun (x : (Unit × Unit × Unit × (List Int) × Int × Int × Unit) × (((List (List Int)) × (List Int) × (List Int) × Int × Int × Int × Int × Int × Unit) × (Int × (List Int) × Unit) × (List (List Int)) × Unit)) => (x.1.2.2.2.1, (x.1.2.2.2.2.1, (x.2.1.1, (x.2.1.2.1, (x.2.1.2.2.1, (x.2.1.2.2.2.1, (x.2.1.2.2.2.2.1, (x.2.1.2.2.2.2.2.1, (x.2.1.2.2.2.2.2.2.1, (x.2.1.2.2.2.2.2.2.2.1, (x.2.2.1.1, x.2.2.1.2.1)))))))))))) fun (x : (Unit × Unit × Unit × (List Int) × Int × Int × Unit) × (((List (List Int)) × (List Int) × (List Int) × Int × Int × Int × Int × Int × Unit) × (Int × (List Int) × Unit) × (List (List Int)) × Unit)) => spec_plFaults_l0 x.1.2.2.2.1 x.1.2.2.2.2.1 x.2.1.1 x.2.2.1.2.1 x.1.2.2.2.2.2.1 x.2.2.2.1
def spec_plFaultsK {R : Type} (fin : List (List Int) → Option R) (x0 : DJob) (x1 : DPlan) : Option R :=
  (spec_plFaults_l0 x1.2.1 (x1.2.1.length : Int) x0.1 x1.2.1 0 []).bind fun y18 =>
  fin y18
def spec_plFaults (x0 : DJob) (x1 : DPlan) : Option (List (List Int)) := spec_plFaultsK some x0 x1
theorem p101 {R : Type} (fin : List (List Int) → Option R) (x0 : DJob) (x1 : DPlan) : Par fin (spec_plFaultsK some x0 x1) (spec_plFaultsK fin x0 x1) := by
  unfold spec_plFaultsK
  repeat' (first | exact .fin | exact .none | refine .cond ?_ ?_ | refine .bind fun _ => ?_ | refine .sum (fun _ => ?_) fun _ => ?_)
def or101 : Ora := { lo := addL 3 (Lspec_plFaults_l0) (addL 7 (Lspec_plFaults_l1) lo0), fin := [] }
theorem spec_plFaults_l1e (a0 : Int) (a1 : Int) (a2 : List Int) (a3 : Int) (a4 : Int) (a5 : List Int) (a6 : Int) (a8 : List (List Int)) (a9 : List Int) (a10 : List Int) (a11 : Int) (a12 : Int) (a13 : Int) (a14 : Int) (a15 : Int) (a16 : Int) (a17 : List Int) (k : Nat) (a7 : Int) (a18 : List (List Int)) : loopC Try.prog EL101 or101 ((loopsIn (codeOf Try.f101)).getD 1 .skip) (Lspec_plFaults_l1).h (Lspec_plFaults_l1).ho Try.f101.ntmps (k + 1) (sspec_plFaults_l1.out (((), ((), ((), (a0, (a1, (a2, (a3, (a4, (a5, (a6, (a7, ()))))))))))), ((a8, (a9, (a10, (a11, (a12, (a13, (a14, (a15, ())))))))), ((a16, (a17, ())), (a18, ()))))) =
    spec_plFaults_l1K a0 a1 a5 a6 a17 (fun a7 a18 => loopC Try.prog EL101 or101 ((loopsIn (codeOf Try.f101)).getD 1 .skip) (Lspec_plFaults_l1).h (Lspec_plFaults_l1).ho Try.f101.ntmps k (sspec_plFaults_l1.out (((), ((), ((), (a0, (a1, (a2, (a3, (a4, (a5, (a6, (a7, ()))))))))))), ((a8, (a9, (a10, (a11, (a12, (a13, (a14, (a15, ())))))))), ((a16, (a17, ())), (a18, ())))))) (fun y => some (XS.out xspec_plFaults_l1 (a0, (a1, (a2, (a3, (a4, (a5, (a6, (a8, (a9, (a10, (a11, (a12, (a13, (a14, (a15, (a16, a17)))))))))))))))) y)) a7 a18 := by kernel_rfl
theorem spec_plFaults_l1o : LoopOk Try.prog EL101 or101 Try.f101.ntmps ((loopsIn (codeOf Try.f101)).getD 1 .skip) (Lspec_plFaults_l1) :=
  loop_lim (hs := sspec_plFaults_l1) (xs := xspec_plFaults_l1) (ι := fun (x : (Unit × Unit × Unit × Int × Int × (List Int) × Int × Int × (List Int) × Int × Int × Unit) × (((List (List Int)) × (List Int) × (List Int) × Int × Int × Int × Int × Int × Unit) × (Int × (List Int) × Unit) × (List (List Int)) × Unit)) => (x.1.2.2.2.1, (x.1.2.2.2.2.1, (x.1.2.2.2.2.2.1, (x.1.2.2.2.2.2.2.1, (x.1.2.2.2.2.2.2.2.1, (x.1.2.2.2.2.2.2.2.2.1, (x.1.2.2.2.2.2.2.2.2.2.1, (x.2.1.1, (x.2.1.2.1, (x.2.1.2.2.1, (x.2.1.2.2.2.1, (x.2.1.2.2.2.2.1, (x.2.1.2.2.2.2.2.1, (x.2.1.2.2.2.2.2.2.1, (x.2.1.2.2.2.2.2.2.2.1, (x.2.2.1.1, x.2.2.1.2.1))))))))))))))))) (φ := fun (x : (Unit × Unit × Unit × Int × Int × (List Int) × Int × Int × (List Int) × Int × Int × Unit) × (((List (List Int)) × (List Int) × (List Int) × Int × Int × Int × Int × Int × Unit) × (Int × (List Int) × Unit) × (List (List Int)) × Unit)) => (x.1.2.2.2.2.2.2.2.2.2.2.1, x.2.2.2.1)) (ψ := fun (i : Int × Int × (List Int) × Int × Int × (List Int) × Int × (List (List Int)) × (List Int) × (List Int) × Int × Int × Int × Int × Int × Int × (List Int)) (v : Int × (List (List Int))) => (((), ((), ((), (i.1, (i.2.1, (i.2.2.1, (i.2.2.2.1, (i.2.2.2.2.1, (i.2.2.2.2.2.1, (i.2.2.2.2.2.2.1, (v.1, ()))))))))))), ((i.2.2.2.2.2.2.2.1, (i.2.2.2.2.2.2.2.2.1, (i.2.2.2.2.2.2.2.2.2.1, (i.2.2.2.2.2.2.2.2.2.2.1, (i.2.2.2.2.2.2.2.2.2.2.2.1, (i.2.2.2.2.2.2.2.2.2.2.2.2.1, (i.2.2.2.2.2.2.2.2.2.2.2.2.2.1, (i.2.2.2.2.2.2.2.2.2.2.2.2.2.2.1, ())))))))), ((i.2.2.2.2.2.2.2.2.2.2.2.2.2.2.2.1, (i.2.2.2.2.2.2.2.2.2.2.2.2.2.2.2.2, ())), (v.2, ()))))) (F := fun (i : Int × Int × (List Int) × Int × Int × (List Int) × Int × (List (List Int)) × (List Int) × (List Int) × Int × Int × Int × Int × Int × Int × (List Int)) => spec_plFaults_l1F i.1 i.2.1 i.2.2.2.2.2.1 i.2.2.2.2.2.2.1 i.2.2.2.2.2.2.2.2.2.2.2.2.2.2.2.2) (fun _ => rfl) fun i k hk v => Par.of_eq (spec_plFaults_l1e i.1 i.2.1 i.2.2.1 i.2.2.2.1 i.2.2.2.2.1 i.2.2.2.2.2.1 i.2.2.2.2.2.2.1 i.2.2.2.2.2.2.2.1 i.2.2.2.2.2.2.2.2.1 i.2.2.2.2.2.2.2.2.2.1 i.2.2.2.2.2.2.2.2.2.2.1 i.2.2.2.2.2.2.2.2.2.2.2.1 i.2.2.2.2.2.2.2.2.2.2.2.2.1 i.2.2.2.2.2.2.2.2.2.2.2.2.2.1 i.2.2.2.2.2.2.2.2.2.2.2.2.2.2.1 i.2.2.2.2.2.2.2.2.2.2.2.2.2.2.2.1 i.2.2.2.2.2.2.2.2.2.2.2.2.2.2.2.2 k v.1 v.2) (spec_plFaults_l1p i.1 i.2.1 i.2.2.2.2.2.1 i.2.2.2.2.2.2.1 i.2.2.2.2.2.2.2.2.2.2.2.2.2.2.2.2 (fun a7 a18 => hk (a7, a18)) v.1 v.2)
theorem spec_plFaults_l0e (a0 : List Int) (a1 : Int) (a3 : List (List Int)) (a4 : List Int) (a5 : List Int) (a6 : Int) (a7 : Int) (a8 : Int) (a9 : Int) (a10 : Int) (a11 : Int) (a12 : List Int) (k : Nat) (a2 : Int) (a13 : List (List Int)) : loopC Try.prog EL101 or101 ((loopsIn (codeOf Try.f101)).getD 0 .skip) (Lspec_plFaults_l0).h (Lspec_plFaults_l0).ho Try.f101.ntmps (k + 1) (sspec_plFaults_l0.out (((), ((), ((), (a0, (a1, (a2, ())))))), ((a3, (a4, (a5, (a6, (a7, (a8, (a9, (a10, ())))))))), ((a11, (a12, ())), (a13, ()))))) =
    spec_plFaults_l0K a0 a1 a3 a12 (fun a2 a13 => loopC Try.prog EL101 or101 ((loopsIn (codeOf Try.f101)).getD 0 .skip) (Lspec_plFaults_l0).h (Lspec_plFaults_l0).ho Try.f101.ntmps k (sspec_plFaults_l0.out (((), ((), ((), (a0, (a1, (a2, ())))))), ((a3, (a4, (a5, (a6, (a7, (a8, (a9, (a10, ())))))))), ((a11, (a12, ())), (a13, ())))))) (fun y => some (XS.out xspec_plFaults_l0 (a0, (a1, (a3, (a4, (a5, (a6, (a7, (a8, (a9, (a10, (a11, a12))))))))))) y)) a2 a13 := by kernel_rfl
theorem spec_plFaults_l0o : LoopOk Try.prog EL101 or101 Try.f101.ntmps ((loopsIn (codeOf Try.f101)).getD 0 .skip) (Lspec_plFaults_l0) :=
  loop_lim (hs := sspec_plFaults_l0) (xs := xspec_plFaults_l0) (ι := fun (x : (Unit × Unit × Unit × (List Int) × Int × Int × Unit) × (((List (List Int)) × (List Int) × (List Int) × Int × Int × Int × Int × Int × Unit) × (Int × (List Int) × Unit) × (List (List Int)) × Unit)) => (x.1.2.2.2.1, (x.1.2.2.2.2.1, (x.2.1.1, (x.2.1.2.1, (x.2.1.2.2.1, (x.2.1.2.2.2.1, (x.2.1.2.2.2.2.1, (x.2.1.2.2.2.2.2.1, (x.2.1.2.2.2.2.2.2.1, (x.2.1.2.2.2.2.2.2.2.1, (x.2.2.1.1, x.2.2.1.2.1)))))))))))) (φ := fun (x : (Unit × Unit × Unit × (List Int) × Int × Int × Unit) × (((List (List Int)) × (List Int) × (List Int) × Int × Int × Int × Int × Int × Unit) × (Int × (List Int) × Unit) × (List (List Int)) × Unit)) => (x.1.2.2.2.2.2.1, x.2.2.2.1)) (ψ := fun (i : (List Int) × Int × (List (List Int)) × (List Int) × (List Int) × Int × Int × Int × Int × Int × Int × (List Int)) (v : Int × (List (List Int))) => (((), ((), ((), (i.1, (i.2.1, (v.1, ())))))), ((i.2.2.1, (i.2.2.2.1, (i.2.2.2.2.1, (i.2.2.2.2.2.1, (i.2.2.2.2.2.2.1, (i.2.2.2.2.2.2.2.1, (i.2.2.2.2.2.2.2.2.1, (i.2.2.2.2.2.2.2.2.2.1, ())))))))), ((i.2.2.2.2.2.2.2.2.2.2.1, (i.2.2.2.2.2.2.2.2.2.2.2, ())), (v.2, ()))))) (F := fun (i : (List Int) × Int × (List (List Int)) × (List Int) × (List Int) × Int × Int × Int × Int × Int × Int × (List Int)) => spec_plFaults_l0F i.1 i.2.1 i.2.2.1 i.2.2.2.2.2.2.2.2.2.2.2) (fun _ => rfl) fun i k hk v => Par.of_eq (spec_plFaults_l0e i.1 i.2.1 i.2.2.1 i.2.2.2.1 i.2.2.2.2.1 i.2.2.2.2.2.1 i.2.2.2.2.2.2.1 i.2.2.2.2.2.2.2.1 i.2.2.2.2.2.2.2.2.1 i.2.2.2.2.2.2.2.2.2.1 i.2.2.2.2.2.2.2.2.2.2.1 i.2.2.2.2.2.2.2.2.2.2.2 k v.1 v.2) (spec_plFaults_l0p i.1 i.2.1 i.2.2.1 i.2.2.2.2.2.2.2.2.2.2.2 (fun a2 a13 => hk (a2, a13)) v.1 v.2)
def c101 : Callee := mkC [.agg [.ro TJob], .agg [.ro TPlan]] 1 [.one (.mat (.int .i64))] fun x => spec_plFaults x.1 x.2
theorem e101 (x : PK.dens [.agg [.ro TJob], .agg [.ro TPlan]]) : evalFn Try.prog EL101 or101 Try.f101 (PK.outs [.agg [.ro TJob], .agg [.ro TPlan]] x) =
    spec_plFaultsK (fun y => some (tupOf ((PK.outs [.one (.mat (.int .i64))] y).take 1), (PK.outs [.one (.mat (.int .i64))] y).drop 1)) x.1 x.2 := by kernel_rfl
theorem o101 : LoOk Try.prog EL101 or101 Try.f101.ntmps (loopsIn (codeOf Try.f101)) :=
  LoOk.mk (m := 2) (by kernel_rfl) fun i hi => match i, hi with
    | 0, _ => ⟨Lspec_plFaults_l0, by kernel_rfl, spec_plFaults_l0o⟩
    | 1, _ => ⟨Lspec_plFaults_l1, by kernel_rfl, spec_plFaults_l1o⟩
    | i + 2, hi => absurd hi (by omega)
theorem k101 : CalleeOk Try.prog 101 c101 := callee_mk Try.func101 (code := codeOf Try.f101) (by kernel_rfl) vL101 mixed o101 fun x y h => (e101 x).trans (p101 _ x.1 x.2 y h)

/-- spec.plOver -/
def EL102 : Nat → Option Callee := addE 100 c100 env0
theorem vL102 : EnvOk Try.prog EL102 := EnvOk.nil.add Try.func100 rfl (by kernel_rfl) k100
def sspec_plOver_l0 : LS := ⟨[(2, .one (.fix (.ptr 0 0))), (5, .one (.fix (.sref 1))), (10, .one (.fix (.sref 2))), (11, .one (.dat (.int .i64))), (12, .one (.dat (.int .i64)))], [.box [.dat (.slice (.slice (.int .i64))), .dat (.slice (.int .i64)), .dat (.slice (.int .i64)), .dat (.int .i64), .dat (.int .i64), .dat (.int .i64), .dat (.int .i64), .dat (.int .i64)], .sl (.int .i64), .mat (.int .i64)], []⟩
def sspec_plOver_l0x0 : LS := ⟨[(5, .one (.fix (.sref 0)))], [.sl (.int .i64)], []⟩
def xspec_plOver_l0 : List (XS (Int × (List (List Int)) × (List Int) × (List Int) × Int × Int × Int × Int × Int × (List (List Int)))) := [⟨.exit 0, ⟨[5], [.slot 5], [], []⟩, sspec_plOver_l0x0, List Int, fun i y => (((), ()), (y, ()))⟩]
def spec_plOver_l0K {R : Type} (a0 : Int) (a5 : Int) (a6 : Int) (a11 : List (List Int)) (rc : Int → List Int → Option R) (fin : List Int → Option R) (a1 : Int) (a10 : List Int) : Option R :=
  cond (decide (a1 < a0))
  (cond (decide ((0 : Int) ≤ a1) && decide (a1 < (a11.length : Int)))
    (cond (decide ((0 : Int) < ((a11.getD (0 + a1.toNat) []).length : Int)))
      (cond (decide (((a11.getD (0 + a1.toNat) []).getD (0 + 0) 0) > a5))
        (cond (decide (a10.length + [a1].length ≤ 1099511627776))
          (rc (IntKind.i64.wrap (a1 + 1)) (a10 ++ [a1]))
          (none))
        (cond (decide ((1 : Int) < ((a11.getD (0 + a1.toNat) []).length : Int)))
          (cond (decide (((a11.getD (0 + a1.toNat) []).getD (0 + 1) 0) > a6))
            (cond (decide (a10.length + [a1].length ≤ 1099511627776))
              (rc (IntKind.i64.wrap (a1 + 1)) (a10 ++ [a1]))
              (none))
            (rc (IntKind.i64.wrap (a1 + 1)) a10))
          (none)))
      (none))
    (none))
  (fin a10)
def spec_plOver_l0F (a0 : Int) (a5 : Int) (a6 : Int) (a11 : List (List Int)) (r : (Int × (List Int)) → Option (List Int)) (x : Int × (List Int)) : Option (List Int) := spec_plOver_l0K a0 a5 a6 a11 (fun a1 a10 => r (a1, a10)) some x.1 x.2
theorem spec_plOver_l0c (a0 : Int) (a5 : Int) (a6 : Int) (a11 : List (List Int)) (x : Int × (List Int)) : Ct fun r => spec_plOver_l0F a0 a5 a6 a11 r x := by
  unfold spec_plOver_l0F spec_plOver_l0K
  repeat' (first | exact Ct.const | exact Ct.call | refine Ct.cond ?_ ?_ | refine Ct.bind ?_ fun _ => ?_ | refine Ct.sum (fun _ => ?_) fun _ => ?_)
def spec_plOver_l0 (a0 : Int) (a5 : Int) (a6 : Int) (a11 : List (List Int)) (a1 : Int) (a10 : List Int) : Option (List Int) := lim (spec_plOver_l0F a0 a5 a6 a11) (a1, a10)
theorem spec_plOver_l0_eq (a0 : Int) (a5 : Int) (a6 : Int) (a11 : List (List Int)) (a1 : Int) (a10 : List Int) : spec_plOver_l0 a0 a5 a6 a11 a1 a10 = spec_plOver_l0K a0 a5 a6 a11 (spec_plOver_l0 a0 a5 a6 a11) some a1 a10 := lim_eq (spec_plOver_l0c a0 a5 a6 a11) (a1, a10)
theorem spec_plOver_l0p {R : Type} (a0 : Int) (a5 : Int) (a6 : Int) (a11 : List (List Int)) {rc : Int → List Int → Option (List Int)} {rc' : Int → List Int → Option R} {fin : List Int → Option R} (hr : ∀ a1 a10, Par fin (rc a1 a10) (rc' a1 a10)) (a1 : Int) (a10 : List Int) : Par fin (spec_plOver_l0K a0 a5 a6 a11 rc some a1 a10) (spec_plOver_l0K a0 a5 a6 a11 rc' fin a1 a10) := by
  unfold spec_plOver_l0K
  repeat' (first | exact .fin | exact .none | exact hr _ _ | refine .cond ?_ ?_ | refine .bind fun _ => ?_ | refine .sum (fun _ => ?_) fun _ => ?_)
def Lspec_plOver_l0 : Loop := mkL ⟨[2, 5, 10, 11, 12], [.slot 2, .slot 5, .slot 10], [], [.own (.slot 5) (.int .i64)]⟩ sspec_plOver_l0 xspec_plOver_l0 (fun (x : (Unit × Unit × Unit × Int × Int × Unit) × (((List (List Int)) × (List Int) × (List Int) × Int × Int × Int × Int × Int × Unit) × (List Int) × (List (List Int)) × Unit)) => (x.1.2.2.2.1, (x.2.1.1, (x.2.1.2.1, (x.2.1.2.2.1, (x.2.1.2.2.2.1, (x.2.1.2.2.2.2.1, (x.2.1.2.2.2.2.2.1, (x.2.1.2.2.2.2.2.2.1, (x.2.1.2.2.2.2.2.2.2.1, x.2.2.2.1)))))))))) fun (x : (Unit × Unit × Unit × Int × Int × Unit) × (((List (List Int)) × (List Int) × (List Int) × Int × Int × Int × Int × Int × Unit) × (List Int) × (List (List Int)) × Unit)) => spec_plOver_l0 x.1.2.2.2.1 x.2.1.2.2.2.1 x.2.1.2.2.2.2.1 x.2.2.2.1 x.1.2.2.2.2.1 x.2.2.1
def spec_plOverK {R : Type} (fin : List Int → Option R) (x0 : DJob) (x1 : DPlan) : Option R :=
  (spec_plTonnes x0 x1).bind fun y1 =>
  (spec_plOver_l0 (y1.length : Int) x0.2.2.2.1.1 x0.2.2.2.1.2.1 y1 0 []).bind fun y2 =>
  fin y2
def spec_plOver (x0 : DJob) (x1 : DPlan) : Option (List Int) := spec_plOverK some x0 x1
theorem p102 {R : Type} (fin : List Int → Option R) (x0 : DJob) (x1 : DPlan) : Par fin (spec_plOverK some x0 x1) (spec_plOverK fin x0 x1) := by
  unfold spec_plOverK
  repeat' (first | exact .fin | exact .none | refine .cond ?_ ?_ | refine .bind fun _ => ?_ | refine .sum (fun _ => ?_) fun _ => ?_)
def or102 : Ora := { lo := addL 3 (Lspec_plOver_l0) lo0, fin := [] }
theorem spec_plOver_l0e (a0 : Int) (a2 : List (List Int)) (a3 : List Int) (a4 : List Int) (a5 : Int) (a6 : Int) (a7 : Int) (a8 : Int) (a9 : Int) (a11 : List (List Int)) (k : Nat) (a1 : Int) (a10 : List Int) : loopC Try.prog EL102 or102 ((loopsIn (codeOf Try.f102)).getD 0 .skip) (Lspec_plOver_l0).h (Lspec_plOver_l0).ho Try.f102.ntmps (k + 1) (sspec_plOver_l0.out (((), ((), ((), (a0, (a1, ()))))), ((a2, (a3, (a4, (a5, (a6, (a7, (a8, (a9, ())))))))), (a10, (a11, ()))))) =
    spec_plOver_l0K a0 a5 a6 a11 (fun a1 a10 => loopC Try.prog EL102 or102 ((loopsIn (codeOf Try.f102)).getD 0 .skip) (Lspec_plOver_l0).h (Lspec_plOver_l0).ho Try.f102.ntmps k (sspec_plOver_l0.out (((), ((), ((), (a0, (a1, ()))))), ((a2, (a3, (a4, (a5, (a6, (a7, (a8, (a9, ())))))))), (a10, (a11, ())))))) (fun y => some (XS.out xspec_plOver_l0 (a0, (a2, (a3, (a4, (a5, (a6, (a7, (a8, (a9, a11))))))))) y)) a1 a10 := by kernel_rfl
theorem spec_plOver_l0o : LoopOk Try.prog EL102 or102 Try.f102.ntmps ((loopsIn (codeOf Try.f102)).getD 0 .skip) (Lspec_plOver_l0) :=
  loop_lim (hs := sspec_plOver_l0) (xs := xspec_plOver_l0) (ι := fun (x : (Unit × Unit × Unit × Int × Int × Unit) × (((List (List Int)) × (List Int) × (List Int) × Int × Int × Int × Int × Int × Unit) × (List Int) × (List (List Int)) × Unit)) => (x.1.2.2.2.1, (x.2.1.1, (x.2.1.2.1, (x.2.1.2.2.1, (x.2.1.2.2.2.1, (x.2.1.2.2.2.2.1, (x.2.1.2.2.2.2.2.1, (x.2.1.2.2.2.2.2.2.1, (x.2.1.2.2.2.2.2.2.2.1, x.2.2.2.1)))))))))) (φ := fun (x : (Unit × Unit × Unit × Int × Int × Unit) × (((List (List Int)) × (List Int) × (List Int) × Int × Int × Int × Int × Int × Unit) × (List Int) × (List (List Int)) × Unit)) => (x.1.2.2.2.2.1, x.2.2.1)) (ψ := fun (i : Int × (List (List Int)) × (List Int) × (List Int) × Int × Int × Int × Int × Int × (List (List Int))) (v : Int × (List Int)) => (((), ((), ((), (i.1, (v.1, ()))))), ((i.2.1, (i.2.2.1, (i.2.2.2.1, (i.2.2.2.2.1, (i.2.2.2.2.2.1, (i.2.2.2.2.2.2.1, (i.2.2.2.2.2.2.2.1, (i.2.2.2.2.2.2.2.2.1, ())))))))), (v.2, (i.2.2.2.2.2.2.2.2.2, ()))))) (F := fun (i : Int × (List (List Int)) × (List Int) × (List Int) × Int × Int × Int × Int × Int × (List (List Int))) => spec_plOver_l0F i.1 i.2.2.2.2.1 i.2.2.2.2.2.1 i.2.2.2.2.2.2.2.2.2) (fun _ => rfl) fun i k hk v => Par.of_eq (spec_plOver_l0e i.1 i.2.1 i.2.2.1 i.2.2.2.1 i.2.2.2.2.1 i.2.2.2.2.2.1 i.2.2.2.2.2.2.1 i.2.2.2.2.2.2.2.1 i.2.2.2.2.2.2.2.2.1 i.2.2.2.2.2.2.2.2.2 k v.1 v.2) (spec_plOver_l0p i.1 i.2.2.2.2.1 i.2.2.2.2.2.1 i.2.2.2.2.2.2.2.2.2 (fun a1 a10 => hk (a1, a10)) v.1 v.2)
def c102 : Callee := mkC [.agg [.ro TJob], .agg [.ro TPlan]] 1 [.one (.sl (.int .i64))] fun x => spec_plOver x.1 x.2
theorem e102 (x : PK.dens [.agg [.ro TJob], .agg [.ro TPlan]]) : evalFn Try.prog EL102 or102 Try.f102 (PK.outs [.agg [.ro TJob], .agg [.ro TPlan]] x) =
    spec_plOverK (fun y => some (tupOf ((PK.outs [.one (.sl (.int .i64))] y).take 1), (PK.outs [.one (.sl (.int .i64))] y).drop 1)) x.1 x.2 := by kernel_rfl
theorem o102 : LoOk Try.prog EL102 or102 Try.f102.ntmps (loopsIn (codeOf Try.f102)) :=
  LoOk.mk (m := 1) (by kernel_rfl) fun i hi => match i, hi with
    | 0, _ => ⟨Lspec_plOver_l0, by kernel_rfl, spec_plOver_l0o⟩
    | i + 1, hi => absurd hi (by omega)
theorem k102 : CalleeOk Try.prog 102 c102 := callee_mk Try.func102 (code := codeOf Try.f102) (by kernel_rfl) vL102 mixed o102 fun x y h => (e102 x).trans (p102 _ x.1 x.2 y h)

/-- spec.plFeasible -/
def EL69 : Nat → Option Callee := addE 102 c102 (addE 101 c101 env0)
theorem vL69 : EnvOk Try.prog EL69 := (EnvOk.nil.add Try.func101 rfl (by kernel_rfl) k101).add Try.func102 rfl (by kernel_rfl) k102
def spec_plFeasibleK {R : Type} (fin : Bool → Option R) (x0 : DJob) (x1 : DPlan) : Option R :=
  (spec_plFaults x0 x1).bind fun y1 =>
  cond ((y1.length : Int) == 0)
  ((spec_plOver x0 x1).bind fun y2 =>
    fin ((y2.length : Int) == 0))
  (fin false)
def spec_plFeasible (x0 : DJob) (x1 : DPlan) : Option (Bool) := spec_plFeasibleK some x0 x1
theorem p69 {R : Type} (fin : Bool → Option R) (x0 : DJob) (x1 : DPlan) : Par fin (spec_plFeasibleK some x0 x1) (spec_plFeasibleK fin x0 x1) := by
  unfold spec_plFeasibleK
  repeat' (first | exact .fin | exact .none | refine .cond ?_ ?_ | refine .bind fun _ => ?_ | refine .sum (fun _ => ?_) fun _ => ?_)
def c69 : Callee := mkC [.agg [.ro TJob], .agg [.ro TPlan]] 1 [.one (.ro .bool)] fun x => spec_plFeasible x.1 x.2
theorem e69 (x : PK.dens [.agg [.ro TJob], .agg [.ro TPlan]]) : evalFn Try.prog EL69 or0 Try.f69 (PK.outs [.agg [.ro TJob], .agg [.ro TPlan]] x) =
    spec_plFeasibleK (fun y => some (tupOf ((PK.outs [.one (.ro .bool)] y).take 1), (PK.outs [.one (.ro .bool)] y).drop 1)) x.1 x.2 := by kernel_rfl
theorem k69 : CalleeOk Try.prog 69 c69 := callee_mk Try.func69 (code := codeOf Try.f69) (by kernel_rfl) vL69 mixed (LoOk.nil (by kernel_rfl)) fun x y h => (e69 x).trans (p69 _ x.1 x.2 y h)

/-- impl.copyPlan -/
def EL78 : Nat → Option Callee := env0
theorem vL78 : EnvOk Try.prog EL78 := EnvOk.nil
def impl_copyPlanK {R : Type} (fin : Int × (List Int) → Option R) (x0 : DPlan) : Option R :=
  cond (decide (([] : List Int).length + x0.2.1.length ≤ 1099511627776))
  (fin (x0.1, ([] : List Int) ++ x0.2.1))
  (none)
def impl_copyPlan (x0 : DPlan) : Option (Int × (List Int)) := impl_copyPlanK some x0
theorem p78 {R : Type} (fin : Int × (List Int) → Option R) (x0 : DPlan) : Par fin (impl_copyPlanK some x0) (impl_copyPlanK fin x0) := by
  unfold impl_copyPlanK
  repeat' (first | exact .fin | exact .none | refine .cond ?_ ?_ | refine .bind fun _ => ?_ | refine .sum (fun _ => ?_) fun _ => ?_)
def c78 : Callee := mkC [.agg [.ro TPlan]] 1 [.agg [.ro (.int .i64), .sl (.int .i64)]] fun x => impl_copyPlan x
theorem e78 (x : PK.dens [.agg [.ro TPlan]]) : evalFn Try.prog EL78 or0 Try.f78 (PK.outs [.agg [.ro TPlan]] x) =
    impl_copyPlanK (fun y => some (tupOf ((PK.outs [.agg [.ro (.int .i64), .sl (.int .i64)]] y).take 1), (PK.outs [.agg [.ro (.int .i64), .sl (.int .i64)]] y).drop 1)) x := by kernel_rfl
theorem k78 : CalleeOk Try.prog 78 c78 := callee_mk Try.func78 (code := codeOf Try.f78) (by kernel_rfl) vL78 mixed (LoOk.nil (by kernel_rfl)) fun x y h => (e78 x).trans (p78 _ x y h)
end
end Go.OAI
