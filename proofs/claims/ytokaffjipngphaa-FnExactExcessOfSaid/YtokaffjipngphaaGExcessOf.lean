/- Contracts: GExcessOf. -/
import Derived.Test.YtokaffjipngphaaGA
import Derived.Test.YtokaffjipngphaaGM
import Derived.Test.YtokaffjipngphaaGRb
namespace Go.OAI
open Go.Proofs
set_option linter.unusedVariables false
noncomputable section


/-- spec.ExcessOf -/
def EL28 : Nat → Option Callee := addE 63 c63 (addE 56 c56 env0)
theorem vL28 : EnvOk Try.prog EL28 := (EnvOk.nil.add Try.func56 rfl (by kernel_rfl) k56).add Try.func63 rfl (by kernel_rfl) k63
def spec_ExcessOfK {R : Type} (fin : (List Int) × Bool → Option R) (x0 : DJob) (x1 : List Int) : Option R :=
  (spec_reGood x0 x1).bind fun y1 =>
  cond (!y1)
  (fin ([], false))
  ((spec_reExcess x0 x1).bind fun y2 =>
    fin (y2, true))
def spec_ExcessOf (x0 : DJob) (x1 : List Int) : Option ((List Int) × Bool) := spec_ExcessOfK some x0 x1
theorem p28 {R : Type} (fin : (List Int) × Bool → Option R) (x0 : DJob) (x1 : List Int) : Par fin (spec_ExcessOfK some x0 x1) (spec_ExcessOfK fin x0 x1) := by
  unfold spec_ExcessOfK
  repeat' (first | exact .fin | exact .none | refine .cond ?_ ?_ | refine .bind fun _ => ?_ | refine .sum (fun _ => ?_) fun _ => ?_)
def or28 : Ora := { lo := lo0, fin := [.own (.slot 4) (.int .i64)] }
def c28 : Callee := mkC [.agg [.ro TJob], .one (.ro (.slice (.int .i64)))] 2 [.one (.sl (.int .i64)), .one (.ro .bool)] fun x => spec_ExcessOf x.1 x.2
theorem e28 (x : PK.dens [.agg [.ro TJob], .one (.ro (.slice (.int .i64)))]) : evalFn Try.prog EL28 or28 Try.f28 (PK.outs [.agg [.ro TJob], .one (.ro (.slice (.int .i64)))] x) =
    spec_ExcessOfK (fun y => some (tupOf ((PK.outs [.one (.sl (.int .i64)), .one (.ro .bool)] y).take 2), (PK.outs [.one (.sl (.int .i64)), .one (.ro .bool)] y).drop 2)) x.1 x.2 := by kernel_rfl
theorem k28 : CalleeOk Try.prog 28 c28 := callee_mk Try.func28 (code := codeOf Try.f28) (by kernel_rfl) vL28 mixed (LoOk.nil (by kernel_rfl)) fun x y h => (e28 x).trans (p28 _ x.1 x.2 y h)

/-- impl.ExcessOf -/
def EL29 : Nat → Option Callee := addE 64 c64 (addE 58 c58 (addE 52 c52 env0))
theorem vL29 : EnvOk Try.prog EL29 := ((EnvOk.nil.add Try.func52 rfl (by kernel_rfl) k52).add Try.func58 rfl (by kernel_rfl) k58).add Try.func64 rfl (by kernel_rfl) k64
def impl_ExcessOfK {R : Type} (fin : (List Int) × Bool → Option R) (x0 : DJob) (x1 : List Int) : Option R :=
  (impl_IsJob x0).bind fun y1 =>
  cond (!y1)
  (fin ([], false))
  ((impl_areMultipliers x0 x1).bind fun y2 =>
    cond (!y2)
    (fin ([], false))
    ((impl_excessOf x0 x1).bind fun y3 =>
      fin (y3, true)))
def impl_ExcessOf (x0 : DJob) (x1 : List Int) : Option ((List Int) × Bool) := impl_ExcessOfK some x0 x1
theorem p29 {R : Type} (fin : (List Int) × Bool → Option R) (x0 : DJob) (x1 : List Int) : Par fin (impl_ExcessOfK some x0 x1) (impl_ExcessOfK fin x0 x1) := by
  unfold impl_ExcessOfK
  repeat' (first | exact .fin | exact .none | refine .cond ?_ ?_ | refine .bind fun _ => ?_ | refine .sum (fun _ => ?_) fun _ => ?_)
def or29 : Ora := { lo := lo0, fin := [.own (.slot 4) (.int .i64)] }
def c29 : Callee := mkC [.agg [.ro TJob], .one (.ro (.slice (.int .i64)))] 2 [.one (.sl (.int .i64)), .one (.ro .bool)] fun x => impl_ExcessOf x.1 x.2
theorem e29 (x : PK.dens [.agg [.ro TJob], .one (.ro (.slice (.int .i64)))]) : evalFn Try.prog EL29 or29 Try.f29 (PK.outs [.agg [.ro TJob], .one (.ro (.slice (.int .i64)))] x) =
    impl_ExcessOfK (fun y => some (tupOf ((PK.outs [.one (.sl (.int .i64)), .one (.ro .bool)] y).take 2), (PK.outs [.one (.sl (.int .i64)), .one (.ro .bool)] y).drop 2)) x.1 x.2 := by kernel_rfl
theorem k29 : CalleeOk Try.prog 29 c29 := callee_mk Try.func29 (code := codeOf Try.f29) (by kernel_rfl) vL29 mixed (LoOk.nil (by kernel_rfl)) fun x y h => (e29 x).trans (p29 _ x.1 x.2 y h)

/-- laws.FnExactExcessOf -/
def EL6 : Nat → Option Callee := addE 30 c30 (addE 23 c23 (addE 22 c22 (addE 16 c16 (addE 21 c21 (addE 29 c29 (addE 28 c28 (addE 18 c18 (addE 14 c14 (addE 12 c12 env0)))))))))
theorem vL6 : EnvOk Try.prog EL6 := (((((((((EnvOk.nil.add Try.func12 rfl (by kernel_rfl) k12).add Try.func14 rfl (by kernel_rfl) k14).add Try.func18 rfl (by kernel_rfl) k18).add Try.func28 rfl (by kernel_rfl) k28).add Try.func29 rfl (by kernel_rfl) k29).add Try.func21 rfl (by kernel_rfl) k21).add Try.func16 rfl (by kernel_rfl) k16).add Try.func22 rfl (by kernel_rfl) k22).add Try.func23 rfl (by kernel_rfl) k23).add Try.func30 rfl (by kernel_rfl) k30
def laws_FnExactExcessOfK {R : Type} (fin : Bool → Option R) (x0 : DJob) (x1 : List Int) : Option R :=
  cond (decide ((x1.length : Int) > 1048576))
  (fin true)
  ((laws_szJob x0 1048576).bind fun y1 =>
    cond (decide (y1 < 0))
    (fin true)
    ((laws_toJob x0).bind fun y2 =>
      (laws_toIntS x1).bind fun y3 =>
      (spec_ExcessOf (y2.1, (y2.2.1, (y2.2.2.1, ((y2.2.2.2.1, (y2.2.2.2.2.1, ())), (y2.2.2.2.2.2.1, (y2.2.2.2.2.2.2.1, (y2.2.2.2.2.2.2.2, ()))))))) y3).bind fun y4 =>
      (laws_toJob x0).bind fun y5 =>
      (laws_toIntS x1).bind fun y6 =>
      (impl_ExcessOf (y5.1, (y5.2.1, (y5.2.2.1, ((y5.2.2.2.1, (y5.2.2.2.2.1, ())), (y5.2.2.2.2.2.1, (y5.2.2.2.2.2.2.1, (y5.2.2.2.2.2.2.2, ()))))))) y6).bind fun y7 =>
      (laws_eqIntS y7.1 y4.1).bind fun y8 =>
      cond (!y8)
      (fin false)
      (cond (!(y7.2 == y4.2))
        (fin false)
        ((laws_toJob x0).bind fun y9 =>
          (laws_eqJob (y5.1, (y5.2.1, (y5.2.2.1, ((y5.2.2.2.1, (y5.2.2.2.2.1, ())), (y5.2.2.2.2.2.1, (y5.2.2.2.2.2.2.1, (y5.2.2.2.2.2.2.2, ()))))))) (y9.1, (y9.2.1, (y9.2.2.1, ((y9.2.2.2.1, (y9.2.2.2.2.1, ())), (y9.2.2.2.2.2.1, (y9.2.2.2.2.2.2.1, (y9.2.2.2.2.2.2.2, ())))))))).bind fun y10 =>
          cond (!y10)
          (fin false)
          ((laws_toIntS x1).bind fun y11 =>
            (laws_eqIntS y6 y11).bind fun y12 =>
            cond (!y12)
            (fin false)
            ((laws_markJob y5 1).bind fun y13 =>
              (laws_markIntS y6 y13.1).bind fun y14 =>
              cond (decide (y14.1 < 0))
              (fin false)
              ((laws_eqIntS y7.1 y4.1).bind fun y15 =>
                cond (!y15)
                (fin false)
                (cond (!(y7.2 == y4.2))
                  (fin false)
                  ((laws_markIntS y7.1 1).bind fun y16 =>
                    (laws_heldIntS y16.2 1).bind fun y17 =>
                    cond (decide (y17 < 0))
                    (fin false)
                    (cond (y17 != y16.1)
                      (fin false)
                      ((laws_toJob x0).bind fun y18 =>
                        (laws_toIntS x1).bind fun y19 =>
                        (impl_ExcessOf (y18.1, (y18.2.1, (y18.2.2.1, ((y18.2.2.2.1, (y18.2.2.2.2.1, ())), (y18.2.2.2.2.2.1, (y18.2.2.2.2.2.2.1, (y18.2.2.2.2.2.2.2, ()))))))) y19).bind fun y20 =>
                        (laws_eqIntS y20.1 y4.1).bind fun y21 =>
                        cond (!y21)
                        (fin false)
                        (cond (!(y20.2 == y4.2))
                          (fin false)
                          ((laws_heldIntS y16.2 1).bind fun y22 =>
                            cond (decide (y22 < 0))
                            (fin false)
                            (cond (y22 != y16.1)
                              (fin false)
                              (fin true)))))))))))))))
def laws_FnExactExcessOf (x0 : DJob) (x1 : List Int) : Option (Bool) := laws_FnExactExcessOfK some x0 x1
theorem p6 {R : Type} (fin : Bool → Option R) (x0 : DJob) (x1 : List Int) : Par fin (laws_FnExactExcessOfK some x0 x1) (laws_FnExactExcessOfK fin x0 x1) := by
  unfold laws_FnExactExcessOfK
  repeat' (first | exact .fin | exact .none | refine .cond ?_ ?_ | refine .bind fun _ => ?_ | refine .sum (fun _ => ?_) fun _ => ?_)
def c6 : Callee := mkC [.agg [.ro TJob], .one (.ro (.slice (.int .i64)))] 1 [.one (.ro .bool)] fun x => laws_FnExactExcessOf x.1 x.2
theorem e6 (x : PK.dens [.agg [.ro TJob], .one (.ro (.slice (.int .i64)))]) : evalFn Try.prog EL6 or0 Try.f6 (PK.outs [.agg [.ro TJob], .one (.ro (.slice (.int .i64)))] x) =
    laws_FnExactExcessOfK (fun y => some (tupOf ((PK.outs [.one (.ro .bool)] y).take 1), (PK.outs [.one (.ro .bool)] y).drop 1)) x.1 x.2 := by kernel_rfl
theorem k6 : CalleeOk Try.prog 6 c6 := callee_mk Try.func6 (code := codeOf Try.f6) (by kernel_rfl) vL6 mixed (LoOk.nil (by kernel_rfl)) fun x y h => (e6 x).trans (p6 _ x.1 x.2 y h)
end
end Go.OAI
