/- Contracts: GMeetsWanted. -/
import Derived.Test.YtjidcahgobilhaaGIsWanted
import Derived.Test.YtjidcahgobilhaaGAreBins
import Derived.Test.YtjidcahgobilhaaGBlendSums
namespace Go.OAI
open Go.Proofs
set_option linter.unusedVariables false
noncomputable section


/-- spec.blMeets -/
def EL41 : Nat → Option Callee := addE 31 c31 env0
theorem vL41 : EnvOk Try.prog EL41 := EnvOk.nil.add Try.func31 rfl (by kernel_rfl) k31
def spec_blMeetsK {R : Type} (fin : Bool → Option R) (x0 : DWanted) (x1 : List Int) : Option R :=
  (lat x1 0).bind fun e1 =>
  cond (e1 == x0.1)
  ((lat x1 1).bind fun e2 =>
    (spec_l1In e2 (IntKind.i64.wrap (x0.2.1 * x0.1)) (IntKind.i64.wrap (x0.2.2.1 * x0.1))).bind fun y3 =>
    cond (y3)
    ((lat x1 2).bind fun e4 =>
      fin (decide (e4 ≤ (IntKind.i64.wrap (x0.2.2.2.1 * x0.1)))))
    (fin false))
  (fin false)
def spec_blMeets (x0 : DWanted) (x1 : List Int) : Option (Bool) := spec_blMeetsK some x0 x1
theorem p41 {R : Type} (fin : Bool → Option R) (x0 : DWanted) (x1 : List Int) : Par fin (spec_blMeetsK some x0 x1) (spec_blMeetsK fin x0 x1) := by
  unfold spec_blMeetsK
  repeat' (first | exact .fin | exact .none | refine .cond ?_ ?_ | refine .bind fun _ => ?_ | refine .sum (fun _ => ?_) fun _ => ?_)
def c41 : Callee := mkC [.agg [.ro TWanted], .one (.ro (.slice (.int .i64)))] 1 [.one (.ro .bool)] fun x => spec_blMeets x.1 x.2
theorem e41 (x : PK.dens [.agg [.ro TWanted], .one (.ro (.slice (.int .i64)))]) : evalFn Try.prog EL41 or0 Try.f41 (PK.outs [.agg [.ro TWanted], .one (.ro (.slice (.int .i64)))] x) =
    spec_blMeetsK (fun y => some (tupOf ((PK.outs [.one (.ro .bool)] y).take 1), (PK.outs [.one (.ro .bool)] y).drop 1)) x.1 x.2 := by kernel_rfl
theorem k41 : CalleeOk Try.prog 41 c41 := callee_mk Try.func41 (code := codeOf Try.f41) (by kernel_rfl) vL41 mixed (LoOk.nil (by kernel_rfl)) fun x y h => (e41 x).trans (p41 _ x.1 x.2 y h)

/-- spec.MeetsWanted -/
def EL24 : Nat → Option Callee := addE 41 c41 (addE 38 c38 (addE 37 c37 (addE 30 c30 env0)))
theorem vL24 : EnvOk Try.prog EL24 := (((EnvOk.nil.add Try.func30 rfl (by kernel_rfl) k30).add Try.func37 rfl (by kernel_rfl) k37).add Try.func38 rfl (by kernel_rfl) k38).add Try.func41 rfl (by kernel_rfl) k41
def spec_MeetsWantedK {R : Type} (fin : Bool × Bool → Option R) (x0 : List DWanted) (x1 : DWanted) (x2 : List Int) : Option R :=
  (spec_blWanted x1).bind fun y1 =>
  cond (!y1)
  (fin (false, false))
  ((spec_blParts x0 x2).bind fun y2 =>
    cond (!y2)
    (fin (false, false))
    ((spec_blSums x0 x2).bind fun y3 =>
      (spec_blMeets x1 y3).bind fun y4 =>
      fin (y4, true)))
def spec_MeetsWanted (x0 : List DWanted) (x1 : DWanted) (x2 : List Int) : Option (Bool × Bool) := spec_MeetsWantedK some x0 x1 x2
theorem p24 {R : Type} (fin : Bool × Bool → Option R) (x0 : List DWanted) (x1 : DWanted) (x2 : List Int) : Par fin (spec_MeetsWantedK some x0 x1 x2) (spec_MeetsWantedK fin x0 x1 x2) := by
  unfold spec_MeetsWantedK
  repeat' (first | exact .fin | exact .none | refine .cond ?_ ?_ | refine .bind fun _ => ?_ | refine .sum (fun _ => ?_) fun _ => ?_)
def c24 : Callee := mkC [.one (.ro (.slice TWanted)), .agg [.ro TWanted], .one (.ro (.slice (.int .i64)))] 2 [.one (.ro .bool), .one (.ro .bool)] fun x => spec_MeetsWanted x.1 x.2.1 x.2.2
theorem e24 (x : PK.dens [.one (.ro (.slice TWanted)), .agg [.ro TWanted], .one (.ro (.slice (.int .i64)))]) : evalFn Try.prog EL24 or0 Try.f24 (PK.outs [.one (.ro (.slice TWanted)), .agg [.ro TWanted], .one (.ro (.slice (.int .i64)))] x) =
    spec_MeetsWantedK (fun y => some (tupOf ((PK.outs [.one (.ro .bool), .one (.ro .bool)] y).take 2), (PK.outs [.one (.ro .bool), .one (.ro .bool)] y).drop 2)) x.1 x.2.1 x.2.2 := by kernel_rfl
theorem k24 : CalleeOk Try.prog 24 c24 := callee_mk Try.func24 (code := codeOf Try.f24) (by kernel_rfl) vL24 mixed (LoOk.nil (by kernel_rfl)) fun x y h => (e24 x).trans (p24 _ x.1 x.2.1 x.2.2 y h)

/-- impl.meetsWanted -/
def EL42 : Nat → Option Callee := addE 40 c40 env0
theorem vL42 : EnvOk Try.prog EL42 := EnvOk.nil.add Try.func40 rfl (by kernel_rfl) k40
def impl_meetsWantedK {R : Type} (fin : Bool → Option R) (x0 : List DWanted) (x1 : DWanted) (x2 : List Int) : Option R :=
  (impl_blendSums x0 x2).bind fun y1 =>
  cond (y1.1 == x1.1)
  (cond (decide (y1.2.1 ≥ (IntKind.i64.wrap (x1.2.1 * x1.1))))
    (cond (decide (y1.2.1 ≤ (IntKind.i64.wrap (x1.2.2.1 * x1.1))))
      (fin (decide (y1.2.2.1 ≤ (IntKind.i64.wrap (x1.2.2.2.1 * x1.1)))))
      (fin false))
    (fin false))
  (fin false)
def impl_meetsWanted (x0 : List DWanted) (x1 : DWanted) (x2 : List Int) : Option (Bool) := impl_meetsWantedK some x0 x1 x2
theorem p42 {R : Type} (fin : Bool → Option R) (x0 : List DWanted) (x1 : DWanted) (x2 : List Int) : Par fin (impl_meetsWantedK some x0 x1 x2) (impl_meetsWantedK fin x0 x1 x2) := by
  unfold impl_meetsWantedK
  repeat' (first | exact .fin | exact .none | refine .cond ?_ ?_ | refine .bind fun _ => ?_ | refine .sum (fun _ => ?_) fun _ => ?_)
def c42 : Callee := mkC [.one (.ro (.slice TWanted)), .agg [.ro TWanted], .one (.ro (.slice (.int .i64)))] 1 [.one (.ro .bool)] fun x => impl_meetsWanted x.1 x.2.1 x.2.2
theorem e42 (x : PK.dens [.one (.ro (.slice TWanted)), .agg [.ro TWanted], .one (.ro (.slice (.int .i64)))]) : evalFn Try.prog EL42 or0 Try.f42 (PK.outs [.one (.ro (.slice TWanted)), .agg [.ro TWanted], .one (.ro (.slice (.int .i64)))] x) =
    impl_meetsWantedK (fun y => some (tupOf ((PK.outs [.one (.ro .bool)] y).take 1), (PK.outs [.one (.ro .bool)] y).drop 1)) x.1 x.2.1 x.2.2 := by kernel_rfl
theorem k42 : CalleeOk Try.prog 42 c42 := callee_mk Try.func42 (code := codeOf Try.f42) (by kernel_rfl) vL42 mixed (LoOk.nil (by kernel_rfl)) fun x y h => (e42 x).trans (p42 _ x.1 x.2.1 x.2.2 y h)

/-- impl.MeetsWanted -/
def EL25 : Nat → Option Callee := addE 42 c42 (addE 39 c39 (addE 12 c12 (addE 18 c18 env0)))
theorem vL25 : EnvOk Try.prog EL25 := (((EnvOk.nil.add Try.func18 rfl (by kernel_rfl) k18).add Try.func12 rfl (by kernel_rfl) k12).add Try.func39 rfl (by kernel_rfl) k39).add Try.func42 rfl (by kernel_rfl) k42
def impl_MeetsWantedK {R : Type} (fin : Bool × Bool → Option R) (x0 : List DWanted) (x1 : DWanted) (x2 : List Int) : Option R :=
  (impl_AreBins x0).bind fun y1 =>
  cond (!y1)
  (fin (false, false))
  ((impl_IsWanted x1).bind fun y2 =>
    cond (!y2)
    (fin (false, false))
    ((impl_areParts x0 x2).bind fun y3 =>
      cond (!y3)
      (fin (false, false))
      ((impl_meetsWanted x0 x1 x2).bind fun y4 =>
        fin (y4, true))))
def impl_MeetsWanted (x0 : List DWanted) (x1 : DWanted) (x2 : List Int) : Option (Bool × Bool) := impl_MeetsWantedK some x0 x1 x2
theorem p25 {R : Type} (fin : Bool × Bool → Option R) (x0 : List DWanted) (x1 : DWanted) (x2 : List Int) : Par fin (impl_MeetsWantedK some x0 x1 x2) (impl_MeetsWantedK fin x0 x1 x2) := by
  unfold impl_MeetsWantedK
  repeat' (first | exact .fin | exact .none | refine .cond ?_ ?_ | refine .bind fun _ => ?_ | refine .sum (fun _ => ?_) fun _ => ?_)
def c25 : Callee := mkC [.one (.ro (.slice TWanted)), .agg [.ro TWanted], .one (.ro (.slice (.int .i64)))] 2 [.one (.ro .bool), .one (.ro .bool)] fun x => impl_MeetsWanted x.1 x.2.1 x.2.2
theorem e25 (x : PK.dens [.one (.ro (.slice TWanted)), .agg [.ro TWanted], .one (.ro (.slice (.int .i64)))]) : evalFn Try.prog EL25 or0 Try.f25 (PK.outs [.one (.ro (.slice TWanted)), .agg [.ro TWanted], .one (.ro (.slice (.int .i64)))] x) =
    impl_MeetsWantedK (fun y => some (tupOf ((PK.outs [.one (.ro .bool), .one (.ro .bool)] y).take 2), (PK.outs [.one (.ro .bool), .one (.ro .bool)] y).drop 2)) x.1 x.2.1 x.2.2 := by kernel_rfl
theorem k25 : CalleeOk Try.prog 25 c25 := callee_mk Try.func25 (code := codeOf Try.f25) (by kernel_rfl) vL25 mixed (LoOk.nil (by kernel_rfl)) fun x y h => (e25 x).trans (p25 _ x.1 x.2.1 x.2.2 y h)

/-- laws.FnExactMeetsWanted -/
def EL7 : Nat → Option Callee := addE 23 c23 (addE 19 c19 (addE 25 c25 (addE 24 c24 (addE 21 c21 (addE 11 c11 (addE 17 c17 (addE 15 c15 env0)))))))
theorem vL7 : EnvOk Try.prog EL7 := (((((((EnvOk.nil.add Try.func15 rfl (by kernel_rfl) k15).add Try.func17 rfl (by kernel_rfl) k17).add Try.func11 rfl (by kernel_rfl) k11).add Try.func21 rfl (by kernel_rfl) k21).add Try.func24 rfl (by kernel_rfl) k24).add Try.func25 rfl (by kernel_rfl) k25).add Try.func19 rfl (by kernel_rfl) k19).add Try.func23 rfl (by kernel_rfl) k23
def laws_FnExactMeetsWantedK {R : Type} (fin : Bool → Option R) (x0 : List DWanted) (x1 : DWanted) (x2 : List Int) : Option R :=
  cond (decide ((x2.length : Int) > 1048576))
  (fin true)
  ((laws_szBinS x0 1048576).bind fun y1 =>
    cond (decide (y1 < 0))
    (fin true)
    ((laws_toBinS x0).bind fun y2 =>
      (laws_toWanted x1).bind fun y3 =>
      (laws_toIntS x2).bind fun y4 =>
      (spec_MeetsWanted y2 y3 y4).bind fun y5 =>
      (laws_toBinS x0).bind fun y6 =>
      (laws_toIntS x2).bind fun y7 =>
      (laws_toWanted x1).bind fun y8 =>
      (impl_MeetsWanted y6 y8 y7).bind fun y9 =>
      cond (!(y9.1 == y5.1))
      (fin false)
      (cond (!(y9.2 == y5.2))
        (fin false)
        ((laws_toBinS x0).bind fun y10 =>
          (laws_eqBinS y6 y10).bind fun y11 =>
          cond (!y11)
          (fin false)
          ((laws_toIntS x2).bind fun y12 =>
            (laws_eqIntS y7 y12).bind fun y13 =>
            cond (!y13)
            (fin false)
            (fin true))))))
def laws_FnExactMeetsWanted (x0 : List DWanted) (x1 : DWanted) (x2 : List Int) : Option (Bool) := laws_FnExactMeetsWantedK some x0 x1 x2
theorem p7 {R : Type} (fin : Bool → Option R) (x0 : List DWanted) (x1 : DWanted) (x2 : List Int) : Par fin (laws_FnExactMeetsWantedK some x0 x1 x2) (laws_FnExactMeetsWantedK fin x0 x1 x2) := by
  unfold laws_FnExactMeetsWantedK
  repeat' (first | exact .fin | exact .none | refine .cond ?_ ?_ | refine .bind fun _ => ?_ | refine .sum (fun _ => ?_) fun _ => ?_)
def c7 : Callee := mkC [.one (.ro (.slice TWanted)), .agg [.ro TWanted], .one (.ro (.slice (.int .i64)))] 1 [.one (.ro .bool)] fun x => laws_FnExactMeetsWanted x.1 x.2.1 x.2.2
theorem e7 (x : PK.dens [.one (.ro (.slice TWanted)), .agg [.ro TWanted], .one (.ro (.slice (.int .i64)))]) : evalFn Try.prog EL7 or0 Try.f7 (PK.outs [.one (.ro (.slice TWanted)), .agg [.ro TWanted], .one (.ro (.slice (.int .i64)))] x) =
    laws_FnExactMeetsWantedK (fun y => some (tupOf ((PK.outs [.one (.ro .bool)] y).take 1), (PK.outs [.one (.ro .bool)] y).drop 1)) x.1 x.2.1 x.2.2 := by kernel_rfl
theorem k7 : CalleeOk Try.prog 7 c7 := callee_mk Try.func7 (code := codeOf Try.f7) (by kernel_rfl) vL7 mixed (LoOk.nil (by kernel_rfl)) fun x y h => (e7 x).trans (p7 _ x.1 x.2.1 x.2.2 y h)
end
end Go.OAI
