/- The program's TrimPlan returns what the reference's returns. -/
import Derived.Test.YtokaffjipngphaaLTrimPlan
import Derived.Test.YtokaffjipngphaaR2
import Derived.Test.YtokaffjipngphaaRows
namespace Go.Proofs.Ytokaffjipngphaa
open Go.ChangeShapes Go.WideShapes Go.ChangeAt Go.RowKit
open Go.OAI

theorem own : ownKnob Try.prog.godebug = none := by kernel_rfl
theorem laidOut : laidOutB Try.prog = true := by kernel_rfl

set_option maxRecDepth 100000 in
theorem lifted11 (os : Os) (started : os.Started) (H : Type) (enc : TypeId × Value → H) :
    ReturnsInHanded {} Try.checked os 11 .any (Rows.fnExactTrimPlanSpec.pre6 enc Try.prog Try.f11 Rows.fnExactTrimPlanRow.domain false) (Rows.fnExactTrimPlanSpec.post enc Try.prog Try.f11 false true false false) := by
  refine returnsInHanded_of_change (C := Try.checked) own started (by kernel_rfl) Try.func11
    (ChangeSpec.witness6 (enc := enc) (C := Try.checked) false ⟨#[], #[.agg #[.slice none 0 0, .slice none 0 0, .slice none 0 0, .int .i64 0, .int .i64 0, .int .i64 0, .int .i64 0, .int .i64 0], .agg #[.int .i64 0, .slice none 0 0]], []⟩ 8 (by kernel_rfl) (by kernel_rfl) (by kernel_rfl) (by kernel_rfl)) ?_
  intro W base args ds gs before hval0 hW hcnd _
  have hval : ∀ (j : Nat) t v, Try.f11.params[j]? = some t → args[j]? = some v → Value.okWide Try.prog W .any base t v := hval0
  have hW' := hW
  obtain ⟨p, q, hA0, hV, rfl, hfz, hnd⟩ := hW
  have hA : DataW.TrodAll enc Try.prog W 0 (fun _ => true) true [27, 58] args.toList ds p := hA0
  obtain ⟨v0, vs0, d0, ds0, p0, q0, hargs, rfl, rfl, h0, r0⟩ := trodAll_cons hA
  obtain ⟨v1, vs1, d1, ds1, p1, q1, rfl, rfl, rfl, h1, r1⟩ := trodAll_cons r0
  obtain ⟨rfl, rfl, rfl⟩ := trodAll_nil r1
  obtain rfl : args = #[v0, v1] := by cases args; simp_all
  obtain ⟨rfl, rfl⟩ := trodVars_none hV
  obtain ⟨x0, w0, a0⟩ := open_arg (n := 6) (T := TJob) (by kernel_rfl) (hval 0 27 v0 rfl rfl) h0
  obtain ⟨x1, w1, a1⟩ := open_arg (n := 6) (T := TPlan) (by kernel_rfl) (hval 1 58 v1 rfl rfl) h1
  clear hA0 hval0
  simp only [List.append_nil] at hW'
  refine (law_walk k11 (vs := [v0, v1]) (ds := [argA Try.prog 27 TJob x0, argA Try.prog 58 TPlan x1]) (x := (x0, x1)) (y := true) rfl (fun i v d hv hd => ?_) (by kernel_rfl) (TrimPlan_law x0 x1 w0 w1) rfl).mono fun e W' ⟨he, hg, hs⟩ => ?_
  · match i with
    | 0 => cases hv; cases hd; exact a0
    | 1 => cases hv; cases hd; exact a1
    | i + 2 => simp at hv
  subst he
  exact ⟨_, rfl, post_of_same (pa := p0 ++ (p1 ++ [])) (pv := []) hW' (fun _ _ _ => trodAll_mk1 (shut_bool (t := 4) (by kernel_rfl) _)) (fun sp hsp => by
      have t0 := WideElems.Trod_stays laidOut (by kernel_rfl) (of_decide_eq_true (by kernel_rfl)) h0 (fun x hx => same_of hs (hW'.lt x (by simp [hx]))) (fun x hx => hsp x (by simp [hx]))
      have t1 := WideElems.Trod_stays laidOut (by kernel_rfl) (of_decide_eq_true (by kernel_rfl)) h1 (fun x hx => same_of hs (hW'.lt x (by simp [hx]))) (fun x hx => hsp x (by simp [hx]))
      exact ⟨_, _, t0, ⟨_, _, t1, rfl, rfl⟩, rfl⟩) (fun _ _ => rfl) (by simp)
    (hg.frame _) hg.2.1 (ok_one (t := 4) (by kernel_rfl) rfl (okWide_bool_mk (by kernel_rfl) _))⟩

set_option maxRecDepth 1000000 in
theorem me : ∀ P : Program, P = Try.prog → P.mayEnter = true := by
  intro P hP
  unfold Program.mayEnter
  rw [ws_eq, show P.initOrder = String.ofList _ by rw [hP]; exact rfl, String.toList_ofList]
  subst hP
  kernel_rfl
set_option maxRecDepth 1000000 in
theorem lf : ∀ P : Program, P = Try.prog → P.liftsFinal = Rows.fnExactTrimPlanRow.lifted := by
  intro P hP
  unfold Program.liftsFinal Program.headLifts
  rw [ws_eq, show P.initOrder = String.ofList _ by rw [hP]; exact rfl, String.toList_ofList]
  subst hP
  kernel_rfl
set_option maxRecDepth 1000000 in
theorem mk : ∀ P : Program, P = Try.prog → P.make = some Rows.fnExactTrimPlanRow.make := by
  intro P hP
  unfold Program.make Program.headLifts
  rw [ws_eq, show P.initOrder = String.ofList _ by rw [hP]; exact rfl, String.toList_ofList]
  subst hP
  kernel_rfl
theorem jf : joinedFacts Try.prog 11 Try.f11 Rows.fnExactTrimPlanSpec Rows.fnExactTrimPlanRow = true := by
  unfold joinedFacts
  rw [me _ rfl, lf _ rfl, mk _ rfl]
  kernel_rfl

theorem over11 : Rows.fnExactTrimPlanRow.holds Try.pinned (OpenSpec.ofChange Rows.fnExactTrimPlanSpec) :=
  OpenClaim.holds_of_wide 11 Try.f11 rfl rfl rfl rfl rfl rfl rfl ⟨rfl, rfl, rfl, rfl, rfl⟩ rfl rfl rfl rfl rfl (by kernel_rfl) Try.func11 jf
    (of_decide_eq_true (by kernel_rfl)) (by unfold Func.isWrapper; first | (rw [if_pos (by decide +kernel)]; kernel_rfl) | (rw [if_neg (by decide +kernel)]; exact ⟨rfl, rfl⟩))
    (fun os started H enc _ => lifted11 os started H enc)

theorem fnExactTrimPlan_holds : Rows.FnExactTrimPlanSaid := over11
end Go.Proofs.Ytokaffjipngphaa
