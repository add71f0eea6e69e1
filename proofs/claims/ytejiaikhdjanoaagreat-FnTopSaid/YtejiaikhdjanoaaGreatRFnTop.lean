/- For all drawn models, the told pit is a closure that its cut proves best, the plan that is found mines no block ahead of those above it and loses at most the gap, and tonnes and metal balance into the pile. -/
import Derived.Test.YtejiaikhdjanoaaGreatP8
import Derived.Test.YtejiaikhdjanoaaGreatR1
import Derived.Test.YtejiaikhdjanoaaGreatRows
namespace Go.Proofs.YtejiaikhdjanoaaGreat
open Go.ChangeShapes Go.WideShapes Go.ChangeAt Go.RowKit
open Go.OAI
theorem own : ownKnob Tryz.prog.godebug = none := by kernel_rfl
theorem laidOut : laidOutB Tryz.prog = true := by kernel_rfl
set_option maxRecDepth 100000 in
theorem lifted3 (os : Os) (started : os.Started) (H : Type) (enc : TypeId × Value → H) :
    ReturnsInHanded {} Tryz.checked os 3 .any (Rows.fnTopSpec.pre6 enc Tryz.prog Tryz.f3 Rows.fnTopRow.domain false) (Rows.fnTopSpec.post enc Tryz.prog Tryz.f3 false true false false) := by
  refine returnsInHanded_of_change (C := Tryz.checked) own started (by kernel_rfl) Tryz.func3
    (ChangeSpec.witness6 (enc := enc) (C := Tryz.checked) false ⟨#[], #[.slice none 0 0, .slice none 0 0], []⟩ 8 (by kernel_rfl) (by kernel_rfl) (by kernel_rfl) (by kernel_rfl)) ?_
  intro W base args ds gs before hval0 hW hcnd _
  have hval : ∀ (j : Nat) t v, Tryz.f3.params[j]? = some t → args[j]? = some v → Value.okWide Tryz.prog W .any base t v := hval0
  have hW' := hW
  obtain ⟨p, q, hA0, hV, rfl, hfz, hnd⟩ := hW
  have hA : DataW.TrodAll enc Tryz.prog W 0 (fun _ => true) true [22, 22] args.toList ds p := hA0
  obtain ⟨v0, vs0, d0, ds0, p0, q0, hargs, rfl, rfl, h0, r0⟩ := trodAll_cons hA
  obtain ⟨v1, vs1, d1, ds1, p1, q1, rfl, rfl, rfl, h1, r1⟩ := trodAll_cons r0
  obtain ⟨rfl, rfl, rfl⟩ := trodAll_nil r1
  obtain rfl : args = #[v0, v1] := by cases args; simp_all
  obtain ⟨rfl, rfl⟩ := trodVars_none hV
  obtain ⟨x0, w0, a0⟩ := open_arg (n := 6) (T := .slice (.int .u8)) (by kernel_rfl) (hval 0 22 v0 rfl rfl) h0
  obtain ⟨x1, w1, a1⟩ := open_arg (n := 6) (T := .slice (.int .u8)) (by kernel_rfl) (hval 1 22 v1 rfl rfl) h1
  clear hA0 hval0
  simp only [List.append_nil] at hW'
  refine (law_walk k3.ok (vs := [v0, v1]) (ds := [argA Tryz.prog 22 (.slice (.int .u8)) x0, argA Tryz.prog 22 (.slice (.int .u8)) x1]) (x := (x0, x1)) (y := true) rfl (fun _ i v d hv hd => ?_) (by kernel_rfl) (FnTop_law x0 x1 w0 w1) rfl).mono fun e W' ⟨he, hg, hs⟩ => ?_
  · match i with
    | 0 => cases hv; cases hd; exact a0 _
    | 1 => cases hv; cases hd; exact a1 _
    | i + 2 => simp at hv
  subst he
  exact ⟨_, rfl, post_stays (pa := p0 ++ (p1 ++ [])) (pv := []) hW' (fun _ _ _ => trodAll_mk1 (shut_bool (t := 4) (by kernel_rfl) _)) (fun sp hsp => by
      have t0 := WideElems.Trod_stays laidOut (by kernel_rfl) (of_decide_eq_true (by kernel_rfl)) h0 (fun x hx => same_of hs (hW'.lt x (by simp [hx]))) (fun x hx => hsp x (by simp [hx]))
      have t1 := WideElems.Trod_stays laidOut (by kernel_rfl) (of_decide_eq_true (by kernel_rfl)) h1 (fun x hx => same_of hs (hW'.lt x (by simp [hx]))) (fun x hx => hsp x (by simp [hx]))
      exact ⟨_, _, t0, ⟨_, _, t1, rfl, rfl⟩, rfl⟩) (fun _ _ => rfl) (by simp)
    hg (ok_one (t := 4) (by kernel_rfl) rfl (okWide_bool_mk (by kernel_rfl) _))⟩
set_option maxRecDepth 1000000 in
theorem me : ∀ P : Program, P = Tryz.prog → P.mayEnter = true := by
  intro P hP
  unfold Program.mayEnter
  rw [ws_eq, show P.initOrder = String.ofList _ by rw [hP]; exact rfl, String.toList_ofList]
  subst hP
  kernel_rfl
set_option maxRecDepth 1000000 in
theorem lf : ∀ P : Program, P = Tryz.prog → P.liftsFinal = Rows.fnTopRow.lifted := by
  intro P hP
  unfold Program.liftsFinal Program.headLifts
  rw [ws_eq, show P.initOrder = String.ofList _ by rw [hP]; exact rfl, String.toList_ofList]
  subst hP
  kernel_rfl
set_option maxRecDepth 1000000 in
theorem mk : ∀ P : Program, P = Tryz.prog → P.make = some Rows.fnTopRow.make := by
  intro P hP
  unfold Program.make Program.headLifts
  rw [ws_eq, show P.initOrder = String.ofList _ by rw [hP]; exact rfl, String.toList_ofList]
  subst hP
  kernel_rfl
theorem jf : joinedFacts Tryz.prog 3 Tryz.f3 Rows.fnTopSpec Rows.fnTopRow = true := by
  unfold joinedFacts
  rw [me _ rfl, lf _ rfl, mk _ rfl]
  kernel_rfl
theorem over3 : Rows.fnTopRow.holds Tryz.pinned (OpenSpec.ofChange Rows.fnTopSpec) :=
  OpenClaim.holds_of_wide 3 Tryz.f3 rfl rfl rfl rfl rfl rfl rfl ⟨rfl, rfl, rfl, rfl, rfl⟩ rfl rfl rfl rfl rfl (by kernel_rfl) Tryz.func3 jf
    (of_decide_eq_true (by kernel_rfl)) (by unfold Func.isWrapper; first | (rw [if_pos (by decide +kernel)]; kernel_rfl) | (rw [if_neg (by decide +kernel)]; exact ⟨rfl, rfl⟩))
    (fun os started H enc _ => lifted3 os started H enc)
theorem fnTop_holds : Rows.FnTopSaid := over3
end Go.Proofs.YtejiaikhdjanoaaGreat
