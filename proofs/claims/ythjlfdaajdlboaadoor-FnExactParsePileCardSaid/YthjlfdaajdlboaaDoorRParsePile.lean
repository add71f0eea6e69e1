/- For every text the program's ParsePile answers as the reference's does. -/
import Derived.Test.YthjlfdaajdlboaaDoorLParsePile
import Derived.Test.YthjlfdaajdlboaaDoorR2
import Derived.Test.YthjlfdaajdlboaaDoorCards
import Derived.Test.YthjlfdaajdlboaaDoorTie
import Derived.Lib.LaidU8
import Derived.Lib.LaidTab
import Derived.Shelf.Vars
import Derived.Lay
import Derived.LaidOnce
import Derived.MakeChecks
import Derived.SevenTiedAt
namespace Go.Proofs.YthjlfdaajdlboaaDoor
open Go.ChangeShapes Go.WideShapes Go.ChangeAt Go.RowKit
open Go.OAI

theorem own : ownKnob Tryd.prog.godebug = none := by kernel_rfl
theorem laidOut : laidOutB Tryd.prog = true := by kernel_rfl

theorem kp {W : World} (_ : laidMetH Tryd.prog Rows.fnExactParsePileRow.laid W) (hsh : W.ShapedOpen Tryd.prog) : KP W := by
  obtain ⟨m, hm⟩ : ∃ m, W.cell? ⟨0, 0, none⟩ = some (.int .i64 m) :=
    Go.Proofs.cell_of_shapedOpen_int (zero := #[.int .i64 0]) (t := 3) hsh (of_decide_eq_true (by kernel_rfl)) (by kernel_rfl) rfl (by kernel_rfl) (by kernel_rfl) Tryd.underlying3
  refine ⟨?_, m, hm⟩
  have h3 : 0 < W.heap.size := Nat.lt_of_not_le fun h => by
    unfold World.cell? at hm
    rw [Array.getElem?_eq_none h] at hm; cases hm
  exact h3
set_option maxRecDepth 100000 in
theorem lifted4 (os : Os) (started : os.Started) (H : Type) (enc : TypeId × Value → H) :
    ReturnsInHanded {} Tryd.checked os 4 .any (fun w args => (Rows.fnExactParsePileSpec.pre enc Tryd.prog Tryd.f4 [] false w args ∧ laidMetH Tryd.prog Rows.fnExactParsePileRow.laid w) ∧ sizedMet enc Tryd.prog Tryd.f4 (OpenSpec.ofChange Rows.fnExactParsePileSpec) false w args)
      (Rows.fnExactParsePileSpec.post enc Tryd.prog Tryd.f4 false true false false) := by
  refine handed_laid (C := Tryd.checked) (X := fun w => laidMetH Tryd.prog Rows.fnExactParsePileRow.laid w) (fun _ _ hh h => h.of_heap hh) own started (by kernel_rfl) Tryd.func4
    (ChangeSpec.witness_shaped (enc := enc) (C := Tryd.checked) (os := os) (X := fun w _ => laidMetH Tryd.prog Rows.fnExactParsePileRow.laid w) false (World.laidAll Tryd.prog os Rows.fnExactParsePileRow.laid) #[.string ByteArray.empty] 8 (World.laidAll_os _ _ _)
      (World.shaped_of_ZipB (by kernel_rfl) (by kernel_rfl)) (by kernel_rfl) (by kernel_rfl) (by kernel_rfl)
      (by rw [MakeChecks.laidMetH_plain _ _ _ (by kernel_rfl)]; exact laidMet_laidAll _ (by kernel_rfl) (by kernel_rfl))) ?_
  intro W base args ds gs before hval0 hW hL hsh
  have hval : ∀ (j : Nat) t v, Tryd.f4.params[j]? = some t → args[j]? = some v → Value.okWide Tryd.prog W .any base t v := hval0
  have hW' := hW
  obtain ⟨p, q, hA0, hV, rfl, hfz, hnd⟩ := hW
  have hA : DataW.TrodAll enc Tryd.prog W 0 (fun _ => true) true [9] args.toList ds p := hA0
  obtain ⟨v0, vs0, d0, ds0, p0, q0, hargs, rfl, rfl, h0, r0⟩ := trodAll_cons hA
  obtain ⟨rfl, rfl, rfl⟩ := trodAll_nil r0
  obtain rfl : args = #[v0] := by cases args; simp_all
  obtain ⟨rfl, rfl⟩ := trodVars_none hV
  obtain ⟨x0, w0, a0⟩ := open_arg (n := 6) (T := .str) (by kernel_rfl) (hval 0 9 v0 rfl rfl) h0
  clear hA0 hval0
  simp only [List.append_nil] at hW'
  refine (law_walk k4 (vs := [v0]) (ds := [argA Tryd.prog 9 .str x0]) (x := (x0)) (y := true) rfl (fun _ i v d hv hd => ?_) (by kernel_rfl) (ParsePile_law x0 w0) rfl (hk := kp hL hsh)).mono fun e W' ⟨he, hg, hs⟩ => ?_
  · match i with
    | 0 => cases hv; cases hd; exact a0 _
    | i + 1 => simp at hv
  subst he
  exact ⟨_, rfl, post_stays (pa := p0 ++ []) (pv := []) hW' (fun _ _ _ => trodAll_mk1 (shut_bool (t := 4) (by kernel_rfl) _)) (fun sp hsp => by
      have t0 := WideElems.Trod_stays laidOut (by kernel_rfl) (of_decide_eq_true (by kernel_rfl)) h0 (fun x hx => same_of hs (hW'.lt x (by simp [hx]))) (fun x hx => hsp x (by simp [hx]))
      exact ⟨_, _, t0, rfl, rfl⟩) (fun _ _ => rfl) (by simp)
    hg (ok_one (t := 4) (by kernel_rfl) rfl (okWide_bool_mk (by kernel_rfl) _))⟩

set_option maxRecDepth 1000000 in
theorem me : ∀ P : Program, P = Tryd.prog → P.mayEnter = true := by
  intro P hP
  unfold Program.mayEnter
  rw [ws_eq, show P.initOrder = String.ofList _ by rw [hP]; exact rfl, String.toList_ofList]
  subst hP
  kernel_rfl
set_option maxRecDepth 1000000 in
theorem lf : ∀ P : Program, P = Tryd.prog → P.liftsFinal = Rows.fnExactParsePileRow.lifted := by
  intro P hP
  unfold Program.liftsFinal Program.headLifts
  rw [ws_eq, show P.initOrder = String.ofList _ by rw [hP]; exact rfl, String.toList_ofList]
  subst hP
  kernel_rfl
set_option maxRecDepth 1000000 in
theorem mk : ∀ P : Program, P = Tryd.prog → P.make = some Rows.fnExactParsePileRow.make := by
  intro P hP
  unfold Program.make Program.headLifts
  rw [ws_eq, show P.initOrder = String.ofList _ by rw [hP]; exact rfl, String.toList_ofList]
  subst hP
  kernel_rfl
theorem jf : joinedFacts Tryd.prog 4 Tryd.f4 Rows.fnExactParsePileSpec Rows.fnExactParsePileRow = true := by
  unfold joinedFacts
  rw [me _ rfl, lf _ rfl, mk _ rfl]
  kernel_rfl

theorem over4 : Rows.fnExactParsePileRow.holds Tryd.pinned (OpenSpec.ofChange Rows.fnExactParsePileSpec) :=
  OpenClaim.holds_of_wide 4 Tryd.f4 rfl rfl rfl rfl rfl rfl rfl ⟨rfl, rfl, rfl, rfl, rfl⟩ rfl rfl rfl rfl rfl (by kernel_rfl) Tryd.func4 jf
    (of_decide_eq_true (by kernel_rfl)) (by unfold Func.isWrapper; first | (rw [if_pos (by decide +kernel)]; kernel_rfl) | (rw [if_neg (by decide +kernel)]; exact ⟨rfl, rfl⟩))
    (fun os started H enc _ => lifted4 os started H enc)

theorem fnExactParsePile_holds : Rows.FnExactParsePileCardSaid :=
  Claim7.holds_tied_plain_at .later [] [.data, .pinned] true Rows.fnExactParsePileCard.stood.harness false over4 (fun _ h => by cases h) (by kernel_rfl) (fun _ h => by cases h) fnExactParsePile_row_tie rfl ⟨rfl, rfl⟩ (by kernel_rfl) rfl
    (fun f fn hf hfn => by
      obtain rfl : f = 4 := Option.some.inj ((show Tryd.prog.funcNamed Rows.fnExactParsePileRow.func = some 4 by kernel_rfl).symm.trans hf) |>.symm
      obtain rfl : fn = Tryd.f4 := (Option.some.inj (Tryd.func4.symm.trans hfn)).symm
      exact ⟨by kernel_rfl, fun j t ht => by
        have hp : Tryd.f4.params = #[9] := by kernel_rfl
        rw [hp] at ht
        have hm : t ∈ [9] := by simpa using Array.mem_of_getElem? ht
        have hall : ([9].all fun u => !Tryd.prog.wantsStandIn u) = true := by kernel_rfl
        exact (show Tryd.prog.wantsStandIn t = false by simpa using List.all_eq_true.1 hall t hm)⟩)
    (by kernel_rfl)
end Go.Proofs.YthjlfdaajdlboaaDoor
