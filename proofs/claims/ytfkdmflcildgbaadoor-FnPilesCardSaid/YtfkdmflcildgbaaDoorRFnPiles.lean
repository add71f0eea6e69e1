/- For all drawn piles: tonnes and metal balance when lots are put and taken, texts are read back, and runs stop at the first stir that cannot be done. -/
import Derived.Test.YtfkdmflcildgbaaDoorLFnPiles
import Derived.Test.YtfkdmflcildgbaaDoorR2
import Derived.Test.YtfkdmflcildgbaaDoorCards
import Derived.Test.YtfkdmflcildgbaaDoorTie
import Derived.Lib.LaidU8
import Derived.Lib.LaidTab
import Derived.Shelf.Vars
import Derived.Lay
import Derived.LaidOnce
import Derived.MakeChecks
import Derived.SevenTiedAt
namespace Go.Proofs.YtfkdmflcildgbaaDoor
open Go.ChangeShapes Go.WideShapes Go.ChangeAt Go.RowKit
open Go.OAI

theorem own : ownKnob Tryd.prog.godebug = none := by kernel_rfl
theorem laidOut : laidOutB Tryd.prog = true := by kernel_rfl

theorem kp {W : World} (hL : laidMetH Tryd.prog Rows.fnPilesRow.laid W) (hsh : W.ShapedOpen Tryd.prog) : KP W := by
  rw [MakeChecks.laidMetH_plain _ _ _ (by kernel_rfl)] at hL
  have h1 := hL.filter fun x => x.1 == "internal/strconv.uint64pow10"
  have e : (Rows.fnPilesRow.laid.filter fun x => x.1 == "internal/strconv.uint64pow10") = [("internal/strconv.uint64pow10", Lib.tabData .u64 Lib.pow10Tab)] := by kernel_rfl
  rw [e] at h1
  have ht : Lib.TabIs Tryd.prog W "internal/strconv.uint64pow10" .u64 Lib.pow10Tab := Lib.tabIs_of_head (t := 119) (e := 48) (n := 20) pow_at (by kernel_rfl) (by kernel_rfl) (by kernel_rfl) (by kernel_rfl) (by kernel_rfl) h1
  obtain ⟨m, hm⟩ : ∃ m, W.cell? ⟨0, 0, none⟩ = some (.int .i64 m) :=
    Go.Proofs.cell_of_shapedOpen_int (zero := #[.int .i64 0]) (t := 3) hsh (of_decide_eq_true (by kernel_rfl)) (by kernel_rfl) rfl (by kernel_rfl) (by kernel_rfl) (by kernel_rfl)
  refine ⟨?_, ht, m, hm⟩
  have h2 := ht
  unfold Lib.TabIs World.var? at h2
  rw [pow_at] at h2
  simp only [Option.bind_some] at h2
  have h3 : 1 < W.heap.size := Nat.lt_of_not_le fun h => by rw [Array.getElem?_eq_none h] at h2; cases h2
  exact h3
set_option maxRecDepth 100000 in
theorem lifted3 (os : Os) (started : os.Started) (H : Type) (enc : TypeId × Value → H) :
    ReturnsInHanded {} Tryd.checked os 3 .any (fun w args => (Rows.fnPilesSpec.pre enc Tryd.prog Tryd.f3 [] false w args ∧ laidMetH Tryd.prog Rows.fnPilesRow.laid w) ∧ sizedMet enc Tryd.prog Tryd.f3 (OpenSpec.ofChange Rows.fnPilesSpec) false w args)
      (Rows.fnPilesSpec.post enc Tryd.prog Tryd.f3 false true false false) := by
  refine handed_laid (C := Tryd.checked) (X := fun w => laidMetH Tryd.prog Rows.fnPilesRow.laid w) (fun _ _ hh h => h.of_heap hh) own started (by kernel_rfl) Tryd.func3
    (ChangeSpec.witness_shaped (enc := enc) (C := Tryd.checked) (os := os) (X := fun w _ => laidMetH Tryd.prog Rows.fnPilesRow.laid w) false (World.laidAll Tryd.prog os Rows.fnPilesRow.laid) #[.slice none 0 0, .slice none 0 0] 8 (World.laidAll_os _ _ _)
      (World.shaped_of_ZipB (by kernel_rfl) (by kernel_rfl)) (by kernel_rfl) (by kernel_rfl) (by kernel_rfl)
      (by rw [MakeChecks.laidMetH_plain _ _ _ (by kernel_rfl)]; exact laidMet_laidAll _ (by kernel_rfl) (by kernel_rfl))) ?_
  intro W base args ds gs before hval0 hW hL hsh
  have hval : ∀ (j : Nat) t v, Tryd.f3.params[j]? = some t → args[j]? = some v → Value.okWide Tryd.prog W .any base t v := hval0
  have hW' := hW
  obtain ⟨p, q, hA0, hV, rfl, hfz, hnd⟩ := hW
  have hA : DataW.TrodAll enc Tryd.prog W 0 (fun _ => true) true [22, 22] args.toList ds p := hA0
  obtain ⟨v0, vs0, d0, ds0, p0, q0, hargs, rfl, rfl, h0, r0⟩ := trodAll_cons hA
  obtain ⟨v1, vs1, d1, ds1, p1, q1, rfl, rfl, rfl, h1, r1⟩ := trodAll_cons r0
  obtain ⟨rfl, rfl, rfl⟩ := trodAll_nil r1
  obtain rfl : args = #[v0, v1] := by cases args; simp_all
  obtain ⟨rfl, rfl⟩ := trodVars_none hV
  obtain ⟨x0, w0, a0⟩ := open_arg (n := 6) (T := .slice (.int .u8)) (by kernel_rfl) (hval 0 22 v0 rfl rfl) h0
  obtain ⟨x1, w1, a1⟩ := open_arg (n := 6) (T := .slice (.int .u8)) (by kernel_rfl) (hval 1 22 v1 rfl rfl) h1
  clear hA0 hval0
  simp only [List.append_nil] at hW'
  refine (law_walk k3 (vs := [v0, v1]) (ds := [argA Tryd.prog 22 (.slice (.int .u8)) x0, argA Tryd.prog 22 (.slice (.int .u8)) x1]) (x := (x0, x1)) (y := true) rfl (fun _ i v d hv hd => ?_) (by kernel_rfl) (FnPiles_law x0 x1 w0 w1) rfl (hk := kp hL hsh)).mono fun e W' ⟨he, hg, hs⟩ => ?_
  · match i with
    | 0 => cases hv; cases hd; exact a0 _
    | 1 => cases hv; cases hd; exact a1 _
    | i + 2 => simp at hv
  subst he
  exact ⟨_, rfl, post_stays (pa := p0 ++ (p1 ++ [])) (pv := []) hW' (fun _ _ _ => trodAll_mk1 (shut_bool (t := 4) (by kernel_rfl) _)) (fun sp hsp => by
      have t0 := WideElems.Trod_stays laidOut (by kernel_rfl) (of_decide_eq_true (by kernel_rfl)) h0 (fun x hx => same_of hs (hW'.lt x (by simp [hx]))) (fun x hx => hsp x (by simp [hx]))
      have t1 := WideElems.Trod_stays laidOut (by kernel_rfl) (of_decide_eq_true (by kernel_rfl)) h1 (fun x hx => same_of hs (hW'.lt x (by simp [hx]))) (fun x hx => hsp x (by simp [hx]))
      exact ⟨_, _, t0, ⟨_, _, t1, rfl, rfl⟩, rfl⟩) (fun _ _ => rfl) (by simp)
    hg (ok_one (t := 4) (by kernel_rfl) rfl (okWide_bool_mk (by kernel_rfl) _))⟩

set_option maxRecDepth 1000000 in
theorem me : ∀ P : Program, P = Tryd.prog → P.mayEnter = true := by
  intro P hP
  unfold Program.mayEnter
  rw [ws_eq, show P.initOrder = String.ofList _ by rw [hP]; exact rfl, String.toList_ofList]
  subst hP
  kernel_rfl
set_option maxRecDepth 1000000 in
theorem lf : ∀ P : Program, P = Tryd.prog → P.liftsFinal = Rows.fnPilesRow.lifted := by
  intro P hP
  unfold Program.liftsFinal Program.headLifts
  rw [ws_eq, show P.initOrder = String.ofList _ by rw [hP]; exact rfl, String.toList_ofList]
  subst hP
  kernel_rfl
set_option maxRecDepth 1000000 in
theorem mk : ∀ P : Program, P = Tryd.prog → P.make = some Rows.fnPilesRow.make := by
  intro P hP
  unfold Program.make Program.headLifts
  rw [ws_eq, show P.initOrder = String.ofList _ by rw [hP]; exact rfl, String.toList_ofList]
  subst hP
  kernel_rfl
theorem jf : joinedFacts Tryd.prog 3 Tryd.f3 Rows.fnPilesSpec Rows.fnPilesRow = true := by
  unfold joinedFacts
  rw [me _ rfl, lf _ rfl, mk _ rfl]
  kernel_rfl

theorem over3 : Rows.fnPilesRow.holds Tryd.pinned (OpenSpec.ofChange Rows.fnPilesSpec) :=
  OpenClaim.holds_of_wide 3 Tryd.f3 rfl rfl rfl rfl rfl rfl rfl ⟨rfl, rfl, rfl, rfl, rfl⟩ rfl rfl rfl rfl rfl (by kernel_rfl) Tryd.func3 jf
    (of_decide_eq_true (by kernel_rfl)) (by unfold Func.isWrapper; first | (rw [if_pos (by decide +kernel)]; kernel_rfl) | (rw [if_neg (by decide +kernel)]; exact ⟨rfl, rfl⟩))
    (fun os started H enc _ => lifted3 os started H enc)

theorem fnPiles_holds : Rows.FnPilesCardSaid :=
  Claim7.holds_tied_plain_at .later [] [.data, .data, .data, .data, .pinned] true Rows.fnPilesCard.stood.harness false over3 (fun _ h => by cases h) (by kernel_rfl) (fun _ h => by cases h) fnPiles_row_tie rfl ⟨rfl, rfl⟩ (by kernel_rfl) rfl
    (fun f fn hf hfn => by
      obtain rfl : f = 3 := Option.some.inj ((show Tryd.prog.funcNamed Rows.fnPilesRow.func = some 3 by kernel_rfl).symm.trans hf) |>.symm
      obtain rfl : fn = Tryd.f3 := (Option.some.inj (Tryd.func3.symm.trans hfn)).symm
      exact ⟨by kernel_rfl, fun j t ht => by
        have hp : Tryd.f3.params = #[22, 22] := by kernel_rfl
        rw [hp] at ht
        have hm : t ∈ [22, 22] := by simpa using Array.mem_of_getElem? ht
        have hall : ([22, 22].all fun u => !Tryd.prog.wantsStandIn u) = true := by kernel_rfl
        exact (show Tryd.prog.wantsStandIn t = false by simpa using List.all_eq_true.1 hall t hm)⟩)
    (by kernel_rfl)
end Go.Proofs.YtfkdmflcildgbaaDoor
