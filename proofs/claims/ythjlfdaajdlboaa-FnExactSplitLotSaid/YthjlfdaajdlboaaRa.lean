/- For every lot and every number of tonnes the program's SplitLot answers as the reference's does. -/
import Derived.Test.YthjlfdaajdlboaaGa
import Derived.Test.YthjlfdaajdlboaaRows
namespace Go.Proofs.Ythjlfdaajdlboaa
open Go.ChangeShapes Go.WideShapes Go.ChangeAt Go.RowKit
open Go.OAI

theorem own : ownKnob Try.prog.godebug = none := by kernel_rfl
theorem laidOut : laidOutB Try.prog = true := by kernel_rfl

theorem plainI (t m x1 : Int) : g3 (t, m, ()) x1 = some true := by
  have refl16 : ∀ x : T22.den, g16 x x = some true := fun x => by simp [g16, g16K]
  by_cases h : (1 ≤ t ∧ t ≤ 1000000) ∧ (0 ≤ m ∧ m ≤ IntKind.i64.wrap (1000 * t))
  · obtain ⟨⟨h1, h2⟩, h3, h4⟩ := h
    have e1 : IntKind.i64.wrap (t - 1) = t - 1 := by rw [IntKind.wrap_i64]; omega
    have l48 : g48 (t, m, ()) = some true := by simp [g48, g48K, h1, h2, h3, h4]
    have l45 : g45 (t, m, ()) = some true := by simp [g45, g45K, g46, g46K, h1, h2, h3, h4]
    by_cases h5 : 1 ≤ x1 ∧ x1 ≤ t - 1
    · obtain ⟨h5, h6⟩ := h5
      have ht : ¬ t = 0 := by omega
      have h7 : ¬ x1 < 1 := by omega
      have h8 : ¬ t ≤ x1 := by omega
      simp [g3, g3K, g14, g14K, g13, g13K, g15, g15K, l48, l45, g46, g46K, g47, g47K, g49, g49K, e1, h5, h6, ht, h7, h8, refl16]
    · have l46 : g46 x1 1 (t - 1) = some false := by
        simp only [g46, g46K]
        by_cases h6 : 1 ≤ x1
        · have : ¬ x1 ≤ t - 1 := fun e => h5 ⟨h6, e⟩
          simp [h6, this]
        · simp [h6]
      have l15 : g15 (t, m, ()) x1 = some ((0, 0, ()), (0, 0, ()), false) := by
        by_cases h6 : x1 < 1
        · simp [g15, g15K, l48, h6]
        · have : t ≤ x1 := by omega
          simp [g15, g15K, l48, h6, this]
      simp [g3, g3K, g14, g14K, g13, g13K, l15, l45, e1, l46, refl16]
  · have l48 : g48 (t, m, ()) = some false := by
      simp only [g48, g48K]
      by_cases h1 : 1 ≤ t <;> by_cases h2 : t ≤ 1000000 <;> by_cases h3 : 0 ≤ m <;> by_cases h4 : m ≤ IntKind.i64.wrap (1000 * t) <;> first
        | (simp [h1, h2, h3, h4]; done)
        | exact absurd (And.intro (And.intro h1 h2) (And.intro h3 h4)) h
    have l45 : g45 (t, m, ()) = some false := by
      simp only [g45, g45K, g46, g46K]
      by_cases h1 : 1 ≤ t <;> by_cases h2 : t ≤ 1000000 <;> by_cases h3 : 0 ≤ m <;> by_cases h4 : m ≤ IntKind.i64.wrap (1000 * t) <;> first
        | (simp [h1, h2, h3, h4]; done)
        | exact absurd (And.intro (And.intro h1 h2) (And.intro h3 h4)) h
    simp [g3, g3K, g14, g14K, g13, g13K, g15, g15K, l48, l45, refl16]

theorem plain3 (x0 : T22.den) (x1 : Int) (w0 : T22.wf x0) (w1 : (Ty.int .i64).wf x1) : g3 x0 x1 = some true := plainI x0.1 x0.2.1 x1

set_option maxRecDepth 100000 in
theorem lifted3 (os : Os) (started : os.Started) (H : Type) (enc : TypeId × Value → H) :
    ReturnsInHanded {} Try.checked os 3 .any (Rows.fnExactSplitLotSpec.pre6 enc Try.prog Try.f3 Rows.fnExactSplitLotRow.domain false) (Rows.fnExactSplitLotSpec.post enc Try.prog Try.f3 false true false false) := by
  refine returnsInHanded_of_change (C := Try.checked) own started (by kernel_rfl) Try.func3
    (ChangeSpec.witness6 (enc := enc) (C := Try.checked) false ⟨#[], #[.agg #[.int .i64 0, .int .i64 0], .int .i64 0], []⟩ 8 (by kernel_rfl) (by kernel_rfl) (by kernel_rfl) (by kernel_rfl)) ?_
  intro W base args ds gs before hval0 hW hcnd _
  have hval : ∀ (j : Nat) t v, Try.f3.params[j]? = some t → args[j]? = some v → Value.okWide Try.prog W .any base t v := hval0
  have hW' := hW
  obtain ⟨p, q, hA0, hV, rfl, hfz, hnd⟩ := hW
  have hA : DataW.TrodAll enc Try.prog W 0 (fun _ => true) true [23, 3] args.toList ds p := hA0
  obtain ⟨v0, vs0, d0, ds0, p0, q0, hargs, rfl, rfl, h0, r0⟩ := trodAll_cons hA
  obtain ⟨v1, vs1, d1, ds1, p1, q1, rfl, rfl, rfl, h1, r1⟩ := trodAll_cons r0
  obtain ⟨rfl, rfl, rfl⟩ := trodAll_nil r1
  obtain rfl : args = #[v0, v1] := by cases args; simp_all
  obtain ⟨rfl, rfl⟩ := trodVars_none hV
  obtain ⟨x0, w0, a0⟩ := open_arg (n := 6) (T := T22) (by kernel_rfl) (hval 0 23 v0 rfl rfl) h0
  obtain ⟨x1, w1, a1⟩ := open_arg (n := 6) (T := .int .i64) (by kernel_rfl) (hval 1 3 v1 rfl rfl) h1
  clear hA0 hval0
  simp only [List.append_nil] at hW'
  refine (law_walk k3 (vs := [v0, v1]) (ds := [argA Try.prog 23 T22 x0, argA Try.prog 3 (.int .i64) x1]) (x := (x0, x1)) (y := true) rfl (fun i v d hv hd => ?_) (by kernel_rfl) (plain3 x0 x1 w0 w1) rfl).mono fun e W' ⟨he, hg, hs⟩ => ?_
  · match i with
    | 0 => cases hv; cases hd; exact a0
    | 1 => cases hv; cases hd; exact a1
    | i + 2 => simp at hv
  subst he
  exact ⟨_, rfl, post_of_same (pa := p0 ++ (p1 ++ [])) (pv := []) hW' (fun _ _ _ => trodAll_mk1 (shut_bool (t := 4) (by kernel_rfl) _)) (fun sp hsp => by
      have t0 := WideElems.Trod_stays laidOut (by kernel_rfl) (of_decide_eq_true (by kernel_rfl)) h0 (fun x hx => same_of hs (hW'.lt x (by simp [hx]))) (fun x hx => hsp x (by simp [hx]))
      have t1 := WideElems.Trod_stays laidOut (by kernel_rfl) (of_decide_eq_true (by kernel_rfl)) h1 (fun x hx => same_of hs (hW'.lt x (by simp [hx]))) (fun x hx => hsp x (by simp [hx]))
      exact ⟨_, _, t0, ⟨_, _, t1, rfl, rfl⟩, rfl⟩) (fun _ _ => rfl) (by simp)
    (hg.frame _) hg.2.1 (ok_one (t := 4) (by kernel_rfl) rfl (okWide_bool_mk (by kernel_rfl) _))⟩

theorem over3 : Rows.fnExactSplitLotRow.holds Try.pinned (OpenSpec.ofChange Rows.fnExactSplitLotSpec) :=
  OpenClaim.holds_of_wide 3 Try.f3 rfl rfl rfl rfl rfl rfl rfl ⟨rfl, rfl, rfl, rfl, rfl⟩ rfl rfl rfl rfl rfl (by kernel_rfl) Try.func3 (by kernel_rfl)
    (of_decide_eq_true (by kernel_rfl)) (by unfold Func.isWrapper; first | (rw [if_pos (by decide +kernel)]; kernel_rfl) | (rw [if_neg (by decide +kernel)]; exact ⟨rfl, rfl⟩))
    (fun os started H enc _ => lifted3 os started H enc)

theorem splitLot_holds : Rows.FnExactSplitLotSaid := over3
end Go.Proofs.Ythjlfdaajdlboaa
