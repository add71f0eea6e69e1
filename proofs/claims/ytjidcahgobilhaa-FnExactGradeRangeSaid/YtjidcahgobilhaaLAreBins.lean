/- AreBins: the law in plain words. -/
import Derived.Test.YtjidcahgobilhaaP0
import Derived.Test.YtjidcahgobilhaaGAreBins
namespace Go.OAI
set_option linter.unusedVariables false
noncomputable section

theorem toBinS_ok (l : List DWanted) (h : l.length ≤ 1099511627776) : laws_toBinS l = some l := by
  unfold laws_toBinS laws_toBinSK
  rw [cap_ok h]
  simp only [Option.bind_some]
  rw [fill_loop (f := fun i r => laws_toBinS_l0 l i r) h (r := l)]
  · rfl
  · show laws_toBinS_l0 l _ l = _
    rw [laws_toBinS_l0_eq]; unfold laws_toBinS_l0K
    rw [lt_out (Nat.le_refl _)]
  · intro i r hi hr
    show laws_toBinS_l0 l i r = _
    rw [laws_toBinS_l0_eq]; unfold laws_toBinS_l0K
    rw [loop_step hi]
    simp only [laws_toBin, laws_toBinK, Option.bind_some]
    rw [ck_in (by omega), wr_succ hi (by omega)]
    simp
  · simp
theorem eqBinS_refl (l : List DWanted) (h : l.length ≤ 1099511627776) : laws_eqBinS l l = some true := by
  unfold laws_eqBinS laws_eqBinSK
  have : laws_eqBinS_l0 l l 0 = some (.inr ()) := by
    rw [all_loop (f := fun i => laws_eqBinS_l0 l l i) (l := l) (good := fun _ _ => true) (y := .inr ()) (n := .inl false)]
    · simp
    · show laws_eqBinS_l0 l l _ = _
      rw [laws_eqBinS_l0_eq]; unfold laws_eqBinS_l0K
      rw [lt_out (Nat.le_refl _)]
    · intro i hi
      show laws_eqBinS_l0 l l i = _
      rw [laws_eqBinS_l0_eq]; unfold laws_eqBinS_l0K
      rw [loop_step hi, wr_succ hi (by omega), lat_nat hi]
      simp [laws_eqBin, laws_eqBinK]
  rw [this]
  simp [sumO]
theorem bins_head (l : List DWanted) (w : (Ty.slice TWanted).wf l) {A : Int → Option Bool} (hs : l.length ≤ 1048576 → ∀ y : Int, 0 ≤ y → y ≤ 1048576 → A y = some true) :
    ((laws_szBinS l 1048576).bind fun y1 => cond (decide (y1 < 0)) (some true) (A y1)) = some true := by
  have w' : l.length ≤ 9223372036854775807 := w.1
  unfold laws_szBinS laws_szBinSK
  rw [wr (by omega) (by omega)]
  by_cases h2 : (l.length : Int) ≤ 1048576
  · have h3 : ¬ (1048576 : Int) - (l.length : Int) < 0 := by omega
    simp only [h3, decide_false, cond_false, Option.bind_some]
    exact hs (by omega) _ (by omega) (by omega)
  · have h3 : (1048576 : Int) - (l.length : Int) < 0 := by omega
    simp [h3]
def binB (x : DWanted) : Bool := decide (0 ≤ x.1) && (decide (x.1 ≤ 12) && (decide (0 ≤ x.2.1) && (decide (x.2.1 ≤ 1000) && (decide (0 ≤ x.2.2.1) && (decide (x.2.2.1 ≤ 1000) && (decide (0 ≤ x.2.2.2.1) && decide (x.2.2.2.1 ≤ 1000)))))))
def binsB (l : List DWanted) : Bool := decide (1 ≤ (l.length : Int)) && (decide ((l.length : Int) ≤ 6) && l.all binB)
theorem AreBins_ok (l : List DWanted) (hl : l.length ≤ 1048576) : impl_AreBins l = some (binsB l) := by
  have h1 : impl_AreBins_l0 l (l.length : Int) 0 = some (if l.all binB then .inr () else .inl false) := by
    refine allL_loop (f := fun i => impl_AreBins_l0 l (l.length : Int) i) ?_ fun i hi => ?_
    · show impl_AreBins_l0 _ _ _ = _
      rw [impl_AreBins_l0_eq]; unfold impl_AreBins_l0K
      rw [lt_out (Nat.le_refl _)]
    · show impl_AreBins_l0 _ _ _ = _
      rw [impl_AreBins_l0_eq]; unfold impl_AreBins_l0K
      rw [loop_step hi, wr_succ hi (by omega)]
      rw [← cond_eq_ite]
      simp only [dec_lt, dec_gt, binB]
      generalize l[i] = z
      cases decide (0 ≤ z.1) <;> cases decide (z.1 ≤ 12) <;> cases decide (0 ≤ z.2.1) <;> cases decide (z.2.1 ≤ 1000) <;> cases decide (0 ≤ z.2.2.1) <;> cases decide (z.2.2.1 ≤ 1000) <;> cases decide (0 ≤ z.2.2.2.1) <;> cases decide (z.2.2.2.1 ≤ 1000) <;> rfl
  unfold impl_AreBins impl_AreBinsK binsB
  rw [h1]
  simp only [dec_lt, dec_gt]
  cases decide (1 ≤ (l.length : Int)) <;> cases decide ((l.length : Int) ≤ 6) <;> cases l.all binB <;> rfl
theorem l1All3_ok (a b c lo hi : Int) : spec_l1All [a, b, c] lo hi = some ((decide (lo ≤ a) && decide (a ≤ hi)) && ((decide (lo ≤ b) && decide (b ≤ hi)) && (decide (lo ≤ c) && decide (c ≤ hi)))) := by
  unfold spec_l1All spec_l1AllK
  have : spec_l1All_l0 lo hi [a, b, c] (([a, b, c] : List Int).length : Int) 0 = some (if [a, b, c].all (fun x => decide (lo ≤ x) && decide (x ≤ hi)) then .inr () else .inl false) := by
    refine allL_loop (f := fun i => spec_l1All_l0 lo hi [a, b, c] (([a, b, c] : List Int).length : Int) i) ?_ fun i hi' => ?_
    · show spec_l1All_l0 _ _ _ _ _ = _
      rw [spec_l1All_l0_eq]; unfold spec_l1All_l0K
      rw [lt_out (Nat.le_refl _)]
    · show spec_l1All_l0 _ _ _ _ _ = _
      rw [spec_l1All_l0_eq]; unfold spec_l1All_l0K
      rw [loop_step hi', wr_succ hi' (by simp)]
      unfold spec_l1In spec_l1InK
      simp only [dec_ge]
      generalize [a, b, c][i] = z
      cases decide (lo ≤ z) <;> cases decide (z ≤ hi) <;> rfl
  rw [this]
  simp only [List.all_cons, List.all_nil, Bool.and_true]
  generalize (decide (lo ≤ a) && decide (a ≤ hi)) = p
  generalize (decide (lo ≤ b) && decide (b ≤ hi)) = q
  generalize (decide (lo ≤ c) && decide (c ≤ hi)) = r
  cases p <;> cases q <;> cases r <;> rfl
theorem blBins_ok (l : List DWanted) (hl : l.length ≤ 1048576) : spec_blBins l = some (binsB l) := by
  have h1 : spec_blBins_l0 l (l.length : Int) 0 = some (if l.all binB then .inr () else .inl false) := by
    refine allL_loop (f := fun i => spec_blBins_l0 l (l.length : Int) i) ?_ fun i hi => ?_
    · show spec_blBins_l0 _ _ _ = _
      rw [spec_blBins_l0_eq]; unfold spec_blBins_l0K
      rw [lt_out (Nat.le_refl _)]
    · show spec_blBins_l0 _ _ _ = _
      rw [spec_blBins_l0_eq]; unfold spec_blBins_l0K
      rw [loop_step hi, wr_succ hi (by omega), l1All3_ok]
      rw [← cond_eq_ite]
      unfold spec_l1In spec_l1InK
      simp only [dec_ge, binB]
      generalize l[i] = z
      cases decide (0 ≤ z.1) <;> cases decide (z.1 ≤ 12) <;> cases decide (0 ≤ z.2.1) <;> cases decide (z.2.1 ≤ 1000) <;> cases decide (0 ≤ z.2.2.1) <;> cases decide (z.2.2.1 ≤ 1000) <;> cases decide (0 ≤ z.2.2.2.1) <;> cases decide (z.2.2.2.1 ≤ 1000) <;> rfl
  unfold spec_blBins spec_blBinsK spec_l1In spec_l1InK binsB
  rw [h1]
  simp only [dec_ge]
  cases decide (1 ≤ (l.length : Int)) <;> cases decide ((l.length : Int) ≤ 6) <;> cases l.all binB <;> rfl
theorem AreBins_law (x0 : List DWanted) (w0 : (Ty.slice TWanted).wf x0) : laws_FnExactAreBins x0 = some true := by
  unfold laws_FnExactAreBins laws_FnExactAreBinsK
  refine bins_head x0 w0 fun hl y hy0 hy1 => ?_
  have hs : spec_AreBins x0 = some (binsB x0) := by
    unfold spec_AreBins spec_AreBinsK
    rw [blBins_ok x0 hl]; rfl
  simp only [toBinS_ok x0 (by omega), Option.bind_some, hs, AreBins_ok x0 hl, eqBinS_refl x0 (by omega)]
  simp
end
end Go.OAI
