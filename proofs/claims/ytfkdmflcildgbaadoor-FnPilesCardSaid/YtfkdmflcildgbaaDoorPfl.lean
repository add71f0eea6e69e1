/- Piles: what both sides answer, and what is kept. -/
import Derived.Test.YtfkdmflcildgbaaDoorPdr
import Derived.Test.YtfkdmflcildgbaaDoorLTakeTonnes
namespace Go.OAI
set_option linter.unusedVariables false
noncomputable section

theorem takeF_metal : ∀ (l : List DLot) (d : Int), l.all lotB = true → 0 ≤ d → mS (takeF d l).1 + (takeF d l).2.2 = mS l
  | [], d, _, _ => by simp [takeF, mS]
  | e :: l, d, h, h0 => by
    simp only [List.all_cons, Bool.and_eq_true] at h
    obtain ⟨h1, h2⟩ := h
    have hb := lotB_spec h1
    by_cases c : d < e.1
    · have ih := takeF_metal l (d - d) h2 (by omega)
      have c2 : d < e.1 := c
      simp only [takeF, c, if_true]
      rw [mS_cons]
      simp only [mS_cons]
      omega
    · have ih := takeF_metal l (d - e.1) h2 (by omega)
      have c2 : ¬ e.1 < e.1 := by omega
      have hm : (e.2.1 * e.1).tdiv e.1 = e.2.1 := Int.mul_tdiv_cancel _ (by omega)
      simp only [takeF, c, if_false, c2, hm]
      rw [mS_cons]
      omega
def Same3 (p : DPile) (t : Int) (v : (Bool × Int × List DLot) × DLot × Bool) : Prop :=
  v.1.2.2.length ≤ 1000 ∧ (v.2.2 = true → pileB p = true ∧ pileB (v.1.1, v.1.2.1, v.1.2.2, ()) = true ∧ v.2.1.1 = t ∧ tS p.2.2.1 = tS v.1.2.2 + t ∧ mS p.2.2.1 = mS v.1.2.2 + v.2.1.2.1)
def SameS (m : DLot) (n : Int) (v : DLot × DLot × Bool) : Prop :=
  v.2.2 = true → v.1.1 = n ∧ IntKind.i64.wrap (v.1.1 + v.2.1.1) = m.1 ∧ IntKind.i64.wrap (v.1.2.1 + v.2.1.2.1) = m.2.1
def SameJ (q r : DPile) (v : (Bool × Int × List DLot) × Bool) : Prop :=
  v.1.2.2.length ≤ 1000 ∧ (v.2 = true → pileB q = true ∧ pileB r = true ∧ pileB (v.1.1, v.1.2.1, v.1.2.2, ()) = true ∧ tS v.1.2.2 = tS q.2.2.1 + tS r.2.2.1 ∧ mS v.1.2.2 = mS q.2.2.1 + mS r.2.2.1)
theorem sameLots_refl (l : List DLot) (h : l.length ≤ 1099511627776) : laws_pSameLots l l = some true := by
  unfold laws_pSameLots laws_pSameLotsK
  have : laws_pSameLots_l0 l l (l.length : Int) 0 = some (if l.all (fun _ => true) then .inr () else .inl false) := by
    refine allL_loop (f := fun i => laws_pSameLots_l0 l l (l.length : Int) i) ?_ fun i hi => ?_
    · show laws_pSameLots_l0 _ _ _ _ = _
      rw [laws_pSameLots_l0_eq]; unfold laws_pSameLots_l0K
      rw [lt_out (Nat.le_refl _)]
    · show laws_pSameLots_l0 _ _ _ _ = _
      rw [laws_pSameLots_l0_eq]; unfold laws_pSameLots_l0K
      rw [loop_step hi, wr_succ hi (by omega), lat_nat hi]
      simp
  rw [this]
  simp [sumO]
theorem samePile_refl (p : DPile) (h : p.2.2.1.length ≤ 1099511627776) : laws_pSamePile p p = some true := by
  unfold laws_pSamePile laws_pSamePileK
  rw [sameLots_refl _ h]; simp
end
end Go.OAI
