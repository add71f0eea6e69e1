/- Parts of bins, and their sums. -/
import Derived.Test.YtjidcahgobilhaaLAreBins
import Derived.Test.YtjidcahgobilhaaGBlendSums
namespace Go.OAI
set_option linter.unusedVariables false
noncomputable section

theorem toInts_ok (l : List Int) (h : l.length ≤ 1099511627776) : laws_toIntS l = some l := by
  unfold laws_toIntS laws_toIntSK
  rw [cap_ok h]
  simp only [Option.bind_some]
  rw [fill_loop (f := fun i r => laws_toIntS_l0 l i r) h (r := l)]
  · rfl
  · show laws_toIntS_l0 l _ l = _
    rw [laws_toIntS_l0_eq]; unfold laws_toIntS_l0K
    rw [lt_out (Nat.le_refl _)]
  · intro i r hi hr
    show laws_toIntS_l0 l i r = _
    rw [laws_toIntS_l0_eq]; unfold laws_toIntS_l0K
    rw [loop_step hi, ck_in (by omega), wr_succ hi (by omega)]
    simp
  · simp
theorem eqInts_refl (l : List Int) (h : l.length ≤ 1099511627776) : laws_eqIntS l l = some true := by
  unfold laws_eqIntS laws_eqIntSK
  have : laws_eqIntS_l0 l l 0 = some (.inr ()) := by
    rw [all_loop (f := fun i => laws_eqIntS_l0 l l i) (l := l) (good := fun _ _ => true) (y := .inr ()) (n := .inl false)]
    · simp
    · show laws_eqIntS_l0 l l _ = _
      rw [laws_eqIntS_l0_eq]; unfold laws_eqIntS_l0K
      rw [lt_out (Nat.le_refl _)]
    · intro i hi
      show laws_eqIntS_l0 l l i = _
      rw [laws_eqIntS_l0_eq]; unfold laws_eqIntS_l0K
      rw [loop_step hi, wr_succ hi (by omega), lat_nat hi]
      simp
  rw [this]
  simp [sumO]
/-- Parts of bins. -/
def partsB (l : List DWanted) (p : List Int) : Bool := decide ((p.length : Int) = (l.length : Int)) && allI (fun i x => decide (0 ≤ x) && decide (x ≤ (l.getD i TWanted.dflt).1)) p
theorem areParts_ok (l : List DWanted) (p : List Int) (h : p.length ≤ 1048576) : impl_areParts l p = some (partsB l p) := by
  unfold impl_areParts impl_arePartsK partsB
  rw [bne_dec]
  by_cases c : (p.length : Int) = (l.length : Int)
  · have h1 : impl_areParts_l0 l p (p.length : Int) 0 = some (if allI (fun i x => decide (0 ≤ x) && decide (x ≤ (l.getD i TWanted.dflt).1)) p then .inr () else .inl false) := by
      refine allI_loop (f := fun i => impl_areParts_l0 l p (p.length : Int) i) ?_ fun i hi => ?_
      · show impl_areParts_l0 _ _ _ _ = _
        rw [impl_areParts_l0_eq]; unfold impl_areParts_l0K
        rw [lt_out (Nat.le_refl _)]
      · show impl_areParts_l0 _ _ _ _ = _
        have hl : i < l.length := by omega
        have hg : l.getD i TWanted.dflt = l[i] := by simp [hl]
        rw [impl_areParts_l0_eq]; unfold impl_areParts_l0K
        rw [loop_step hi, wr_succ hi (by omega), lat_nat hl, hg]
        simp only [dec_lt, dec_gt, Option.bind_some]
        by_cases c1 : 0 ≤ p[i] <;> by_cases c2 : p[i] ≤ l[i].1 <;> simp [c1, c2]
    simp only [c, decide_true, Bool.not_true, cond_false, Bool.true_and]
    rw [← c, h1]
    cases allI (fun i x => decide (0 ≤ x) && decide (x ≤ (l.getD i TWanted.dflt).1)) p <;> rfl
  · simp [c]
theorem blParts_ok (l : List DWanted) (p : List Int) (hl : l.length ≤ 1048576) (h : p.length ≤ 1048576) : spec_blParts l p = some (binsB l && partsB l p) := by
  unfold spec_blParts spec_blPartsK partsB
  rw [blBins_ok l hl, bne_dec]
  cases binsB l with
  | false => rfl
  | true =>
    by_cases c : (p.length : Int) = (l.length : Int)
    · have h1 : spec_blParts_l0 p l (l.length : Int) 0 = some (if allI (fun i x => decide (0 ≤ x) && decide (x ≤ (l.getD i TWanted.dflt).1)) p then .inr () else .inl false) := by
        refine allI_loop (f := fun i => spec_blParts_l0 p l (l.length : Int) i) ?_ fun i hi => ?_
        · show spec_blParts_l0 _ _ _ _ = _
          rw [spec_blParts_l0_eq]; unfold spec_blParts_l0K
          rw [lt_out (by omega)]
        · show spec_blParts_l0 _ _ _ _ = _
          have hil : i < l.length := by omega
          have hg : l.getD i TWanted.dflt = l[i] := by simp [hil]
          rw [spec_blParts_l0_eq]; unfold spec_blParts_l0K
          rw [loop_step hil, wr_succ hil (by omega), lat_nat hi, hg]
          unfold spec_l1In spec_l1InK
          simp only [Option.bind_some]
          by_cases c1 : 0 ≤ p[i] <;> by_cases c2 : p[i] ≤ l[i].1 <;> simp [c1, c2]
      simp only [c, decide_true, Bool.not_true, cond_false, Bool.true_and, Option.bind_some, h1]
      cases allI (fun i x => decide (0 ≤ x) && decide (x ≤ (l.getD i TWanted.dflt).1)) p <;> rfl
    · simp [c]

/-! ### Sums -/
def bsum (f : DWanted → Int) : List Int → List DWanted → Int
  | p :: ps, b :: bs => p * f b + bsum f ps bs
  | _, _ => 0
theorem bsum_drop {f : DWanted → Int} {p : List Int} {l : List DWanted} {i : Nat} (hp : i < p.length) (hl : i < l.length) : bsum f (p.drop i) (l.drop i) = p[i] * f l[i] + bsum f (p.drop (i + 1)) (l.drop (i + 1)) := by
  rw [drop_cons hp, drop_cons hl]; rfl
theorem bsum_end {f : DWanted → Int} {l : List DWanted} : bsum f [] l = 0 := by cases l <;> rfl
theorem small_mul {a b : Int} (ha : 0 ≤ a ∧ a ≤ 12) (hb : 0 ≤ b ∧ b ≤ 1000) : 0 ≤ a * b ∧ a * b ≤ 12000 := by
  refine ⟨Int.mul_nonneg ha.1 hb.1, ?_⟩
  have h1 : a * b ≤ 12 * b := Int.mul_le_mul_of_nonneg_right ha.2 hb.1
  omega
structure PartsOk (l : List DWanted) (p : List Int) : Prop where
  n6 : l.length ≤ 6
  len : p.length = l.length
  b : ∀ x ∈ l, binB x = true
  p : ∀ i (h : i < p.length), 0 ≤ p[i] ∧ p[i] ≤ 12
theorem parts_spec {l : List DWanted} {p : List Int} (hb : binsB l = true) (hp : partsB l p = true) : PartsOk l p := by
  simp only [binsB, partsB, Bool.and_eq_true, decide_eq_true_eq] at hb hp
  refine ⟨by omega, by omega, List.all_eq_true.1 hb.2.2, fun i h => ?_⟩
  have := allI_iff.1 hp.2 i h
  have hl : i < l.length := by omega
  have hg : l.getD i TWanted.dflt = l[i] := by simp [hl]
  have hx := List.all_eq_true.1 hb.2.2 _ (List.getElem_mem hl)
  simp only [hg, Bool.and_eq_true, decide_eq_true_eq, binB] at this hx
  omega
theorem PartsOk.bin {l : List DWanted} {p : List Int} (O : PartsOk l p) {i : Nat} (h : i < l.length) : (0 ≤ l[i].2.1 ∧ l[i].2.1 ≤ 1000) ∧ (0 ≤ l[i].2.2.1 ∧ l[i].2.2.1 ≤ 1000) ∧ (0 ≤ l[i].2.2.2.1 ∧ l[i].2.2.2.1 ≤ 1000) := by
  have hx := O.b _ (List.getElem_mem h)
  simp only [Bool.and_eq_true, decide_eq_true_eq, binB] at hx
  omega
def s1 (x : DWanted) : Int := 1
def s2 (x : DWanted) : Int := x.2.1
def s3 (x : DWanted) : Int := x.2.2.1
def s4 (x : DWanted) : Int := x.2.2.2.1
theorem proSums_ok {l : List DWanted} {p : List Int} (O : PartsOk l p) : impl_blendSums l p = some (bsum s1 p l, bsum s2 p l, bsum s3 p l, bsum s4 p l, ()) := by
  have h6 := O.n6
  have hlen := O.len
  have key : ∀ i, i ≤ p.length → ∀ a b c d : Int, 0 ≤ a → a ≤ 12000 * (i : Int) → 0 ≤ b → b ≤ 12000 * (i : Int) → 0 ≤ c → c ≤ 12000 * (i : Int) → 0 ≤ d → d ≤ 12000 * (i : Int) →
      impl_blendSums_l0 l p (p.length : Int) (i : Int) a b c d = some (a + bsum s1 (p.drop i) (l.drop i), b + bsum s2 (p.drop i) (l.drop i), c + bsum s3 (p.drop i) (l.drop i), d + bsum s4 (p.drop i) (l.drop i)) := by
    refine down (fun a b c d _ _ _ _ _ _ _ _ => ?_) fun i hi ih a b c d ha1 ha2 hb1 hb2 hc1 hc2 hd1 hd2 => ?_
    · rw [impl_blendSums_l0_eq]; unfold impl_blendSums_l0K
      rw [lt_out (Nat.le_refl _), List.drop_length]
      simp [bsum_end]
    · have hl : i < l.length := by omega
      have hp := O.p i hi
      obtain ⟨q2, q3, q4⟩ := O.bin hl
      have m2 := small_mul hp q2
      have m3 := small_mul hp q3
      have m4 := small_mul hp q4
      rw [impl_blendSums_l0_eq]; unfold impl_blendSums_l0K
      rw [loop_step hi, wr_succ hi (by omega)]
      simp only [lat_nat hl, Option.bind_some]
      rw [wr (n := p[i] * l[i].2.1) (by omega) (by omega), wr (n := p[i] * l[i].2.2.1) (by omega) (by omega), wr (n := p[i] * l[i].2.2.2.1) (by omega) (by omega)]
      rw [wr (n := a + p[i]) (by omega) (by omega), wr (n := b + p[i] * l[i].2.1) (by omega) (by omega), wr (n := c + p[i] * l[i].2.2.1) (by omega) (by omega), wr (n := d + p[i] * l[i].2.2.2.1) (by omega) (by omega)]
      rw [ih _ _ _ _ (by omega) (by omega) (by omega) (by omega) (by omega) (by omega) (by omega) (by omega)]
      rw [bsum_drop hi hl, bsum_drop hi hl, bsum_drop hi hl, bsum_drop hi hl]
      simp only [s1, s2, s3, s4, Int.mul_one, Int.add_assoc]
  have k0 := key 0 (Nat.zero_le _) 0 0 0 0 (by omega) (by simp) (by omega) (by simp) (by omega) (by simp) (by omega) (by simp)
  have k0 : impl_blendSums_l0 l p (p.length : Int) 0 0 0 0 0 = some ((0 : Int) + bsum s1 p l, (0 : Int) + bsum s2 p l, (0 : Int) + bsum s3 p l, (0 : Int) + bsum s4 p l) := k0
  simp only [Int.zero_add] at k0
  unfold impl_blendSums impl_blendSumsK
  rw [k0]; rfl
theorem getD_nat' {α : Type} {l : List α} {i : Nat} {d : α} (h : i < l.length) : l.getD (0 + ((i : Nat) : Int).toNat) d = l[i] := by simp [h]
theorem bl_step {ps : List Int} {i : Nat} (hi : i < ps.length) {ws r : List Int} {k : Nat} (hk : k < ws.length) (hw : ws.length = 4) (hr : r.length = 4) (hm : 0 ≤ ps[i] * ws[k] ∧ ps[i] * ws[k] ≤ 12000) (hb : 0 ≤ r[k]'(by omega) ∧ r[k]'(by omega) ≤ 1000000) :
    spec_blSums_l1 ps (i : Int) (ws.length : Int) ws (k : Int) r = spec_blSums_l1 ps (i : Int) (ws.length : Int) ws ((k + 1 : Nat) : Int) (r.set k (r[k]'(by omega) + ps[i] * ws[k])) := by
  have hkr : k < r.length := by omega
  have e0 : (0 : Nat) + ((k : Int)).toNat = k := by omega
  rw [spec_blSums_l1_eq]; unfold spec_blSums_l1K
  rw [lt_in hk, ck_in hk, ck_in hkr, wr_succ hk (by omega), getD_nat' hkr, getD_nat' hk, lat_nat hi]
  simp only [Option.bind_some, e0]
  rw [wr (n := ps[i] * ws[k]) (by omega) (by omega), wr (by omega) (by omega), ck_in hkr]
theorem refSums_ok {l : List DWanted} {p : List Int} (O : PartsOk l p) : spec_blSums l p = some [bsum s1 p l, bsum s2 p l, bsum s3 p l, bsum s4 p l] := by
  have h6 := O.n6
  have hlen := O.len
  have key : ∀ i, i ≤ l.length → ∀ a b c d : Int, 0 ≤ a → a ≤ 12000 * (i : Int) → 0 ≤ b → b ≤ 12000 * (i : Int) → 0 ≤ c → c ≤ 12000 * (i : Int) → 0 ≤ d → d ≤ 12000 * (i : Int) →
      spec_blSums_l0 p l (l.length : Int) (i : Int) [a, b, c, d] = some [a + bsum s1 (p.drop i) (l.drop i), b + bsum s2 (p.drop i) (l.drop i), c + bsum s3 (p.drop i) (l.drop i), d + bsum s4 (p.drop i) (l.drop i)] := by
    refine down (fun a b c d _ _ _ _ _ _ _ _ => ?_) fun i hi ih a b c d ha1 ha2 hb1 hb2 hc1 hc2 hd1 hd2 => ?_
    · rw [spec_blSums_l0_eq]; unfold spec_blSums_l0K
      rw [lt_out (Nat.le_refl _), ← hlen, List.drop_length]
      simp [bsum_end]
    · have hp' : i < p.length := by omega
      have hp := O.p i hp'
      obtain ⟨q2, q3, q4⟩ := O.bin hi
      have m1 := small_mul hp (b := 1) ⟨by omega, by omega⟩
      have m2 := small_mul hp q2
      have m3 := small_mul hp q3
      have m4 := small_mul hp q4
      have st : spec_blSums_l1 p (i : Int) (([1, l[i].2.1, l[i].2.2.1, l[i].2.2.2.1] : List Int).length : Int) [1, l[i].2.1, l[i].2.2.1, l[i].2.2.2.1] 0 [a, b, c, d] =
          some [a + p[i] * 1, b + p[i] * l[i].2.1, c + p[i] * l[i].2.2.1, d + p[i] * l[i].2.2.2.1] := by
        have t0 := bl_step hp' (ws := [1, l[i].2.1, l[i].2.2.1, l[i].2.2.2.1]) (r := [a, b, c, d]) (k := 0) (by simp) rfl rfl m1 (by simp; omega)
        have t1 := bl_step hp' (ws := [1, l[i].2.1, l[i].2.2.1, l[i].2.2.2.1]) (r := [a + p[i] * 1, b, c, d]) (k := 1) (by simp) rfl rfl m2 (by simp; omega)
        have t2 := bl_step hp' (ws := [1, l[i].2.1, l[i].2.2.1, l[i].2.2.2.1]) (r := [a + p[i] * 1, b + p[i] * l[i].2.1, c, d]) (k := 2) (by simp) rfl rfl m3 (by simp; omega)
        have t3 := bl_step hp' (ws := [1, l[i].2.1, l[i].2.2.1, l[i].2.2.2.1]) (r := [a + p[i] * 1, b + p[i] * l[i].2.1, c + p[i] * l[i].2.2.1, d]) (k := 3) (by simp) rfl rfl m4 (by simp; omega)
        refine t0.trans (t1.trans (t2.trans (t3.trans ?_)))
        rw [spec_blSums_l1_eq]; unfold spec_blSums_l1K
        rw [lt_out (by simp)]
        rfl
      rw [spec_blSums_l0_eq]; unfold spec_blSums_l0K
      rw [loop_step hi, wr_succ hi (by omega)]
      simp only [st, Option.bind_some]
      rw [ih _ _ _ _ (by omega) (by omega) (by omega) (by omega) (by omega) (by omega) (by omega) (by omega)]
      rw [bsum_drop hp' hi, bsum_drop hp' hi, bsum_drop hp' hi, bsum_drop hp' hi]
      simp only [s1, s2, s3, s4, Int.add_assoc]
  have k0 := key 0 (Nat.zero_le _) 0 0 0 0 (by omega) (by simp) (by omega) (by simp) (by omega) (by simp) (by omega) (by simp)
  have k0 : spec_blSums_l0 p l (l.length : Int) 0 [0, 0, 0, 0] = some [(0 : Int) + bsum s1 p l, (0 : Int) + bsum s2 p l, (0 : Int) + bsum s3 p l, (0 : Int) + bsum s4 p l] := k0
  simp only [Int.zero_add] at k0
  unfold spec_blSums spec_blSumsK
  have e : (List.replicate 4 0 : List Int) = [0, 0, 0, 0] := rfl
  rw [e]
  simp only [Option.bind_some, k0]
end
end Go.OAI
