/- TakeTonnes: the law in plain words. -/
import Derived.Test.YtfkdmflcildgbaaDoorPa
namespace Go.OAI
set_option linter.unusedVariables false
noncomputable section

/-- What is left of lots, and what is taken, when d tonnes are taken. -/
def takeF : Int → List DLot → List DLot × Int × Int
  | _, [] => ([], 0, 0)
  | d, e :: l =>
    let c := if d < e.1 then d else e.1
    let m := (e.2.1 * c).tdiv e.1
    let r := takeF (d - c) l
    (if c < e.1 then (e.1 - c, e.2.1 - m, ()) :: r.1 else r.1, c + r.2.1, m + r.2.2)
theorem takeF_zero : ∀ l : List DLot, l.all lotB = true → takeF 0 l = (l, 0, 0)
  | [], _ => rfl
  | e :: l, h => by
    simp only [List.all_cons, Bool.and_eq_true] at h
    have he := lotB_spec h.1
    have c : (0 : Int) < e.1 := by omega
    have ih := takeF_zero l h.2
    simp [takeF, c, ih]
theorem cut_bound {e : DLot} (h : lotB e = true) {c : Int} (h0 : 0 ≤ c) (h1 : c ≤ e.1) :
    0 ≤ (e.2.1 * c).tdiv e.1 ∧ (e.2.1 * c).tdiv e.1 ≤ e.2.1 ∧ (e.2.1 * c).tdiv e.1 ≤ 1000 * c ∧ e.2.1 - (e.2.1 * c).tdiv e.1 ≤ 1000 * (e.1 - c) ∧ 0 ≤ e.2.1 * c ∧ e.2.1 * c ≤ 1000000000000000 := by
  obtain ⟨t, m, ⟨⟩⟩ := e
  have he := lotB_spec h
  dsimp only at *
  have hmc : 0 ≤ m * c := Int.mul_nonneg he.2.2.1 h0
  rw [Int.tdiv_eq_ediv_of_nonneg hmc]
  have h2 : m * c ≤ m * t := Int.mul_le_mul_of_nonneg_left h1 he.2.2.1
  have h3 : m * c ≤ 1000 * t * c := Int.mul_le_mul_of_nonneg_right he.2.2.2 h0
  have h4 : m * t ≤ 1000000000 * 1000000 := Int.mul_le_mul (by omega) he.2.1 (by omega) (by omega)
  have h6 : m * (t - c) ≤ 1000 * t * (t - c) := Int.mul_le_mul_of_nonneg_right he.2.2.2 (by omega)
  refine ⟨Int.ediv_nonneg hmc (by omega), ?_, ?_, ?_, hmc, by omega⟩
  · exact Int.ediv_le_of_le_mul (by omega) h2
  · exact Int.ediv_le_of_le_mul (by omega) (by rw [Int.mul_right_comm]; exact h3)
  · have : m - 1000 * (t - c) ≤ m * c / t := Int.le_ediv_of_mul_le (by omega) (by
      have e1 : m * (t - c) = m * t - m * c := Int.mul_sub ..
      have e2 : (m - 1000 * (t - c)) * t = m * t - 1000 * t * (t - c) := by rw [Int.sub_mul, Int.mul_right_comm]
      omega)
    omega
theorem takeF_spec : ∀ (l : List DLot) (d : Int), l.all lotB = true → 0 ≤ d → d ≤ tS l →
    (takeF d l).1.all lotB = true ∧ (takeF d l).1.length ≤ l.length ∧ (takeF d l).2.1 = d ∧ 0 ≤ (takeF d l).2.2 ∧ (takeF d l).2.2 ≤ 1000 * d ∧ tS (takeF d l).1 = tS l - d
  | [], d, _, h0, h1 => by
    have : d = 0 := by simp [tS] at h1; omega
    subst this; simp [takeF, tS]
  | e :: l, d, h, h0, h1 => by
    simp only [List.all_cons, Bool.and_eq_true] at h
    have he := lotB_spec h.1
    rw [tS_cons] at h1
    have hb := sums_bound l h.2
    have hc := cut_bound h.1 (c := if d < e.1 then d else e.1) (by split <;> omega) (by split <;> omega)
    have ih := takeF_spec l (d - if d < e.1 then d else e.1) h.2 (by split <;> omega) (by split <;> omega)
    unfold takeF
    dsimp only
    generalize (e.2.1 * if d < e.1 then d else e.1).tdiv e.1 = m at *
    by_cases c : d < e.1
    · simp only [c, if_true] at hc ih ⊢
      refine ⟨?_, ?_, by omega, by omega, by omega, ?_⟩
      · simp only [List.all_cons, Bool.and_eq_true]
        refine ⟨?_, ih.1⟩
        simp only [lotB, decide_eq_true_eq]; omega
      · exact Nat.succ_le_succ ih.2.1
      · rw [tS_cons, tS_cons]; omega
    · simp only [c, if_false] at hc ih ⊢
      have c2 : ¬ e.1 < e.1 := by omega
      simp only [c2, if_false]
      refine ⟨ih.1, by simp; omega, by omega, by omega, by omega, ?_⟩
      rw [tS_cons]; omega
theorem lotSum2 (t m c k : Int) (h0 : 0 ≤ t) (h1 : t ≤ 4000000000000000000) (h2 : 0 ≤ m) (h3 : m ≤ 4000000000000000000) (h4 : 0 ≤ c) (h5 : c ≤ 4000000000000000000) (h6 : 0 ≤ k) (h7 : k ≤ 4000000000000000000) :
    impl_lotSum [(t, (m, ())), (c, k, ())] = some (t + c, m + k, ()) := by
  have s1 : IntKind.i64.wrap (0 + t) = t := by rw [wr (by omega) (by omega)]; omega
  have s2 : IntKind.i64.wrap (0 + m) = m := by rw [wr (by omega) (by omega)]; omega
  have s3 : IntKind.i64.wrap (t + c) = t + c := wr (by omega) (by omega)
  have s4 : IntKind.i64.wrap (m + k) = m + k := wr (by omega) (by omega)
  have w1 : IntKind.i64.wrap 1 = 1 := by decide
  have w2 : IntKind.i64.wrap 2 = 2 := by decide
  unfold impl_lotSum impl_lotSumK
  have s1' : IntKind.i64.wrap t = t := wr (by omega) (by omega)
  have s2' : IntKind.i64.wrap m = m := wr (by omega) (by omega)
  rw [impl_lotSum_l0_eq]; unfold impl_lotSum_l0K
  simp [lat, w1, s1', s2']
  rw [impl_lotSum_l0_eq]; unfold impl_lotSum_l0K
  simp [lat, w1, w2, s3, s4]
  rw [impl_lotSum_l0_eq]; unfold impl_lotSum_l0K
  simp
theorem take_loop (L : List DLot) (h : L.all lotB = true) (hn : L.length ≤ 40) : ∀ i, i ≤ L.length → ∀ (d : Int) (acc : List DLot) (t m : Int),
    0 ≤ d → d ≤ 1000000000 → acc.length ≤ i → 0 ≤ t → t ≤ 1000000 * (i : Int) → 0 ≤ m → m ≤ 1000000000 * (i : Int) →
      impl_takeTonnes_l0 L (L.length : Int) d i acc t m = some (acc ++ (takeF d (L.drop i)).1, t + (takeF d (L.drop i)).2.1, m + (takeF d (L.drop i)).2.2) := by
  refine down (fun d acc t m h1 h2 h3 h4 h5 h6 h7 => ?_) fun i hi ih d acc t m h1 h2 h3 h4 h5 h6 h7 => ?_
  · rw [impl_takeTonnes_l0_eq]; unfold impl_takeTonnes_l0K
    rw [lt_out (Nat.le_refl _)]
    simp [takeF]
  · have hx : lotB L[i] = true := List.all_eq_true.1 h _ (List.getElem_mem hi)
    have he := lotB_spec hx
    have hc := cut_bound hx (c := if d < L[i].1 then d else L[i].1) (by split <;> omega) (by split <;> omega)
    have hcc : 0 ≤ (if d < L[i].1 then d else L[i].1) ∧ (if d < L[i].1 then d else L[i].1) ≤ d ∧ (if d < L[i].1 then d else L[i].1) ≤ L[i].1 := by split <;> omega
    rw [impl_takeTonnes_l0_eq]; unfold impl_takeTonnes_l0K
    rw [loop_step hi, drop_cons hi, wr_succ hi (by omega)]
    unfold takeF
    unfold impl_splitOff impl_splitOffK
    dsimp only
    generalize (if d < L[i].1 then d else L[i].1) = c at *
    rw [wr (n := L[i].2.1 * c) (by omega) (by omega)]
    generalize (L[i].2.1 * c).tdiv L[i].1 = k at *
    have ht : ¬ L[i].1 = 0 := by omega
    rw [wr (n := k) (by omega) (by omega)]
    simp only [ht, decide_false, cond_false, Option.bind_some]
    rw [lotSum2 t m c k (by omega) (by omega) (by omega) (by omega) (by omega) (by omega) (by omega) (by omega)]
    simp only [Option.bind_some]
    rw [wr (n := d - c) (by omega) (by omega), wr (n := L[i].1 - c) (by omega) (by omega), wr (n := L[i].2.1 - k) (by omega) (by omega)]
    by_cases cc : c < L[i].1
    · have hl : acc.length + [((L[i].1 - c, L[i].2.1 - k, ()) : DLot)].length ≤ 1099511627776 := by simp; omega
      simp only [cc, decide_true, cond_true, hl, Option.bind_some, if_true]
      rw [ih _ _ _ _ (by omega) (by omega) (by simp; omega) (by omega) (by omega) (by omega) (by omega)]
      simp only [List.append_assoc, List.singleton_append, Option.some.injEq, Prod.mk.injEq, true_and]
      constructor <;> omega
    · simp only [cc, decide_false, cond_false, if_false]
      rw [ih _ _ _ _ (by omega) (by omega) (by omega) (by omega) (by omega) (by omega) (by omega)]
      simp only [Option.some.injEq, Prod.mk.injEq, true_and]
      constructor <;> omega
theorem spTake_loop (x : Int) (hx : x ≤ 1000000000) : ∀ (W : List DLot), W.all lotB = true → W.length ≤ 41 → ∀ (o n : Nat) (t m : Int) (b : List DLot), (b.drop o).take n = W → n = W.length → 0 ≤ t → t ≤ x → x - t ≤ tS W → 0 ≤ m → m ≤ 1000 * t →
    ∃ (o' n' : Nat) (b' : List DLot), spec_spTake_l0 x o n t m b = some (o', n', x, m + (takeF (x - t) W).2.2, b') ∧ (b'.drop o').take n' = (takeF (x - t) W).1
  | [], h, _, o, n, t, m, b, hw, hn, h0, h1, h2, h3, h4 => by
    have e : x = t := by simp [tS] at h2; omega
    subst e
    rw [spec_spTake_l0_eq]; unfold spec_spTake_l0K
    have c : ¬ x < x := by omega
    simp only [c, decide_false, cond_false]
    exact ⟨o, n, b, by simp [takeF], by rw [hw]; simp [takeF]⟩
  | e :: W, h, hlen, o, n, t, m, b, hw, hn, h0, h1, h2, h3, h4 => by
    have hall := h
    simp only [List.all_cons, Bool.and_eq_true] at h
    have he := lotB_spec h.1
    rw [tS_cons] at h2
    simp only [List.length_cons] at hlen hn
    by_cases c : t < x
    · have hg : b.getD (o + 0) TLot.dflt = e := by
        have : ((b.drop o).take n)[0]? = some e := by rw [hw]; rfl
        rw [List.getElem?_take, if_pos (by omega), List.getElem?_drop] at this
        simp only [Nat.add_zero] at this ⊢
        rw [List.getD_eq_getElem?_getD, this]; rfl
      have hw2 : (b.drop (o + 1)).take (n - 1) = W := by
        have : ((b.drop o).take n).drop 1 = W := by rw [hw]; rfl
        rw [List.drop_take, List.drop_drop] at this
        exact this
      have hwl : ((((b.drop o).take n).length : Int).toNat - 1) = n - 1 := by rw [hw]; simp; omega
      have l1 : (0 : Int) < (((b.drop o).take n).length : Int) := by rw [hw]; simp
      have l2 : (1 : Int) ≤ (((b.drop o).take n).length : Int) := by omega
      rw [spec_spTake_l0_eq]; unfold spec_spTake_l0K
      simp only [c, l1, l2, Int.le_refl, decide_true, cond_true, Bool.and_self, hwl, hw2, hg]
      rw [wr (n := x - t) (by omega) (by omega)]
      by_cases c2 : x - t < e.1
      · have hc := cut_bound h.1 (c := x - t) (by omega) (by omega)
        unfold spec_spSplit spec_spSplitK
        have ht : ¬ e.1 = 0 := by omega
        simp only [c2, decide_true, cond_true, ht, decide_false, cond_false, Option.bind_some]
        rw [wr (n := e.2.1 * (x - t)) (by omega) (by omega)]
        unfold takeF
        simp only [c2, if_true]
        have e0 : x - t - (x - t) = 0 := by omega
        rw [e0, takeF_zero W h.2]
        generalize (e.2.1 * (x - t)).tdiv e.1 = k at *
        rw [wr (n := k) (by omega) (by omega), wr (n := e.2.1 - k) (by omega) (by omega), wr (n := e.1 - (x - t)) (by omega) (by omega), wr (n := t + (x - t)) (by omega) (by omega), wr (n := m + k) (by omega) (by omega)]
        have hl : [((e.1 - (x - t), e.2.1 - k, ()) : DLot)].length + W.length ≤ 1099511627776 := by simp; omega
        simp only [hl, decide_true, cond_true]
        have e1 : t + (x - t) = x := by omega
        rw [e1, spec_spTake_l0_eq]; unfold spec_spTake_l0K
        have c3 : ¬ x < x := by omega
        simp only [c3, decide_false, cond_false]
        exact ⟨0, W.length + 1, (e.1 - (x - t), e.2.1 - k, ()) :: W, by simp, by simp⟩
      · simp only [c2, decide_false, cond_false]
        have ek : (e.2.1 * e.1).tdiv e.1 = e.2.1 := Int.mul_tdiv_cancel _ (by omega)
        rw [wr (n := t + e.1) (by omega) (by omega), wr (n := m + e.2.1) (by omega) (by omega)]
        obtain ⟨o', n', b', g1, g2⟩ := spTake_loop x hx W h.2 (by omega) (o + 1) (n - 1) (t + e.1) (m + e.2.1) b hw2 (by omega) (by omega) (by omega) (by omega) (by omega) (by omega)
        have e3 : x - t - e.1 = x - (t + e.1) := by omega
        have c4 : ¬ e.1 < e.1 := by omega
        unfold takeF
        simp only [c2, if_false, ek, c4, e3]
        refine ⟨o', n', b', ?_, g2⟩
        rw [g1]
        simp only [Option.some.injEq, Prod.mk.injEq, true_and, and_true]
        omega
    · have e0 : x = t := by omega
      subst e0
      rw [spec_spTake_l0_eq]; unfold spec_spTake_l0K
      have c : ¬ x < x := by omega
      simp only [c, decide_false, cond_false]
      have e4 : x - x = 0 := by omega
      rw [e4, takeF_zero _ hall]
      exact ⟨o, n, b, by simp, hw⟩
end
end Go.OAI
