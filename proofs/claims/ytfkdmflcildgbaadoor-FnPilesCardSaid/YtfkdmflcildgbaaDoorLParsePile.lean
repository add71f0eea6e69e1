/- ParsePile: the law in plain words. -/
import Derived.Test.YtfkdmflcildgbaaDoorPtx
import Derived.Test.YtfkdmflcildgbaaDoorPwd
namespace Go.OAI
set_option linter.unusedVariables false
noncomputable section

theorem eqS_iff {a b : ByteArray} : eqS a b = true ↔ a = b := by
  constructor
  · intro h
    unfold eqS at h
    rw [Lib.toList_data, Lib.toList_data] at h
    rw [← BA_of a, ← BA_of b, beq_iff_eq.1 h]
  · rintro rfl; exact eqS_refl _
theorem bat_at {l : List UInt8} {i : Nat} (h : i < l.length) : bat (BA l) (i : Int) = some (l[i].toNat : Int) := by
  unfold bat
  rw [decide_eq_true (by omega : (0 : Int) ≤ i), cond_true, BA_data]
  simp [h]
theorem BA_extract (l : List UInt8) (a b : Nat) : (BA l).extract a b = BA ((l.drop a).take (b - a)) := by
  rw [← BA_of ((BA l).extract a b), Lib.extract_data, BA_data]
theorem split_loop (l : List UInt8) (hl : l.length ≤ 1048576) : ∀ i, i ≤ l.length → ∀ (f : Nat) (ws : List ByteArray), f ≤ i → 32 ∉ (l.drop f).take (i - f) → ws.length ≤ i →
    ∃ (f' : Nat) (ws' : List ByteArray), spec_l1Split_l0 (BA l) 32 (f : Int) (i : Int) ws = some ((f' : Int), ws') ∧ f' ≤ l.length ∧ ws'.length ≤ l.length ∧ ws' ++ [BA (l.drop f')] = ws ++ (spl (l.drop f)).map BA := by
  refine down ?_ ?_
  · intro f ws hf hn hw
    rw [spec_l1Split_l0_eq]
    unfold spec_l1Split_l0K
    rw [BA_size, lt_out (Nat.le_refl _)]
    rw [List.take_of_length_le (by simp)] at hn
    exact ⟨f, ws, rfl, hf, hw, by rw [spl_one _ hn]; rfl⟩
  · intro i hi ih f ws hf hn hw
    rw [spec_l1Split_l0_eq]
    unfold spec_l1Split_l0K
    rw [BA_size, lt_in hi, bat_at hi]
    simp only [Option.bind_some]
    by_cases hc : l[i] = 32
    · have e1 : (((l[i].toNat : Nat) : Int) == 32) = true := by rw [hc]; rfl
      rw [e1, cond_true]
      rw [decide_eq_true (by omega : (0 : Int) ≤ f), decide_eq_true (by omega : (f : Int) ≤ i), decide_eq_true (by omega : (i : Int) ≤ l.length)]
      simp only [Bool.and_self, cond_true, Int.toNat_natCast, List.length_singleton, BA_extract]
      rw [decide_eq_true (by omega), cond_true, wr_succ hi (by omega)]
      obtain ⟨f', ws', h1, h2, h3, h4⟩ := ih (i + 1) (ws ++ [BA ((l.drop f).take (i - f))]) (Nat.le_refl _) (by simp) (by simp; omega)
      refine ⟨f', ws', h1, h2, h3, ?_⟩
      rw [h4]
      have e2 : l.drop f = (l.drop f).take (i - f) ++ 32 :: l.drop (i + 1) := by
        conv => lhs; rw [← List.take_append_drop (i - f) (l.drop f)]
        rw [List.drop_drop, show f + (i - f) = i by omega, drop_cons hi, hc]
      conv => rhs; rw [e2]
      rw [spl_cut _ _ hn]
      simp
    · have e1 : (((l[i].toNat : Nat) : Int) == 32) = false := by
        rw [beq_eq_false_iff_ne]
        intro e
        apply hc
        apply UInt8.toNat_inj.1
        show l[i].toNat = 32
        omega
      rw [e1, cond_false, wr_succ hi (by omega)]
      refine ih f ws (by omega) ?_ (by omega)
      have e2 : (l.drop f).take (i + 1 - f) = (l.drop f).take (i - f) ++ [l[i]] := by
        rw [show i + 1 - f = (i - f) + 1 by omega, List.take_add_one]
        congr 1
        rw [List.getElem?_drop, show f + (i - f) = i by omega]
        simp [hi]
      rw [e2]
      simp only [List.mem_append, List.mem_singleton, not_or]
      exact ⟨hn, fun e => hc e.symm⟩
theorem l1Split_ok (l : List UInt8) (hl : l.length ≤ 1048576) : spec_l1Split (BA l) 32 = some ((spl l).map BA) := by
  obtain ⟨f', ws', h1, h2, h3, h4⟩ := split_loop l hl 0 (by omega) 0 [] (by omega) (by simp) (by simp)
  simp only [List.drop_zero, List.nil_append] at h4
  have h1 : spec_l1Split_l0 (BA l) 32 0 0 [] = some ((f' : Int), ws') := h1
  unfold spec_l1Split spec_l1SplitK
  rw [h1]
  simp only [Option.bind_some, BA_size, Int.toNat_natCast, BA_extract]
  rw [decide_eq_true (by omega : (0 : Int) ≤ f'), decide_eq_true (by omega : (f' : Int) ≤ l.length), decide_eq_true (by omega : (l.length : Int) ≤ l.length)]
  simp only [Bool.and_self, cond_true, List.length_singleton]
  rw [decide_eq_true (by omega), cond_true, List.take_of_length_le (by simp), h4]
theorem lib_Split_ok (l : List UInt8) (hl : l.length ≤ 1048576) : lib_Split (BA l) (⟨#[32]⟩ : ByteArray) = some ((spl l).map BA) := by
  unfold lib_Split
  rw [BA_size, decide_eq_true (by omega), decide_eq_true (by decide)]
  simp only [Bool.and_self, cond_true, Option.some.injEq]
  have h1 := Lib.splitB_data (⟨#[32]⟩ : ByteArray) 0 (Lib.countB (BA l) (⟨#[32]⟩ : ByteArray)) (BA l)
  have h2 : Lib.countB (BA l) (⟨#[32]⟩ : ByteArray) = Lib.count l [32] := by
    show Lib.count (BA l).data.toList [32] = _
    rw [BA_data]
  have h3 : (⟨#[32]⟩ : ByteArray).data.toList = [32] := rfl
  rw [h3, BA_data, h2, splitK_spl _ l (Nat.le_refl _)] at h1
  rw [h2, ← h1, List.map_map]
  conv => lhs; rw [← List.map_id (Lib.splitB (⟨#[32]⟩ : ByteArray) 0 (Lib.count l [32]) (BA l))]
  apply List.map_congr_left
  intro s _
  exact (BA_of s).symm
theorem lib_Count_ok (l : List UInt8) : lib_Count (BA l) (⟨#[32]⟩ : ByteArray) = some ((l.count 32 : Nat) : Int) := by
  unfold lib_Count
  show some (((Lib.countByte (BA l).data.toList 32 : Nat)) : Int) = _
  rw [BA_data]; rfl
theorem cut_hit (p r : List UInt8) : lib_CutPrefix (BA (p ++ r)) (BA p) = some (BA r, true) := by
  unfold lib_CutPrefix Lib.trimPrefix Lib.hasPrefix
  simp only [BA_data]
  have : p.isPrefixOf (p ++ r) = true := by simp
  simp [this, BA]
theorem cut_miss (p l : List UInt8) (h : p.isPrefixOf l = false) : lib_CutPrefix (BA l) (BA p) = some (BA l, false) := by
  unfold lib_CutPrefix Lib.trimPrefix Lib.hasPrefix
  simp only [BA_data]
  simp [h, BA]

/-! ### Numbers -/
theorem wr8 {n : Int} (h0 : 0 ≤ n) (h1 : n ≤ 255) : IntKind.u8.wrap n = n := by
  unfold IntKind.wrap
  simp [IntKind.bits, IntKind.signed]
  omega
theorem dval_take {w : List UInt8} {i : Nat} (hi : i < w.length) : dval (w.take (i + 1)) = 10 * dval (w.take i) + (w[i].toNat - 48) := by
  rw [List.take_add_one, List.getElem?_eq_getElem hi, Option.toList_some, dval_snoc]
theorem pow_le {k : Nat} (h : k ≤ 15) : 10 ^ k ≤ 1000000000000000 := Nat.le_trans (Nat.pow_le_pow_right (by omega) h) (by decide)
theorem step_num {n c : Int} (h0 : 0 ≤ n) (h1 : n < 1000000000000000) (hc : 48 ≤ c) (hc' : c ≤ 57) : IntKind.i64.wrap (IntKind.i64.wrap (10 * n) + IntKind.i64.wrap (IntKind.u8.wrap (c - 48))) = 10 * n + (c - 48) := by
  rw [wr8 (by omega) (by omega), wr (n := 10 * n) (by omega) (by omega), wr (n := c - 48) (by omega) (by omega), wr (by omega) (by omega)]
theorem decimal_loop (w : List UInt8) (hw : w.length ≤ 15) : ∀ i, i ≤ w.length → (w.take i).all isDg = true →
    impl_decimal_l0 (BA w) ((dval (w.take i) : Nat) : Int) (i : Int) = some (if (w.drop i).all isDg then .inr ((dval w : Nat) : Int) else .inl (0, false)) := by
  refine down ?_ ?_
  · intro _
    rw [impl_decimal_l0_eq]
    unfold impl_decimal_l0K
    rw [BA_size, lt_out (Nat.le_refl _)]
    simp
  · intro i hi ih ht
    rw [impl_decimal_l0_eq]
    unfold impl_decimal_l0K
    rw [BA_size, lt_in hi, bat_at hi]
    simp only [Option.bind_some]
    have hd := dval_lt (w.take i) ht
    have hp := pow_le (k := (w.take i).length) (by simp; omega)
    by_cases h : isDg w[i] = true
    · have hc := isDg_le h
      rw [decide_eq_false (by omega : ¬ ((w[i].toNat : Nat) : Int) < 48), decide_eq_false (by omega : ¬ ((w[i].toNat : Nat) : Int) > 57)]
      simp only [cond_false]
      rw [step_num (by omega) (by omega) (by omega) (by omega), wr_succ hi (by omega)]
      have e : (10 * ((dval (w.take i) : Nat) : Int) + (((w[i].toNat : Nat) : Int) - 48)) = ((dval (w.take (i + 1)) : Nat) : Int) := by
        rw [dval_take hi]; omega
      rw [e, ih (by rw [List.take_add_one, List.getElem?_eq_getElem hi, Option.toList_some, List.all_append, ht]; simp [h]), drop_cons hi]
      simp only [List.all_cons, h, Bool.true_and]
    · have hf : (w.drop i).all isDg = false := by rw [drop_cons hi, List.all_cons, Bool.eq_false_iff.2 h]; rfl
      rw [hf]
      by_cases h1 : w[i].toNat < 48
      · rw [decide_eq_true (by omega : ((w[i].toNat : Nat) : Int) < 48)]; simp
      · have h2 : ¬ w[i].toNat ≤ 57 := fun h2 => h (by simp [isDg]; omega)
        rw [decide_eq_false (by omega : ¬ ((w[i].toNat : Nat) : Int) < 48), decide_eq_true (by omega : ((w[i].toNat : Nat) : Int) > 57)]; simp
theorem number_loop (w : List UInt8) (hw : w.length ≤ 15) : ∀ i, i ≤ w.length → (w.take i).all isDg = true →
    spec_spNumber_l0 (BA w) ((dval (w.take i) : Nat) : Int) (i : Int) = some (if (w.drop i).all isDg then .inr ((dval w : Nat) : Int) else .inl (-1)) := by
  refine down ?_ ?_
  · intro _
    rw [spec_spNumber_l0_eq]
    unfold spec_spNumber_l0K
    rw [BA_size, lt_out (Nat.le_refl _)]
    simp
  · intro i hi ih ht
    rw [spec_spNumber_l0_eq]
    unfold spec_spNumber_l0K
    rw [BA_size, lt_in hi, bat_at hi]
    simp only [Option.bind_some]
    have hd := dval_lt (w.take i) ht
    have hp := pow_le (k := (w.take i).length) (by simp; omega)
    by_cases h : isDg w[i] = true
    · have hc := isDg_le h
      rw [decide_eq_false (by omega : ¬ ((w[i].toNat : Nat) : Int) < 48), decide_eq_false (by omega : ¬ ((w[i].toNat : Nat) : Int) > 57)]
      simp only [cond_false]
      rw [step_num (by omega) (by omega) (by omega) (by omega), wr_succ hi (by omega)]
      have e : (10 * ((dval (w.take i) : Nat) : Int) + (((w[i].toNat : Nat) : Int) - 48)) = ((dval (w.take (i + 1)) : Nat) : Int) := by
        rw [dval_take hi]; omega
      rw [e, ih (by rw [List.take_add_one, List.getElem?_eq_getElem hi, Option.toList_some, List.all_append, ht]; simp [h]), drop_cons hi]
      simp only [List.all_cons, h, Bool.true_and]
    · have hf : (w.drop i).all isDg = false := by rw [drop_cons hi, List.all_cons, Bool.eq_false_iff.2 h]; rfl
      rw [hf]
      by_cases h1 : w[i].toNat < 48
      · rw [decide_eq_true (by omega : ((w[i].toNat : Nat) : Int) < 48)]; simp
      · have h2 : ¬ w[i].toNat ≤ 57 := fun h2 => h (by simp [isDg]; omega)
        rw [decide_eq_false (by omega : ¬ ((w[i].toNat : Nat) : Int) < 48), decide_eq_true (by omega : ((w[i].toNat : Nat) : Int) > 57)]; simp
/-- What the program takes for a number. -/
def goodB (w : List UInt8) : Bool := w.all isDg && (!w.isEmpty && ((w.head? != some 48 || decide (w.length ≤ 1)) && decide (w.length ≤ 15)))
theorem goodB_canon {w : List UInt8} (h : goodB w = true) : canon w := by
  simp only [goodB, Bool.and_eq_true, Bool.or_eq_true, decide_eq_true_eq, bne_iff_ne, Bool.not_eq_true', List.isEmpty_eq_false_iff] at h
  obtain ⟨h1, h2, h3, h4⟩ := h
  refine ⟨h1, h2, fun e => ?_⟩
  rcases h3 with h3 | h3
  · exact absurd e h3
  · cases w with
    | nil => exact absurd rfl h2
    | cons a b => simp at h3 ⊢; exact h3
theorem decimal_ok (w : List UInt8) (hw : w.length ≤ 1048576) : impl_decimal (BA w) = some (if goodB w then (((dval w : Nat) : Int), true) else (0, false)) := by
  unfold impl_decimal impl_decimalK
  have e0 : (⟨#[]⟩ : ByteArray) = BA [] := rfl
  cases w with
  | nil => rw [e0, eqS_refl]; simp [goodB]
  | cons c r =>
    have h1 : eqS (BA (c :: r)) (⟨#[]⟩ : ByteArray) = false := by
      rw [Bool.eq_false_iff]
      intro h
      have := congrArg ByteArray.size (eqS_iff.1 h)
      rw [BA_size, e0, BA_size] at this
      simp at this
    rw [h1, cond_false, BA_size]
    by_cases h15 : (c :: r).length ≤ 15
    · have hb : bat (BA (c :: r)) 0 = some (c.toNat : Int) := bat_at (i := 0) (l := c :: r) (by simp)
      have hl := decimal_loop (c :: r) h15 0 (by omega) rfl
      have hl : impl_decimal_l0 (BA (c :: r)) 0 0 = some (if (c :: r).all isDg then .inr ((dval (c :: r) : Nat) : Int) else .inl (0, false)) := hl
      rw [decide_eq_false (by omega), cond_false, hb]
      simp only [Option.bind_some, hl]
      by_cases hc : c = 48
      · subst hc
        have e1 : (((48 : UInt8).toNat : Int) == 48) = true := rfl
        rw [e1, cond_true]
        by_cases hr : (48 :: r).length ≤ 1
        · obtain rfl : r = [] := by cases r with
            | nil => rfl
            | cons a b => simp at hr
          rfl
        · rw [decide_eq_true (by omega), cond_true]
          have : goodB (48 :: r) = false := Bool.eq_false_iff.2 fun h => hr (Nat.le_of_eq ((goodB_canon h).2.2 rfl))
          simp [this]
      · have e1 : (((c.toNat : Nat) : Int) == 48) = false := by
          rw [beq_eq_false_iff_ne]
          intro e
          apply hc
          apply UInt8.toNat_inj.1
          show c.toNat = 48
          omega
        rw [e1, cond_false]
        have h3 : ((c :: r).head? != some 48) = true := by simp [hc]
        cases ha : (c :: r).all isDg <;> simp only [goodB, ha, h3] <;> simp [sumO] <;> simp at h15 <;> omega
    · rw [decide_eq_true (by omega), cond_true]
      have : goodB (c :: r) = false := by simp [goodB]; intros; simp at h15; omega
      simp [this]
/-- What the reference takes for a number. -/
def numF (w : List UInt8) : Int := if w.all isDg = true ∧ 1 ≤ w.length ∧ w.length ≤ 10 then ((dval w : Nat) : Int) else -1
theorem spNumber_ok (w : List UInt8) (hw : w.length ≤ 1048576) : spec_spNumber (BA w) = some (numF w) := by
  unfold spec_spNumber spec_spNumberK spec_l1In spec_l1InK numF
  rw [BA_size]
  by_cases h : 1 ≤ w.length ∧ w.length ≤ 10
  · have hl := number_loop w (by omega) 0 (by omega) rfl
    have hl : spec_spNumber_l0 (BA w) 0 0 = some (if w.all isDg then .inr ((dval w : Nat) : Int) else .inl (-1)) := hl
    have e1 : (decide ((w.length : Int) ≥ 1)) = true := decide_eq_true (by omega)
    have e2 : (decide ((w.length : Int) ≤ 10)) = true := decide_eq_true (by omega)
    simp only [e1, e2, cond_true, Option.bind_some, Bool.not_true, cond_false, hl]
    cases ha : w.all isDg <;> simp [sumO, h.1, h.2]
  · by_cases h1 : 1 ≤ w.length
    · have h2 : ¬ w.length ≤ 10 := fun h2 => h ⟨h1, h2⟩
      have e1 : (decide ((w.length : Int) ≥ 1)) = true := decide_eq_true (by omega)
      have e2 : (decide ((w.length : Int) ≤ 10)) = false := decide_eq_false (by omega)
      simp [e1, e2, h2]
    · have e1 : (decide ((w.length : Int) ≥ 1)) = false := decide_eq_false (by omega)
      simp [e1, h1]

/-! ### Lists of numbers -/
theorem getD_BA {L : List (List UInt8)} {i : Nat} (h : i < L.length) : (L.map BA).getD (0 + i) ByteArray.empty = BA L[i] := by
  rw [Nat.zero_add, List.getD_eq_getElem?_getD]; simp [h]
theorem decimals_loop (L : List (List UInt8)) (hL : ∀ w ∈ L, w.length ≤ 1048576) (hn : L.length ≤ 1048577) : ∀ i, i ≤ L.length → ∀ ns : List Int, ns.length = i →
    impl_decimals_l0 (L.length : Int) (L.map BA) (i : Int) ns = some (if (L.drop i).all goodB then .inr (ns ++ (L.drop i).map fun w => ((dval w : Nat) : Int)) else .inl false) := by
  refine down ?_ ?_
  · intro ns _
    rw [impl_decimals_l0_eq]
    unfold impl_decimals_l0K
    rw [lt_out (Nat.le_refl _), List.drop_length]
    simp
  · intro i hi ih ns hw
    rw [impl_decimals_l0_eq]
    unfold impl_decimals_l0K
    rw [lt_in hi, List.length_map, ck_in hi, Int.toNat_natCast, getD_BA hi, decimal_ok _ (hL _ (List.getElem_mem hi))]
    simp only [Option.bind_some]
    by_cases h : goodB L[i] = true
    · simp only [h, if_true, Bool.not_true, cond_false, List.length_singleton]
      rw [decide_eq_true (by omega)]
      simp only [cond_true]
      rw [wr_succ hi (by omega), ih _ (by simp [hw]), drop_cons hi]
      simp only [List.all_cons, h, Bool.true_and, List.map_cons, List.append_assoc, List.singleton_append]
    · have h : goodB L[i] = false := Bool.eq_false_iff.2 h
      have hf : (L.drop i).all goodB = false := by rw [drop_cons hi, List.all_cons, h]; rfl
      rw [hf]
      simp [h]
theorem decimals_ok (l : List UInt8) (hl : l.length ≤ 1048576) : impl_decimals (BA l) (IntKind.i64.wrap (((l.count 32 : Nat) : Int) + 1)) =
    some (if (spl l).all goodB then ((spl l).map (fun w => ((dval w : Nat) : Int)), true) else ([], false)) := by
  have hlen := spl_len l
  have hc : l.count 32 ≤ l.length := List.count_le_length
  unfold impl_decimals impl_decimalsK
  rw [lib_Split_ok l hl, wr (by omega) (by omega)]
  simp only [Option.bind_some, List.length_map]
  have e : (((spl l).length : Int) != ((l.count 32 : Nat) : Int) + 1) = false := by
    rw [bne_eq_false_iff_eq]; omega
  rw [e, cond_false]
  have := decimals_loop (spl l) (fun w hw => Nat.le_trans (spl_mem l w hw).2 hl) (by omega) 0 (by omega) [] rfl
  have this : impl_decimals_l0 ((spl l).length : Int) ((spl l).map BA) 0 [] = some (if (spl l).all goodB then .inr ((spl l).map fun w => ((dval w : Nat) : Int)) else .inl false) := this
  rw [this]
  cases (spl l).all goodB <;> rfl
def pairs : List Int → List DLot
  | a :: b :: r => (a, b, ()) :: pairs r
  | _ => []
theorem pairs_len : ∀ l : List Int, (pairs l).length ≤ l.length
  | a :: b :: r => by have := pairs_len r; simp [pairs]; omega
  | [_] => by simp [pairs]
  | [] => by simp [pairs]
theorem getD_at {l : List Int} {i : Nat} (h : i < l.length) : l.getD (0 + i) 0 = l[i] := by
  rw [Nat.zero_add, List.getD_eq_getElem?_getD]; simp [h]
theorem pairs_loop (ns : List Int) (hn : ns.length ≤ 1048577) : ∀ (m k : Nat) (lots : List DLot), ns.length = 1 + 2 * (k + m) → lots.length = k →
    impl_ParsePile_l0 ns ((1 + 2 * k : Nat) : Int) lots = some (lots ++ pairs (ns.drop (1 + 2 * k)))
  | 0, k, lots, h, hk => by
    rw [impl_ParsePile_l0_eq]
    unfold impl_ParsePile_l0K
    rw [lt_out (by omega), List.drop_eq_nil_of_le (by omega)]
    simp [pairs]
  | m + 1, k, lots, h, hk => by
    have h1 : 1 + 2 * k < ns.length := by omega
    have h2 : 1 + 2 * k + 1 < ns.length := by omega
    have ih := pairs_loop ns hn m (k + 1) (lots ++ [(ns[1 + 2 * k], ns[1 + 2 * k + 1], ())]) (by omega) (by simp [hk])
    rw [impl_ParsePile_l0_eq]
    unfold impl_ParsePile_l0K
    have e1 : IntKind.i64.wrap (((1 + 2 * k : Nat) : Int) + 1) = ((1 + 2 * k + 1 : Nat) : Int) := by rw [wr (by omega) (by omega)]; omega
    have e2 : IntKind.i64.wrap (((1 + 2 * k : Nat) : Int) + 2) = ((1 + 2 * (k + 1) : Nat) : Int) := by rw [wr (by omega) (by omega)]; omega
    rw [lt_in h1, ck_in h1, e1, ck_in h2, e2]
    simp only [Int.toNat_natCast, getD_at h1, getD_at h2, List.length_singleton, Option.bind_some]
    rw [decide_eq_true (by omega), cond_true, ih, drop_cons h1, drop_cons h2]
    simp only [pairs, List.append_assoc, List.singleton_append]
    rw [show 1 + 2 * (k + 1) = 1 + 2 * k + 1 + 1 by omega]
theorem words_pairs (L : List (List UInt8)) (hL : ∀ w ∈ L, w.length ≤ 1048576) (hn : L.length ≤ 1048577) : ∀ (m k : Nat) (lots : List DLot), L.length = 2 + 2 * (k + m) → lots.length = k →
    spec_ParsePile_l0 (L.map BA) ((2 + 2 * k : Nat) : Int) lots = some (lots ++ pairs ((L.drop (2 + 2 * k)).map numF))
  | 0, k, lots, h, hk => by
    rw [spec_ParsePile_l0_eq]
    unfold spec_ParsePile_l0K
    rw [List.length_map, lt_out (by omega), List.drop_eq_nil_of_le (by omega)]
    simp [pairs]
  | m + 1, k, lots, h, hk => by
    have h1 : 2 + 2 * k < L.length := by omega
    have h2 : 2 + 2 * k + 1 < L.length := by omega
    have ih := words_pairs L hL hn m (k + 1) (lots ++ [(numF L[2 + 2 * k], numF L[2 + 2 * k + 1], ())]) (by omega) (by simp [hk])
    rw [spec_ParsePile_l0_eq]
    unfold spec_ParsePile_l0K
    have e1 : IntKind.i64.wrap (((2 + 2 * k : Nat) : Int) + 1) = ((2 + 2 * k + 1 : Nat) : Int) := by rw [wr (by omega) (by omega)]; omega
    have e2 : IntKind.i64.wrap (((2 + 2 * k : Nat) : Int) + 2) = ((2 + 2 * (k + 1) : Nat) : Int) := by rw [wr (by omega) (by omega)]; omega
    rw [List.length_map, lt_in h1, ck_in h1, e1, Int.toNat_natCast, getD_BA h1, spNumber_ok _ (hL _ (List.getElem_mem h1))]
    simp only [Option.bind_some]
    rw [ck_in h2, e2, Int.toNat_natCast, getD_BA h2, spNumber_ok _ (hL _ (List.getElem_mem h2))]
    simp only [List.length_singleton, Option.bind_some]
    rw [decide_eq_true (by omega), cond_true, ih, drop_cons h1, drop_cons h2]
    simp only [pairs, List.map_cons, List.append_assoc, List.singleton_append]
    rw [show 2 + 2 * (k + 1) = 2 + 2 * k + 1 + 1 by omega]
theorem flat_even {n : Nat} : ∀ (m : Nat) (l : List Int), l.length = 2 * m → ((pairs l).flatMap fun x => [x.1, x.2.1]) = l
  | 0, l, h => by rw [List.eq_nil_of_length_eq_zero (by omega : l.length = 0)]; rfl
  | m + 1, [], h => by simp at h
  | m + 1, [_], h => by simp at h; omega
  | m + 1, a :: b :: r, h => by
    have := flat_even (n := n) m r (by simp at h; omega)
    simp [pairs, this]
theorem pairs_flat : ∀ l : List DLot, pairs (l.flatMap fun x => [x.1, x.2.1]) = l
  | [] => rfl
  | x :: l => by simp [pairs, pairs_flat l]

/-! ### The words of a pile's text -/
def hdW (b : Bool) : List UInt8 := if b then [109, 105, 120, 101, 100] else [111, 114, 100, 101, 114]
def numsP (p : DPile) : List Int := p.2.1 :: p.2.2.1.flatMap fun x => [x.1, x.2.1]
theorem txP_jn (p : DPile) : txP p = hdW p.1 ++ 32 :: jn ((numsP p).map dd) := by
  obtain ⟨b, c, l, ⟨⟩⟩ := p
  have : (l.flatMap fun x => [x.1, x.2.1]).map dd = l.flatMap fun x => [dd x.1, dd x.2.1] := by
    rw [List.map_flatMap]; rfl
  have e : jn ((numsP (b, c, l, ())).map dd) = dd c ++ txL l := by
    simp only [numsP, List.map_cons, jn, this, txL, List.flatMap_assoc]
    congr 2
    funext x
    simp
  rw [e]
  cases b <;> simp [txP, hdW]
theorem dd_no32 (n : Int) : 32 ∉ dd n := digits_no32 _
theorem dd_canon (n : Int) : canon (dd n) ∧ dval (dd n) = n.toNat := ⟨(val_digits _ _ (Nat.le_refl _)).2.1, (val_digits _ _ (Nat.le_refl _)).1⟩
theorem dd_short {n : Int} (h : n ≤ 1000000000) : (dd n).length ≤ 10 := digits_short 10 n.toNat (by omega) (by omega)
theorem hdW_no32 (b : Bool) : 32 ∉ hdW b := by cases b <;> decide
theorem spl_txP (p : DPile) : spl (txP p) = hdW p.1 :: (numsP p).map dd := by
  rw [txP_jn, spl_cut _ _ (hdW_no32 _), spl_jn _ (fun w hw => by
    obtain ⟨n, _, rfl⟩ := List.mem_map.1 hw; exact dd_no32 n) (by simp [numsP])]
theorem nums_range {p : DPile} (h : pileB p = true) : ∀ n ∈ numsP p, 0 ≤ n ∧ n ≤ 1000000000 := by
  obtain ⟨g1, g2, g3, g4, g5, g6⟩ := pileB_spec h
  intro n hn
  rcases List.mem_cons.1 hn with rfl | hn
  · omega
  · obtain ⟨x, hx, hn⟩ := List.mem_flatMap.1 hn
    have := lotB_spec (List.all_eq_true.1 g1 x hx)
    simp only [List.mem_cons, List.mem_nil_iff, or_false] at hn
    rcases hn with rfl | rfl <;> omega
theorem numF_dd {n : Int} (h0 : 0 ≤ n) (h : n ≤ 1000000000) : numF (dd n) = n := by
  obtain ⟨⟨c1, c2, c3⟩, c4⟩ := dd_canon n
  have hs := dd_short h
  have hp : 1 ≤ (dd n).length := List.length_pos_iff.2 c2
  unfold numF
  rw [if_pos ⟨c1, hp, hs⟩, c4]
  omega
theorem good_dd {n : Int} (h0 : 0 ≤ n) (h : n ≤ 1000000000) : goodB (dd n) = true := by
  obtain ⟨⟨c1, c2, c3⟩, c4⟩ := dd_canon n
  have hs := dd_short h
  simp only [goodB, c1, Bool.true_and, Bool.and_eq_true, Bool.or_eq_true, decide_eq_true_eq, bne_iff_ne, Bool.not_eq_true', List.isEmpty_eq_false_iff]
  refine ⟨c2, ?_, by omega⟩
  by_cases e : (dd n).head? = some 48
  · exact .inr (by rw [c3 e]; exact Nat.le_refl _)
  · exact .inl e
theorem nums_len (p : DPile) : (numsP p).length = 1 + 2 * p.2.2.1.length := by
  obtain ⟨b, c, l, ⟨⟩⟩ := p
  simp only [numsP, List.length_cons]
  induction l with
  | nil => rfl
  | cons x l ih => simp only [List.flatMap_cons, List.length_append, List.length_cons, List.length_nil] at ih ⊢; omega

/-- The pile that a text tells. -/
theorem parseS_yes (p : DPile) (h : pileB p = true) (hl : (txP p).length ≤ 1048576) : spec_ParsePile (BA (txP p)) = some ((p.1, p.2.1, p.2.2.1), true) := by
  obtain ⟨g1, g2, g3, g4, g5, g6⟩ := pileB_spec h
  have hr := nums_range h
  have hlen := nums_len p
  unfold spec_ParsePile spec_ParsePileK
  rw [l1Split_ok _ hl, spl_txP p]
  have hnum : ((numsP p).map dd).map numF = numsP p := by
    rw [List.map_map]
    conv => rhs; rw [← List.map_id (numsP p)]
    apply List.map_congr_left
    intro n hn
    exact numF_dd (hr n hn).1 (hr n hn).2
  have hwl : ∀ w ∈ hdW p.1 :: (numsP p).map dd, w.length ≤ 1048576 := by
    intro w hw
    rw [← spl_txP p] at hw
    exact Nat.le_trans (spl_mem _ w hw).2 hl
  have hL : (hdW p.1 :: (numsP p).map dd).length = 2 + 2 * p.2.2.1.length := by simp [hlen]; omega
  have hloop := words_pairs _ hwl (by omega) p.2.2.1.length 0 [] (by omega) rfl
  have hd2 : (hdW p.1 :: (numsP p).map dd).drop 2 = (p.2.2.1.flatMap fun x => [x.1, x.2.1]).map dd := by simp [numsP]
  have hp : pairs (((p.2.2.1.flatMap fun x => [x.1, x.2.1]).map dd).map numF) = p.2.2.1 := by
    have := congrArg List.tail hnum
    simp only [numsP, List.map_cons, List.tail_cons] at this
    rw [this, pairs_flat]
  have hloop : spec_ParsePile_l0 ((hdW p.1 :: (numsP p).map dd).map BA) 2 [] = some p.2.2.1 := by
    have e : (2 + 2 * 0) = 2 := rfl
    rw [e, hd2, hp, List.nil_append] at hloop
    exact hloop
  generalize hW : (hdW p.1 :: (numsP p).map dd) = W at *
  have hm1 : ((((W.map BA).length : Int).tmod 2) != 0) = false := by
    rw [List.length_map, hL, bne_eq_false_iff_eq, Int.tmod_eq_emod_of_nonneg (by omega)]; omega
  have hm2 : decide (((W.map BA).length : Int) > 82) = false := decide_eq_false (by rw [List.length_map]; omega)
  have hm3 : decide ((0 : Int) < ((W.map BA).length : Int)) = true := decide_eq_true (by rw [List.length_map]; omega)
  have hm4 : decide ((1 : Int) < ((W.map BA).length : Int)) = true := decide_eq_true (by rw [List.length_map]; omega)
  have w0 : (W.map BA).getD (0 + 0) ByteArray.empty = BA (hdW p.1) := by rw [← hW]; rfl
  have w1 : (W.map BA).getD (0 + 1) ByteArray.empty = BA (dd p.2.1) := by rw [← hW]; rfl
  have hnc : spec_spNumber (BA (dd p.2.1)) = some p.2.1 := by
    rw [spNumber_ok _ (by have := dd_short (n := p.2.1) (by omega); omega), numF_dd g2 (by omega)]
  have hmix : eqS (BA (hdW p.1)) (⟨#[109, 105, 120, 101, 100]⟩ : ByteArray) = p.1 := by
    cases p.1
    · rw [Bool.eq_false_iff]
      intro e
      have := congrArg (fun s : ByteArray => s.data.toList) (eqS_iff.1 e)
      simp [hdW, BA] at this
    · exact eqS_refl _
  simp only [Option.bind_some, hm1, cond_false, hm2, hm3, hm4, cond_true, w0, w1, hnc, hloop, hmix]
  have ep : ((p.1, p.2.1, p.2.2.1, ()) : DPile) = p := rfl
  rw [ep, spGood_ok p (by omega), h, spText_ok p h]
  simp only [Option.bind_some, Bool.not_true, cond_false, eqS_refl]
theorem nums_dec {p : DPile} (h : pileB p = true) : ((numsP p).map dd).all goodB = true ∧ ((numsP p).map dd).map (fun w => ((dval w : Nat) : Int)) = numsP p := by
  have hr := nums_range h
  constructor
  · rw [List.all_eq_true]
    intro w hw
    obtain ⟨n, hn, rfl⟩ := List.mem_map.1 hw
    exact good_dd (hr n hn).1 (hr n hn).2
  · rw [List.map_map]
    conv => rhs; rw [← List.map_id (numsP p)]
    apply List.map_congr_left
    intro n hn
    show ((dval (dd n) : Nat) : Int) = n
    rw [(dd_canon n).2]
    exact Int.toNat_of_nonneg (hr n hn).1
/-- The road behind the head of a text. -/
def tailR (b : Bool) (y : List Int × Bool) : Option ((Bool × Int × List DLot) × Bool) :=
  cond (!y.2)
    (some ((false, (0, [])), false))
    (cond (((y.1.length : Int).tmod 2) == 0)
      (some ((false, (0, [])), false))
      (cond (decide ((0 : Int) < (y.1.length : Int)))
        ((impl_ParsePile_l0 y.1 1 []).bind fun y11 =>
          (impl_IsPile (b, (y.1.getD (0 + 0) 0, (y11, ())))).bind fun y12 =>
          cond (!y12)
          (some ((false, (0, [])), false))
          (some ((b, (y.1.getD (0 + 0) 0, y11)), true)))
        (none)))
theorem tail_yes (p : DPile) (h : pileB p = true) : tailR p.1 (numsP p, true) = some ((p.1, p.2.1, p.2.2.1), true) := by
  obtain ⟨g1, g2, g3, g4, g5, g6⟩ := pileB_spec h
  have hlen := nums_len p
  have hloop := pairs_loop (numsP p) (by omega) p.2.2.1.length 0 [] (by omega) rfl
  have hd : (numsP p).drop (1 + 2 * 0) = p.2.2.1.flatMap fun x => [x.1, x.2.1] := by simp [numsP]
  have hloop : impl_ParsePile_l0 (numsP p) 1 [] = some p.2.2.1 := by
    rw [hd, pairs_flat, List.nil_append] at hloop
    exact hloop
  unfold tailR
  have e1 : ((((numsP p).length : Int).tmod 2) == 0) = false := by
    rw [beq_eq_false_iff_ne, Int.tmod_eq_emod_of_nonneg (by omega)]; omega
  have e2 : decide ((0 : Int) < ((numsP p).length : Int)) = true := decide_eq_true (by omega)
  have e3 : (numsP p).getD (0 + 0) 0 = p.2.1 := rfl
  have ep : ((p.1, p.2.1, p.2.2.1, ()) : DPile) = p := rfl
  simp only [Bool.not_true, cond_false, e1, e2, cond_true, hloop, Option.bind_some, e3, ep, IsPile_ok, h]
/-- What the program takes for a pile is what a pile's text tells. -/
theorem tail_no (b : Bool) (r : List UInt8) (hl : r.length ≤ 1048576) (hno : ∀ p, pileB p = true → p.1 = b → r ≠ jn ((numsP p).map dd)) :
    tailR b (if (spl r).all goodB then ((spl r).map (fun w => ((dval w : Nat) : Int)), true) else ([], false)) = some ((false, 0, []), false) := by
  cases hg : (spl r).all goodB with
  | false => rfl
  | true =>
    simp only [if_true]
    have hlen : ((spl r).map fun w => ((dval w : Nat) : Int)).length ≤ 1048577 := by
      rw [List.length_map, spl_len]
      have : r.count 32 ≤ r.length := List.count_le_length
      omega
    have hdd : ((spl r).map fun w => ((dval w : Nat) : Int)).map dd = spl r := by
      rw [List.map_map]
      conv => rhs; rw [← List.map_id (spl r)]
      apply List.map_congr_left
      intro w hw
      show Lib.decDigits ((dval w : Nat) : Int).toNat = w
      rw [Int.toNat_natCast]
      exact digits_val w (goodB_canon (List.all_eq_true.1 hg w hw))
    generalize ((spl r).map fun w => ((dval w : Nat) : Int)) = ns at hlen hdd
    unfold tailR
    by_cases hev : (((ns.length : Int).tmod 2) == 0) = true
    · simp [hev]
    · have hev : (((ns.length : Int).tmod 2) == 0) = false := Bool.eq_false_iff.2 hev
      have ho : ns.length % 2 = 1 := by
        rw [beq_eq_false_iff_ne, Int.tmod_eq_emod_of_nonneg (by omega)] at hev; omega
      have e2 : decide ((0 : Int) < (ns.length : Int)) = true := decide_eq_true (by omega)
      have hloop := pairs_loop ns hlen (ns.length / 2) 0 [] (by omega) rfl
      rw [List.nil_append] at hloop
      have hloop : impl_ParsePile_l0 ns 1 [] = some (pairs (ns.drop 1)) := hloop
      simp only [Bool.not_true, cond_false, hev, e2, cond_true, hloop, Option.bind_some, IsPile_ok]
      cases hp : pileB (b, ns.getD (0 + 0) 0, pairs (ns.drop 1), ()) with
      | false => rfl
      | true =>
        exfalso
        refine hno _ hp rfl ?_
        have en : numsP (b, ns.getD (0 + 0) 0, pairs (ns.drop 1), ()) = ns := by
          cases ns with
          | nil => simp at ho
          | cons n ns =>
            have := flat_even (n := 0) (ns.length / 2) ns (by simp at ho; omega)
            simp [numsP, this]
        rw [en, hdd, jn_spl]
theorem impl_ParsePile_eq (l : List UInt8) (hl : l.length ≤ 1048576) :
    (∃ r, l = hdW false ++ 32 :: r ∧ impl_ParsePile (BA l) = tailR false (if (spl r).all goodB then ((spl r).map (fun w => ((dval w : Nat) : Int)), true) else ([], false))) ∨
    (∃ r, l = hdW true ++ 32 :: r ∧ impl_ParsePile (BA l) = tailR true (if (spl r).all goodB then ((spl r).map (fun w => ((dval w : Nat) : Int)), true) else ([], false))) ∨
    (impl_ParsePile (BA l) = some ((false, 0, []), false) ∧ ∀ b r, l ≠ hdW b ++ 32 :: r) := by
  have eo : (⟨#[111, 114, 100, 101, 114, 32]⟩ : ByteArray) = BA (hdW false ++ [32]) := rfl
  have em : (⟨#[109, 105, 120, 101, 100, 32]⟩ : ByteArray) = BA (hdW true ++ [32]) := rfl
  unfold impl_ParsePile impl_ParsePileK
  rw [eo, em]
  by_cases h1 : (hdW false ++ [32]).isPrefixOf l = true
  · obtain ⟨r, rfl⟩ := List.isPrefixOf_iff_prefix.1 h1
    rw [List.length_append] at hl
    refine .inl ⟨r, by simp, ?_⟩
    rw [cut_hit]
    simp only [Option.bind_some, Bool.not_true, cond_false, lib_Count_ok, decimals_ok r (by omega)]
    rfl
  · have h1 := Bool.eq_false_iff.2 h1
    rw [cut_miss _ _ h1]
    by_cases h2 : (hdW true ++ [32]).isPrefixOf l = true
    · obtain ⟨r, rfl⟩ := List.isPrefixOf_iff_prefix.1 h2
      rw [List.length_append] at hl
      refine .inr (.inl ⟨r, by simp, ?_⟩)
      simp only [Option.bind_some, Bool.not_false, cond_true]
      rw [cut_hit]
      simp only [Option.bind_some, Bool.not_true, cond_false, lib_Count_ok, decimals_ok r (by omega)]
      rfl
    · have h2 := Bool.eq_false_iff.2 h2
      refine .inr (.inr ⟨?_, fun b r e => ?_⟩)
      · simp only [Option.bind_some, Bool.not_false, cond_true]
        rw [cut_miss _ _ h2]
        simp only [Option.bind_some, lib_Count_ok, decimals_ok l hl, Bool.not_false, cond_true]
      · subst e
        cases b
        · rw [Bool.eq_false_iff] at h1; exact h1 (List.isPrefixOf_iff_prefix.2 ⟨r, by simp⟩)
        · rw [Bool.eq_false_iff] at h2; exact h2 (List.isPrefixOf_iff_prefix.2 ⟨r, by simp⟩)
theorem hdW_len (b : Bool) : (hdW b).length = 5 := by cases b <;> rfl
theorem parseI_yes (p : DPile) (h : pileB p = true) (hl : (txP p).length ≤ 1048576) : impl_ParsePile (BA (txP p)) = some ((p.1, p.2.1, p.2.2.1), true) := by
  have key : ∀ b r, txP p = hdW b ++ 32 :: r → b = p.1 ∧ r = jn ((numsP p).map dd) := fun b r e => by
    rw [txP_jn] at e
    obtain ⟨e1, e2⟩ := List.append_inj e (by rw [hdW_len, hdW_len])
    refine ⟨?_, by simpa using e2.symm⟩
    cases b <;> cases hb : p.1 <;> rw [hb] at e1 <;> first | rfl | (simp [hdW] at e1)
  have hspl : spl (jn ((numsP p).map dd)) = (numsP p).map dd := spl_jn _ (fun w hw => by
    obtain ⟨n, _, rfl⟩ := List.mem_map.1 hw; exact dd_no32 n) (by simp [numsP])
  obtain ⟨d1, d2⟩ := nums_dec h
  rcases impl_ParsePile_eq (txP p) hl with ⟨r, e, h1⟩ | ⟨r, e, h1⟩ | ⟨_, h2⟩
  · obtain ⟨e1, e2⟩ := key _ _ e
    rw [h1, e2, hspl, d1, d2, e1]; exact tail_yes p h
  · obtain ⟨e1, e2⟩ := key _ _ e
    rw [h1, e2, hspl, d1, d2, if_pos rfl]
    have := tail_yes p h
    rw [← e1] at this ⊢
    exact this
  · exact absurd (txP_jn p) (h2 _ _)
theorem parseI_no (l : List UInt8) (hl : l.length ≤ 1048576) (hno : ∀ p, pileB p = true → l ≠ txP p) : impl_ParsePile (BA l) = some ((false, 0, []), false) := by
  rcases impl_ParsePile_eq l hl with ⟨r, e, h1⟩ | ⟨r, e, h1⟩ | ⟨h1, _⟩
  · rw [h1]
    refine tail_no false r (by have := congrArg List.length e; simp at this; omega) fun p hp hb er => hno p hp ?_
    rw [e, er, txP_jn, hb]
  · rw [h1]
    refine tail_no true r (by have := congrArg List.length e; simp at this; omega) fun p hp hb er => hno p hp ?_
    rw [e, er, txP_jn, hb]
  · exact h1
theorem parseS_no (l : List UInt8) (hl : l.length ≤ 1048576) (hno : ∀ p, pileB p = true → l ≠ txP p) : spec_ParsePile (BA l) = some ((false, 0, []), false) := by
  have hwl : ∀ w ∈ spl l, w.length ≤ 1048576 := fun w hw => Nat.le_trans (spl_mem l w hw).2 hl
  unfold spec_ParsePile spec_ParsePileK
  rw [l1Split_ok l hl]
  simp only [Option.bind_some, List.length_map]
  have hne := spl_ne l
  generalize spl l = W at hwl hne
  by_cases h1 : ((W.length : Int).tmod 2 != 0) = true
  · rw [h1]; rfl
  · have h1 := Bool.eq_false_iff.2 h1
    have hev : W.length % 2 = 0 := by
      rw [bne_eq_false_iff_eq, Int.tmod_eq_emod_of_nonneg (by omega)] at h1; omega
    rw [h1, cond_false]
    by_cases h2 : (W.length : Int) > 82
    · rw [decide_eq_true h2]; rfl
    · rw [decide_eq_false h2, cond_false]
      by_cases h0 : W.length = 0
      · exact absurd (List.eq_nil_of_length_eq_zero h0) hne
      · have hm : 1 < W.length := by omega
        rw [decide_eq_true (by omega : (0 : Int) < (W.length : Int)), decide_eq_true (by omega : (1 : Int) < (W.length : Int)), cond_true, cond_true, getD_BA hm, spNumber_ok _ (hwl _ (List.getElem_mem hm))]
        have hloop := words_pairs W hwl (by omega) (W.length / 2 - 1) 0 [] (by omega) rfl
        rw [List.nil_append] at hloop
        have hloop : spec_ParsePile_l0 (W.map BA) 2 [] = some (pairs ((W.drop 2).map numF)) := hloop
        simp only [Option.bind_some, hloop]
        have hpl : (pairs ((W.drop 2).map numF)).length ≤ 1099511627 := by
          have := pairs_len ((W.drop 2).map numF)
          simp only [List.length_map, List.length_drop] at this; omega
        generalize eqS ((W.map BA).getD (0 + 0) ByteArray.empty) (⟨#[109, 105, 120, 101, 100]⟩ : ByteArray) = b
        rw [spGood_ok (b, _, _, ()) hpl]
        cases hp : pileB (b, numF W[1], pairs ((W.drop 2).map numF), ()) with
        | false => rfl
        | true =>
          rw [spText_ok _ hp]
          simp only [Option.bind_some, Bool.not_true, cond_false]
          cases he : eqS (BA (txP (b, numF W[1], pairs ((W.drop 2).map numF), ()))) (BA l) with
          | false => rfl
          | true =>
            exfalso
            refine hno _ hp ?_
            have := congrArg (fun s : ByteArray => s.data.toList) (eqS_iff.1 he)
            simpa [BA_data] using this.symm
end
end Go.OAI
