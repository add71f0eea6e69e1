/- What is drawn from bytes: a draw always ends, and a drawn pile is small. -/
import Derived.Test.YtfkdmflcildgbaaDoorPa
namespace Go.OAI
set_option linter.unusedVariables false
noncomputable section

theorem and255 (m : Int) : 0 ≤ andI .u64 m 255 ∧ andI .u64 m 255 ≤ 255 := by
  unfold andI
  have h : (BitVec.ofInt IntKind.u64.bits m &&& BitVec.ofInt IntKind.u64.bits 255).toNat ≤ 255 := by
    rw [BitVec.toNat_and]
    exact Nat.le_trans Nat.and_le_right (by decide)
  have e : ∀ n : Int, IntKind.u64.wrap n = n % 18446744073709551616 := fun n => by simp [IntKind.wrap, IntKind.bits, IntKind.signed]
  rw [e]; omega
structure CodeOk (code : List Int) : Prop where
  b : ∀ x ∈ code, 0 ≤ x ∧ x ≤ 255
  len : code.length ≤ 1048576
structure Cur (code : List Int) (B : Nat) (c : List Int × Int × Int) : Prop where
  code : c.1 = code
  a0 : 0 ≤ c.2.1
  a1 : c.2.1 ≤ (B : Int)
variable {code : List Int} {B : Nat} {c : List Int × Int × Int}
theorem Cur.mono (h : Cur code B c) {B' : Nat} (hb : B ≤ B') : Cur code B' c := ⟨h.code, h.a0, by have := h.a1; omega⟩
theorem next_ok (K : CodeOk code) (h : Cur code B c) (hB : B ≤ 1000000) : ∃ v c', spec_l1Cur_next c = some (v, c') ∧ 0 ≤ v ∧ v ≤ 255 ∧ Cur code (B + 1) c' := by
  obtain ⟨l, a, s⟩ := c
  obtain ⟨h1, h2, h3⟩ := h
  dsimp only at h1 h2 h3
  subst h1
  have hl := K.len
  unfold spec_l1Cur_next spec_l1Cur_nextK
  dsimp only
  rw [wr (n := a + 1) (by omega) (by omega)]
  by_cases c1 : a < (l.length : Int)
  · have hi : a.toNat < l.length := by omega
    have hb := K.b _ (List.getElem_mem hi)
    simp only [c1, decide_true, cond_true, lat_int h2 hi, Option.bind_some]
    rw [wr (n := l[a.toNat]) (by omega) (by omega)]
    have c2 : a + 1 ≤ (l.length : Int) := by omega
    simp only [c2, decide_true, cond_true]
    exact ⟨_, _, rfl, hb.1, hb.2, rfl, by dsimp only; omega, by dsimp only; omega⟩
  · have c2 : ¬ a + 1 ≤ (l.length : Int) := by omega
    simp only [c1, c2, decide_false, cond_false, Option.bind_some]
    generalize shrI .u64 (IntKind.u64.wrap (IntKind.u64.wrap (IntKind.u64.wrap (s * 6364136223846793005) + IntKind.u64.wrap 0) + 1442695040888963407)) 40 = m
    have hm := and255 m
    rw [wr (n := andI .u64 m 255) (by omega) (by omega)]
    exact ⟨_, _, rfl, hm.1, hm.2, rfl, by dsimp only; omega, by dsimp only; omega⟩
theorem pick_ok (K : CodeOk code) (h : Cur code B c) (hB : B ≤ 900000) (n : Int) (h1 : 1 ≤ n) : ∃ v c', spec_l1Cur_pick c n = some (v, c') ∧ 0 ≤ v ∧ v < n ∧ Cur code (B + 2) c' := by
  unfold spec_l1Cur_pick spec_l1Cur_pickK
  by_cases c1 : n ≤ 1
  · simp only [c1, decide_true, cond_true]
    exact ⟨_, _, rfl, by omega, by omega, h.mono (by omega)⟩
  · obtain ⟨v, c', e1, a1, a2, k1⟩ := next_ok K h (by omega)
    have c2 : ¬ n = 0 := by omega
    simp only [c1, decide_false, cond_false, e1, Option.bind_some, c2]
    by_cases c3 : n > 200
    · obtain ⟨v2, c2', e2, a3, a4, k2⟩ := next_ok K k1 (by omega)
      simp only [c3, decide_true, cond_true, e2, Option.bind_some]
      rw [wr (n := v * 256) (by omega) (by omega), wr (by omega) (by omega)]
      exact ⟨_, _, rfl, Int.tmod_nonneg _ (by omega), Int.tmod_lt_of_pos _ (by omega), k2⟩
    · simp only [c3, decide_false, cond_false]
      exact ⟨_, _, rfl, Int.tmod_nonneg _ a1, Int.tmod_lt_of_pos _ (by omega), k1.mono (by omega)⟩
theorem among_ok (K : CodeOk code) (h : Cur code B c) (hB : B ≤ 900000) (l : List Int) (h1 : 1 ≤ l.length) : ∃ v c', spec_l1Cur_among c l = some (v, c') ∧ Cur code (B + 2) c' := by
  obtain ⟨v, c', e1, a1, a2, k1⟩ := pick_ok K h hB (l.length : Int) (by omega)
  unfold spec_l1Cur_among spec_l1Cur_amongK
  rw [e1]
  simp only [Option.bind_some]
  rw [lat_int a1 (by omega)]
  exact ⟨_, _, rfl, k1⟩
theorem one_ok (K : CodeOk code) (h : Cur code B c) (hB : B ≤ 900000) (n : Int) (h1 : 1 ≤ n) : ∃ v c', spec_l1Cur_one c n = some (v, c') ∧ Cur code (B + 2) c' := by
  obtain ⟨v, c', e1, a1, a2, k1⟩ := pick_ok K h hB n h1
  unfold spec_l1Cur_one spec_l1Cur_oneK
  rw [e1]
  exact ⟨_, _, rfl, k1⟩
theorem most_any (a b : Int) : ∃ v, spec_l1Most a b = some v := by
  unfold spec_l1Most spec_l1MostK
  by_cases c : a > b <;> simp [c]
theorem lot_ok (K : CodeOk code) (h : Cur code B c) (hB : B ≤ 800000) : ∃ l c', spec_l1Cur_lot c = some (l, c') ∧ Cur code (B + 14) c' := by
  unfold spec_l1Cur_lot spec_l1Cur_lotK
  obtain ⟨v1, c1, e1, _, _, k1⟩ := pick_ok K h (by omega) 900 (by omega)
  rw [e1]; simp only [Option.bind_some]
  obtain ⟨v2, c2, e2, k2⟩ := among_ok K k1 (by omega) [1, 50, 100, 100, 300, IntKind.i64.wrap (1 + v1)] (by simp)
  rw [e2]; simp only [Option.bind_some]
  obtain ⟨v3, c3, e3, k3⟩ := among_ok K k2 (by omega) [0, 1, 5, 10, 40, 1000] (by simp)
  rw [e3]; simp only [Option.bind_some]
  obtain ⟨v4, c4, e4, k4⟩ := one_ok K k3 (by omega) 4 (by omega)
  rw [e4]; simp only [Option.bind_some]
  cases v4 with
  | true =>
    simp only [cond_true]
    obtain ⟨v5, c5, e5, _, _, k5⟩ := pick_ok K k4 (by omega) 9 (by omega)
    rw [e5]; simp only [Option.bind_some]
    obtain ⟨m, em⟩ := most_any 0 (IntKind.i64.wrap (IntKind.i64.wrap (v2 * v3) - v5))
    rw [em]; simp only [Option.bind_some]
    obtain ⟨v6, c6, e6, _, _, k6⟩ := pick_ok K k5 (by omega) 40 (by omega)
    rw [e6]; simp only [Option.bind_some]
    cases v6 == 0 with
    | true =>
      simp only [cond_true]
      obtain ⟨v7, c7, e7, k7⟩ := among_ok K k6 (by omega) [0, (-1), 1000000, 1000001] (by simp)
      rw [e7]; exact ⟨_, _, rfl, k7.mono (by omega)⟩
    | false =>
      simp only [cond_false]
      cases v6 == 1 with
      | true =>
        simp only [cond_true]
        obtain ⟨v7, c7, e7, k7⟩ := among_ok K k6 (by omega) [(-1), IntKind.i64.wrap (1000 * v2), IntKind.i64.wrap (IntKind.i64.wrap (1000 * v2) + 1)] (by simp)
        rw [e7]; exact ⟨_, _, rfl, k7.mono (by omega)⟩
      | false => exact ⟨_, _, rfl, k6.mono (by omega)⟩
  | false =>
    simp only [cond_false]
    obtain ⟨v6, c6, e6, _, _, k6⟩ := pick_ok K k4 (by omega) 40 (by omega)
    rw [e6]; simp only [Option.bind_some]
    cases v6 == 0 with
    | true =>
      simp only [cond_true]
      obtain ⟨v7, c7, e7, k7⟩ := among_ok K k6 (by omega) [0, (-1), 1000000, 1000001] (by simp)
      rw [e7]; exact ⟨_, _, rfl, k7.mono (by omega)⟩
    | false =>
      simp only [cond_false]
      cases v6 == 1 with
      | true =>
        simp only [cond_true]
        obtain ⟨v7, c7, e7, k7⟩ := among_ok K k6 (by omega) [(-1), IntKind.i64.wrap (1000 * v2), IntKind.i64.wrap (IntKind.i64.wrap (1000 * v2) + 1)] (by simp)
        rw [e7]; exact ⟨_, _, rfl, k7.mono (by omega)⟩
      | false => exact ⟨_, _, rfl, k6.mono (by omega)⟩
theorem good_end (q : DPile) (hq : q.2.2.1.length ≤ 1000000) : ∃ v, ((spec_spGood q).bind fun y => cond (!y) (some ((false, (0, [])), false)) (some ((q.1, (q.2.1, q.2.2.1)), true))) = some v ∧ v.1.2.2.length ≤ q.2.2.1.length := by
  rw [spGood_wf q (by omega)]
  cases pileB q with
  | false => exact ⟨_, rfl, by simp⟩
  | true => exact ⟨_, rfl, Nat.le_refl _⟩
theorem spPut_any (b : Bool) (cp : Int) (l : List DLot) (hl : l.length ≤ 1000) (x : DLot) : ∃ v, spec_spPut (b, cp, l, ()) x = some v ∧ v.1.2.2.length ≤ l.length + 1 := by
  have hcap : ([] : List DLot).length + l.length ≤ 1099511627776 := by simp; omega
  have hcap2 : l.length + [x].length ≤ 1099511627776 := by simp; omega
  have app : ∃ v, ((spec_spGood (b, cp, l ++ [x], ())).bind fun y => cond (!y) (some ((false, (0, [])), false)) (some ((b, (cp, l ++ [x])), true))) = some v ∧ v.1.2.2.length ≤ l.length + 1 := by
    obtain ⟨v, h1, h2⟩ := good_end (b, cp, l ++ [x], ()) (by simp; omega)
    exact ⟨v, h1, by have : v.1.2.2.length ≤ (l ++ [x]).length := h2
                     simpa using this⟩
  unfold spec_spPut spec_spPutK spec_spWith spec_spWithK
  simp only [hcap, hcap2, decide_true, cond_true, Option.bind_some, List.nil_append]
  cases b with
  | false => exact app
  | true =>
    cases h1 : ((l.length : Int) == 1) with
    | false => exact app
    | true =>
      have h1 : (l.length : Int) = 1 := by simpa using h1
      have c1 : (0 : Int) < (l.length : Int) := by omega
      simp only [cond_true, c1, decide_true, Option.bind_some, List.length_set]
      generalize hL : ((l.set (0 + 0) (IntKind.i64.wrap ((l.getD (0 + 0) TLot.dflt).1 + x.1), (l.getD (0 + 0) TLot.dflt).2.1, ())).set (0 + 0) _) = L
      have hlen : L.length = l.length := by rw [← hL]; simp
      obtain ⟨v, g1, g2⟩ := good_end (true, cp, L, ()) (by show L.length ≤ _; omega)
      exact ⟨v, g1, by have : v.1.2.2.length ≤ L.length := g2
                       omega⟩
theorem pile_loop0 (K : CodeOk code) : ∀ (n : Nat) (B : Nat) (c : List Int × Int × Int) (b : Bool) (cp : Int) (l : List DLot), Cur code B c → B + 14 * n ≤ 700000 → l.length + n ≤ 1000 →
    ∃ c' b' cp' l', spec_l1Cur_pile_l0 (n : Int) c.1 c.2.1 c.2.2 b cp l = some (c'.1, c'.2.1, c'.2.2, b', cp', l') ∧ Cur code (B + 14 * n) c' ∧ l'.length ≤ l.length + n
  | 0, B, c, b, cp, l, h, hB, hl => by
    rw [spec_l1Cur_pile_l0_eq]; unfold spec_l1Cur_pile_l0K
    exact ⟨c, b, cp, l, rfl, h, Nat.le_refl _⟩
  | n + 1, B, c, b, cp, l, h, hB, hl => by
    rw [spec_l1Cur_pile_l0_eq]; unfold spec_l1Cur_pile_l0K
    obtain ⟨x, c1, e1, k1⟩ := lot_ok K h (by omega)
    obtain ⟨v, e2, h2⟩ := spPut_any b cp l (by omega) x
    have c0 : ((n + 1 : Nat) : Int) > 0 := by omega
    have e3 : IntKind.i64.wrap (((n + 1 : Nat) : Int) - 1) = (n : Int) := by rw [wr (by omega) (by omega)]; omega
    have e1 : spec_l1Cur_lot (c.1, (c.2.1, c.2.2)) = some (x, c1) := e1
    simp only [c0, decide_true, cond_true, e1, Option.bind_some, e2, spLot_ok, e3]
    have stay : ∃ c' b' cp' l', spec_l1Cur_pile_l0 (n : Int) c1.1 c1.2.1 c1.2.2 b cp l = some (c'.1, c'.2.1, c'.2.2, b', cp', l') ∧ Cur code (B + 14 * (n + 1)) c' ∧ l'.length ≤ l.length + (n + 1) := by
      obtain ⟨c', b', cp', l', q1, q2, q3⟩ := pile_loop0 K n (B + 14) c1 b cp l k1 (by omega) (by omega)
      exact ⟨c', b', cp', l', q1, q2.mono (by omega), by omega⟩
    cases lotB x with
    | false => exact stay
    | true =>
      cases hv : v.2 with
      | false => exact stay
      | true =>
        obtain ⟨c', b', cp', l', q1, q2, q3⟩ := pile_loop0 K n (B + 14) c1 v.1.1 v.1.2.1 v.1.2.2 k1 (by omega) (by omega)
        exact ⟨c', b', cp', l', q1, q2.mono (by omega), by omega⟩
theorem pile_loop1 : ∀ (d : Nat) (n : Nat) (l : List DLot), l.length + d = n → n ≤ 1000 → ∃ l', spec_l1Cur_pile_l1 (n : Int) l = some l' ∧ l'.length = n
  | 0, n, l, h, hn => by
    rw [spec_l1Cur_pile_l1_eq]; unfold spec_l1Cur_pile_l1K
    rw [lt_out (by omega)]
    exact ⟨l, rfl, by omega⟩
  | d + 1, n, l, h, hn => by
    have key : spec_l1Cur_pile_l1 (n : Int) l = spec_l1Cur_pile_l1 (n : Int) (l ++ [((10 : Int), ((l.length : Int), ()))]) := by
      rw [spec_l1Cur_pile_l1_eq]; unfold spec_l1Cur_pile_l1K
      have hcap : l.length + 1 ≤ 1099511627776 := by omega
      rw [lt_in (show l.length < n by omega)]
      simp only [List.length_cons, List.length_nil, Nat.zero_add, hcap, decide_true, cond_true, Option.bind_some]
    rw [key]
    exact pile_loop1 d n _ (by simp; omega) hn
theorem pile_ok (K : CodeOk code) (h : Cur code B c) (hB : B ≤ 600000) : ∃ p c', spec_l1Cur_pile c = some (p, c') ∧ p.2.2.length ≤ 1000 ∧ Cur code (B + 200) c' := by
  unfold spec_l1Cur_pile spec_l1Cur_pileK
  obtain ⟨v1, c1, e1, k1⟩ := one_ok K h (by omega) 3 (by omega)
  rw [e1]; simp only [Option.bind_some]
  obtain ⟨v2, c2, e2, k2⟩ := among_ok K k1 (by omega) [1000, 5000, 10000000] (by simp)
  rw [e2]; simp only [Option.bind_some]
  obtain ⟨v3, c3, e3, a3, b3, k3⟩ := pick_ok K k2 (by omega) 6 (by omega)
  rw [e3]; simp only [Option.bind_some]
  obtain ⟨n, rfl⟩ : ∃ n : Nat, v3 = (n : Int) := ⟨v3.toNat, by omega⟩
  obtain ⟨c4, b4, cp4, l4, e4, k4, h4⟩ := pile_loop0 K n _ c3 v1 v2 [] k3 (by omega) (by simp; omega)
  rw [e4]; simp only [Option.bind_some]
  simp only [List.length_nil] at h4
  have k4 : Cur code (B + 100) (c4.1, c4.2.1, c4.2.2) := k4.mono (by omega)
  obtain ⟨v5, c5, e5, a5, b5, k5⟩ := pick_ok K k4 (by omega) 30 (by omega)
  rw [e5]; simp only [Option.bind_some]
  cases v5 == 0 with
  | true =>
    simp only [cond_true]
    obtain ⟨v6, c6, e6, k6⟩ := among_ok K k5 (by omega) [(-1), 0, 10000000, 10000001] (by simp)
    rw [e6]; exact ⟨_, _, rfl, by dsimp only; omega, k6.mono (by omega)⟩
  | false =>
    simp only [cond_false]
    cases v5 == 1 with
    | true =>
      simp only [cond_true]
      obtain ⟨x, c6, e6, k6⟩ := lot_ok K k5 (by omega)
      have hcap : l4.length + [x].length ≤ 1099511627776 := by simp; omega
      rw [e6]; simp only [Option.bind_some, hcap, decide_true, cond_true]
      exact ⟨_, _, rfl, by simp; omega, k6.mono (by omega)⟩
    | false =>
      simp only [cond_false]
      cases v5 == 2 with
      | true =>
        simp only [cond_true]
        obtain ⟨v6, c6, e6, a6, b6, k6⟩ := pick_ok K k5 (by omega) 3 (by omega)
        rw [e6]; simp only [Option.bind_some]
        rw [wr (n := 39 + v6) (by omega) (by omega)]
        obtain ⟨l', q1, q2⟩ := pile_loop1 (39 + v6).toNat (39 + v6).toNat [] (by simp) (by omega)
        have e7 : (((39 + v6).toNat : Nat) : Int) = 39 + v6 := by omega
        rw [e7] at q1
        rw [q1]
        exact ⟨_, _, rfl, by show l'.length ≤ 1000; omega, k6.mono (by omega)⟩
      | false =>
        simp only [cond_false]
        cases v5 == 3 with
        | true =>
          simp only [cond_true]
          obtain ⟨v6, e6⟩ := spSums_any l4 (by omega)
          rw [e6]; simp only [Option.bind_some]
          obtain ⟨v7, c7, e7, a7, b7, k7⟩ := pick_ok K k5 (by omega) 2 (by omega)
          rw [e7]; simp only [Option.bind_some]
          obtain ⟨m, em⟩ := most_any 0 (IntKind.i64.wrap (v6.1 - v7))
          rw [em]
          exact ⟨_, _, rfl, by dsimp only; omega, k7.mono (by omega)⟩
        | false =>
          simp only [cond_false]
          cases v5 == 4 with
          | true => exact ⟨_, _, rfl, by simp, k5.mono (by omega)⟩
          | false => exact ⟨_, _, rfl, by dsimp only; omega, k5.mono (by omega)⟩
theorem cur0 (code : List Int) : Cur code 0 (code, 0, 0) := ⟨rfl, Int.le_refl _, by simp⟩
end
end Go.OAI
