/- Piles, draws, models and prices in plain words. -/
import Derived.Test.YtejiaikhdjanoaaGreatP1
import Derived.Test.YtejiaikhdjanoaaGreatGX
import Derived.Test.YtejiaikhdjanoaaGreatGP
import Derived.Test.YtejiaikhdjanoaaGreatGO
import Derived.Test.YtejiaikhdjanoaaGreatGD
namespace Go.OAI
set_option linter.unusedVariables false
noncomputable section
def lotB (x : DLot) : Bool := decide (1 ≤ x.1 ∧ x.1 ≤ 1000000 ∧ 0 ≤ x.2.1 ∧ x.2.1 ≤ 1000 * x.1)
theorem isLot_ok (x : DLot) : impl_isLot x = some (lotB x) := by
  unfold impl_isLot impl_isLotK lotB
  by_cases h1 : 1 ≤ x.1
  · by_cases h2 : x.1 ≤ 1000000
    · rw [wr (by omega) (by omega)]
      by_cases h3 : 0 ≤ x.2.1 <;> simp [h1, h2, h3]
    · simp [h1, h2]
  · simp [h1]
def tS (l : List DLot) : Int := (l.map (·.1)).sum
def mS (l : List DLot) : Int := (l.map (·.2.1)).sum
theorem tS_cons (x : DLot) (l : List DLot) : tS (x :: l) = x.1 + tS l := by simp [tS]
theorem mS_cons (x : DLot) (l : List DLot) : mS (x :: l) = x.2.1 + mS l := by simp [mS]
theorem sums_bound : ∀ (l : List DLot), l.all lotB = true → 0 ≤ tS l ∧ (l.length : Int) ≤ tS l ∧ tS l ≤ 1000000 * (l.length : Int) ∧ 0 ≤ mS l ∧ mS l ≤ 1000 * tS l
  | [], _ => by simp [tS, mS]
  | x :: l, h => by
    simp only [List.all_cons, Bool.and_eq_true] at h
    have := sums_bound l h.2
    have hx : lotB x = true := h.1
    simp only [lotB, decide_eq_true_eq] at hx
    rw [tS_cons, mS_cons]
    simp only [List.length_cons]
    omega
theorem lotSum_ok (l : List DLot) (h : l.all lotB = true) (hl : l.length ≤ 1099511627) : impl_lotSum l = some (tS l, mS l, ()) := by
  have key : ∀ i, i ≤ l.length → ∀ a b : Int, 0 ≤ a → a ≤ 1000000 * (i : Int) → 0 ≤ b → b ≤ 1000000000 * (i : Int) → impl_lotSum_l0 l (l.length : Int) i a b = some (a + tS (l.drop i), b + mS (l.drop i)) := by
    refine down (fun a b h1 h2 h3 h4 => ?_) fun i hi ih a b h1 h2 h3 h4 => ?_
    · rw [impl_lotSum_l0_eq]; unfold impl_lotSum_l0K
      rw [lt_out (Nat.le_refl _)]
      simp [tS, mS]
    · have hx : lotB l[i] = true := List.all_eq_true.1 h _ (List.getElem_mem hi)
      simp only [lotB, decide_eq_true_eq] at hx
      rw [impl_lotSum_l0_eq]; unfold impl_lotSum_l0K
      rw [loop_step hi, wr_succ hi (by omega), wr (by omega) (by omega), wr (by omega) (by omega), ih _ _ (by omega) (by omega) (by omega) (by omega), drop_cons hi, tS_cons, mS_cons]
      simp only [Option.some.injEq, Prod.mk.injEq]
      constructor <;> omega
  have := key 0 (Nat.zero_le _) 0 0 (by omega) (by simp) (by omega) (by simp)
  unfold impl_lotSum impl_lotSumK
  simp only [Int.natCast_zero, List.drop_zero, Int.zero_add] at this
  have e : impl_lotSum_l0 l (l.length : Int) 0 0 0 = some (tS l, mS l) := this
  rw [e]; rfl
def pileB (p : DPile) : Bool := p.2.2.1.all lotB && decide (0 ≤ p.2.1 ∧ p.2.1 ≤ 10000000 ∧ (p.2.2.1.length : Int) ≤ 40 ∧ (p.1 = true → (p.2.2.1.length : Int) ≤ 1) ∧ tS p.2.2.1 ≤ p.2.1)
theorem IsPile_ok (p : DPile) : impl_IsPile p = some (pileB p) := by
  have h1 : p.2.2.1.length ≤ 40 → impl_IsPile_l0 p.2.2.1 (p.2.2.1.length : Int) 0 0 = some (if p.2.2.1.all lotB then .inr (tS p.2.2.1) else .inl false) := fun hl => by
    have key : ∀ i, i ≤ p.2.2.1.length → ∀ a : Int, 0 ≤ a → a ≤ 1000000 * (i : Int) → impl_IsPile_l0 p.2.2.1 (p.2.2.1.length : Int) a i = some (if (p.2.2.1.drop i).all lotB then .inr (a + tS (p.2.2.1.drop i)) else .inl false) := by
      refine down (fun a h1 h2 => ?_) fun i hi ih a h1 h2 => ?_
      · rw [impl_IsPile_l0_eq]; unfold impl_IsPile_l0K
        rw [lt_out (Nat.le_refl _)]
        simp [tS]
      · rw [impl_IsPile_l0_eq]; unfold impl_IsPile_l0K
        rw [loop_step hi, wr_succ hi (by omega), isLot_ok, drop_cons hi]
        cases hx : lotB p.2.2.1[i] with
        | false => simp [hx]
        | true =>
          have hx' := hx
          simp only [lotB, decide_eq_true_eq] at hx'
          rw [wr (by omega) (by omega), Option.bind_some, ih _ (by omega) (by omega), tS_cons]
          simp only [Bool.not_true, cond_false, List.all_cons, hx, Bool.true_and, Int.add_assoc]
    have := key 0 (Nat.zero_le _) 0 (by omega) (by simp)
    rw [List.drop_zero, Int.zero_add] at this
    exact this
  unfold impl_IsPile impl_IsPileK pileB
  simp only [dec_lt, dec_gt]
  by_cases c1 : (p.2.2.1.length : Int) ≤ 40
  · rw [h1 (by omega)]
    by_cases ha : p.2.2.1.all lotB = true
    · simp only [ha, if_true, Option.bind_some, sumO, Bool.true_and]
      by_cases c2 : p.1 = true <;> by_cases c3 : (p.2.2.1.length : Int) ≤ 1 <;> by_cases c4 : 0 ≤ p.2.1 <;> by_cases c5 : p.2.1 ≤ 10000000 <;> simp [c1, c2, c3, c4, c5]
    · simp only [ha, Option.bind_some, sumO, Bool.false_and]
      by_cases c2 : p.1 = true <;> by_cases c3 : (p.2.2.1.length : Int) ≤ 1 <;> by_cases c4 : 0 ≤ p.2.1 <;> by_cases c5 : p.2.1 ≤ 10000000 <;> simp [c1, c2, c3, c4, c5]
  · by_cases c4 : 0 ≤ p.2.1 <;> by_cases c5 : p.2.1 ≤ 10000000 <;> simp [c1, c4, c5]
def putP (p : DPile) (l : DLot) : DPile :=
  match p.1, p.2.2.1 with
  | true, x :: r => (true, p.2.1, (x.1 + l.1, x.2.1 + l.2.1, ()) :: r, ())
  | b, r => (b, p.2.1, r ++ [l], ())
def putR (p : DPile) (l : DLot) : (Bool × Int × List DLot) × Bool :=
  if pileB (putP p l) then (((putP p l).1, (putP p l).2.1, (putP p l).2.2.1), true) else ((false, 0, []), false)
theorem pileB_spec {p : DPile} (h : pileB p = true) : p.2.2.1.all lotB = true ∧ 0 ≤ p.2.1 ∧ p.2.1 ≤ 10000000 ∧ p.2.2.1.length ≤ 40 ∧ (p.1 = true → p.2.2.1.length ≤ 1) ∧ tS p.2.2.1 ≤ p.2.1 := by
  simp only [pileB, Bool.and_eq_true, decide_eq_true_eq] at h
  obtain ⟨h1, h2, h3, h4, h5, h6⟩ := h
  exact ⟨h1, h2, h3, by omega, fun e => by have := h5 e; omega, h6⟩
theorem lotB_spec {x : DLot} (h : lotB x = true) : 1 ≤ x.1 ∧ x.1 ≤ 1000000 ∧ 0 ≤ x.2.1 ∧ x.2.1 ≤ 1000 * x.1 := by simpa [lotB] using h
theorem put_end {q : DPile} (hq : q.2.2.1.length ≤ 1048576) : ((impl_IsPile q).bind fun y => cond (!y) (some ((false, (0, [])), false)) (some ((q.1, (q.2.1, q.2.2.1)), true))) = some (if pileB q then ((q.1, q.2.1, q.2.2.1), true) else ((false, 0, []), false)) := by
  rw [IsPile_ok]
  cases pileB q <;> rfl
theorem putLot_ok (b : Bool) (c : Int) (l : List DLot) (x : DLot) (hp : pileB (b, c, l, ()) = true) (hx : lotB x = true) : impl_putLot (b, c, l, ()) x = some (putR (b, c, l, ()) x) := by
  obtain ⟨h1, h2, h3, h4, h5, h6⟩ := pileB_spec hp
  have hx' := lotB_spec hx
  dsimp only at h1 h2 h3 h4 h5 h6
  have e1 : impl_copyPile (b, c, l, ()) = some (b, c, l) := by
    unfold impl_copyPile impl_copyPileK
    have : ([] : List DLot).length + l.length ≤ 1099511627776 := by simp; omega
    simp only [this, decide_true, cond_true, List.nil_append]
  have e2 : l.length + [x].length ≤ 1099511627776 := by simp; omega
  unfold impl_putLot impl_putLotK
  rw [e1]
  simp only [Option.bind_some, e2, decide_true, cond_true]
  cases b with
  | false => exact put_end (q := (false, c, l ++ [x], ())) (by simp; omega)
  | true =>
    cases l with
    | nil => exact put_end (q := (true, c, [x], ())) (by simp)
    | cons y r =>
      have hr : r = [] := by
        have := h5 rfl
        simp at this
        exact this
      subst hr
      have hy0 : lotB y = true := List.all_eq_true.1 h1 y (by simp)
      have hy := lotB_spec hy0
      have hs : impl_lotSum [(y.1, (y.2.1, ())), x] = some (y.1 + x.1, y.2.1 + x.2.1, ()) := by
        rw [lotSum_ok _ (by have : lotB (y.1, (y.2.1, ())) = true := hy0
                            simp [this, hx]) (by simp)]
        simp [tS, mS]
      have := put_end (q := (true, c, [(y.1 + x.1, y.2.1 + x.2.1, ())], ())) (by simp)
      simp [putR, putP, hs] at this ⊢
      exact this
theorem tS_append (l : List DLot) (x : DLot) : tS (l ++ [x]) = tS l + x.1 := by simp [tS]
theorem mS_append (l : List DLot) (x : DLot) : mS (l ++ [x]) = mS l + x.2.1 := by simp [mS]
theorem impl_PutLot_ok (b : Bool) (c : Int) (l : List DLot) (x : DLot) : impl_PutLot (b, c, l, ()) x = some (if pileB (b, c, l, ()) && lotB x then putR (b, c, l, ()) x else ((false, 0, []), false)) := by
  unfold impl_PutLot impl_PutLotK
  rw [IsPile_ok, isLot_ok]
  cases hp : pileB (b, c, l, ()) with
  | false => rfl
  | true =>
    cases hx : lotB x with
    | false => rfl
    | true => simp only [putLot_ok b c l x hp hx, Bool.not_true, cond_false, Option.bind_some, Bool.and_self, if_true]
theorem impl_PileSums_ok (p : DPile) : impl_PileSums p = some (if pileB p then (tS p.2.2.1, mS p.2.2.1, true) else (0, 0, false)) := by
  unfold impl_PileSums impl_PileSumsK
  rw [IsPile_ok]
  cases hp : pileB p with
  | false => rfl
  | true =>
    obtain ⟨h1, _, _, h4, _⟩ := pileB_spec hp
    rw [lotSum_ok _ h1 (by omega)]; rfl
end
noncomputable section
theorem and255 (m : Int) : 0 ≤ andI .u64 m 255 ∧ andI .u64 m 255 ≤ 255 := by
  unfold andI
  have h : (BitVec.ofInt IntKind.u64.bits m &&& BitVec.ofInt IntKind.u64.bits 255).toNat ≤ 255 := by
    rw [BitVec.toNat_and]
    exact Nat.le_trans Nat.and_le_right (by decide)
  have e : ∀ n : Int, IntKind.u64.wrap n = n % 18446744073709551616 := fun n => by simp [IntKind.wrap, IntKind.bits, IntKind.signed]
  rw [e]; omega
structure CodeOk (code : List Int) : Prop where
  b : ∀ x ∈ code, 0 ≤ x ∧ x ≤ 255
  len : code.length ≤ 1048576
structure Cur (code : List Int) (B : Nat) (c : List Int × Int × Int) : Prop where
  code : c.1 = code
  a0 : 0 ≤ c.2.1
  a1 : c.2.1 ≤ (B : Int)
variable {code : List Int} {B : Nat} {c : List Int × Int × Int}
theorem Cur.mono (h : Cur code B c) {B' : Nat} (hb : B ≤ B') : Cur code B' c := ⟨h.code, h.a0, by have := h.a1; omega⟩
theorem next_ok (K : CodeOk code) (h : Cur code B c) (hB : B ≤ 1000000) : ∃ v c', spec_l1Cur_next c = some (v, c') ∧ 0 ≤ v ∧ v ≤ 255 ∧ Cur code (B + 1) c' := by
  obtain ⟨l, a, s⟩ := c
  obtain ⟨h1, h2, h3⟩ := h
  dsimp only at h1 h2 h3
  subst h1
  have hl := K.len
  unfold spec_l1Cur_next spec_l1Cur_nextK
  dsimp only
  rw [wr (n := a + 1) (by omega) (by omega)]
  by_cases c1 : a < (l.length : Int)
  · have hi : a.toNat < l.length := by omega
    have hb := K.b _ (List.getElem_mem hi)
    simp only [c1, decide_true, cond_true, lat_int h2 hi, Option.bind_some]
    rw [wr (n := l[a.toNat]) (by omega) (by omega)]
    have c2 : a + 1 ≤ (l.length : Int) := by omega
    simp only [c2, decide_true, cond_true]
    exact ⟨_, _, rfl, hb.1, hb.2, rfl, by dsimp only; omega, by dsimp only; omega⟩
  · have c2 : ¬ a + 1 ≤ (l.length : Int) := by omega
    simp only [c1, c2, decide_false, cond_false, Option.bind_some]
    generalize shrI .u64 (IntKind.u64.wrap (IntKind.u64.wrap (IntKind.u64.wrap (s * 6364136223846793005) + IntKind.u64.wrap 0) + 1442695040888963407)) 40 = m
    have hm := and255 m
    rw [wr (n := andI .u64 m 255) (by omega) (by omega)]
    exact ⟨_, _, rfl, hm.1, hm.2, rfl, by dsimp only; omega, by dsimp only; omega⟩
theorem pick_ok (K : CodeOk code) (h : Cur code B c) (hB : B ≤ 900000) (n : Int) (h1 : 1 ≤ n) : ∃ v c', spec_l1Cur_pick c n = some (v, c') ∧ 0 ≤ v ∧ v < n ∧ Cur code (B + 2) c' := by
  unfold spec_l1Cur_pick spec_l1Cur_pickK
  by_cases c1 : n ≤ 1
  · simp only [c1, decide_true, cond_true]
    exact ⟨_, _, rfl, by omega, by omega, h.mono (by omega)⟩
  · obtain ⟨v, c', e1, a1, a2, k1⟩ := next_ok K h (by omega)
    have c2 : ¬ n = 0 := by omega
    simp only [c1, decide_false, cond_false, e1, Option.bind_some, c2]
    by_cases c3 : n > 200
    · obtain ⟨v2, c2', e2, a3, a4, k2⟩ := next_ok K k1 (by omega)
      simp only [c3, decide_true, cond_true, e2, Option.bind_some]
      rw [wr (n := v * 256) (by omega) (by omega), wr (by omega) (by omega)]
      exact ⟨_, _, rfl, Int.tmod_nonneg _ (by omega), Int.tmod_lt_of_pos _ (by omega), k2⟩
    · simp only [c3, decide_false, cond_false]
      exact ⟨_, _, rfl, Int.tmod_nonneg _ a1, Int.tmod_lt_of_pos _ (by omega), k1.mono (by omega)⟩
theorem among_ok (K : CodeOk code) (h : Cur code B c) (hB : B ≤ 900000) (l : List Int) (h1 : 1 ≤ l.length) : ∃ v c', spec_l1Cur_among c l = some (v, c') ∧ Cur code (B + 2) c' := by
  obtain ⟨v, c', e1, a1, a2, k1⟩ := pick_ok K h hB (l.length : Int) (by omega)
  unfold spec_l1Cur_among spec_l1Cur_amongK
  rw [e1]
  simp only [Option.bind_some]
  rw [lat_int a1 (by omega)]
  exact ⟨_, _, rfl, k1⟩
theorem one_ok (K : CodeOk code) (h : Cur code B c) (hB : B ≤ 900000) (n : Int) (h1 : 1 ≤ n) : ∃ v c', spec_l1Cur_one c n = some (v, c') ∧ Cur code (B + 2) c' := by
  obtain ⟨v, c', e1, a1, a2, k1⟩ := pick_ok K h hB n h1
  unfold spec_l1Cur_one spec_l1Cur_oneK
  rw [e1]
  exact ⟨_, _, rfl, k1⟩
end
noncomputable section
variable {code : List Int} {B : Nat} {c : List Int × Int × Int}
structure GridIn (g : DGrid) : Prop where
  x : 1 ≤ g.1 ∧ g.1 ≤ 8
  y : 1 ≤ g.2.1 ∧ g.2.1 ≤ 6
  z : 1 ≤ g.2.2.1 ∧ g.2.2.1 ≤ 5
  n : g.1 * g.2.1 * g.2.2.1 ≤ 120
theorem mul_le {a b x y : Int} (h0 : 0 ≤ a) (h1 : a ≤ x) (h2 : 0 ≤ b) (h3 : b ≤ y) : a * b ≤ x * y :=
  Int.le_trans (Int.mul_le_mul_of_nonneg_right h1 h2) (Int.mul_le_mul_of_nonneg_left h3 (by omega))
theorem grid_ok (K : CodeOk code) (h : Cur code B c) (hB : B ≤ 800000) : ∃ g c', spec_l1Cur_grid c = some (g, c') ∧ GridIn g ∧ Cur code (B + 8) c' := by
  unfold spec_l1Cur_grid spec_l1Cur_gridK
  obtain ⟨v1, c1, e1, k1⟩ := one_ok K h (by omega) 24 (by omega)
  rw [e1]; simp only [Option.bind_some]
  cases v1 with
  | true =>
    simp only [cond_true]
    obtain ⟨v2, c2, e2, a2, b2, k2⟩ := pick_ok K k1 (by omega) 4 (by omega)
    rw [e2]; simp only [Option.bind_some]
    have : v2 = 0 ∨ v2 = 1 ∨ v2 = 2 ∨ v2 = 3 := by omega
    rcases this with rfl | rfl | rfl | rfl <;> exact ⟨_, _, rfl, ⟨by decide, by decide, by decide, by decide⟩, k2.mono (by omega)⟩
  | false =>
    simp only [cond_false]
    obtain ⟨v2, c2, e2, a2, b2, k2⟩ := pick_ok K k1 (by omega) 4 (by omega)
    rw [e2]; simp only [Option.bind_some]
    obtain ⟨v3, c3, e3, a3, b3, k3⟩ := pick_ok K k2 (by omega) 3 (by omega)
    rw [e3]; simp only [Option.bind_some]
    obtain ⟨v4, c4, e4, a4, b4, k4⟩ := pick_ok K k3 (by omega) 3 (by omega)
    rw [e4]; simp only [Option.bind_some]
    rw [wr (n := 1 + v2) (by omega) (by omega), wr (n := 1 + v3) (by omega) (by omega), wr (n := 1 + v4) (by omega) (by omega)]
    refine ⟨_, _, rfl, ⟨⟨by dsimp only; omega, by dsimp only; omega⟩, ⟨by dsimp only; omega, by dsimp only; omega⟩, ⟨by dsimp only; omega, by dsimp only; omega⟩, ?_⟩, k4.mono (by omega)⟩
    dsimp only
    have h1 := mul_le (a := 1 + v2) (b := 1 + v3) (x := 4) (y := 3) (by omega) (by omega) (by omega) (by omega)
    have h0 : 0 ≤ (1 + v2) * (1 + v3) := Int.mul_nonneg (by omega) (by omega)
    have h2 := mul_le (a := (1 + v2) * (1 + v3)) (b := 1 + v4) (x := 12) (y := 3) h0 (by omega) (by omega) (by omega)
    omega
theorem grCount_in {g : DGrid} (G : GridIn g) : spec_grCount g = some (g.1 * g.2.1 * g.2.2.1) := by
  obtain ⟨x, y, z, u⟩ := g
  obtain ⟨h1, h2, h3, h4⟩ := G
  dsimp only at h1 h2 h3 h4
  unfold spec_grCount spec_grCountK
  dsimp only
  have h5 := mul_le (a := x) (b := y) (x := 8) (y := 6) (by omega) (by omega) (by omega) (by omega)
  have h0 : 0 ≤ x * y := Int.mul_nonneg (by omega) (by omega)
  have h6 : 0 ≤ x * y * z := Int.mul_nonneg h0 (by omega)
  rw [wr (n := x * y) (by omega) (by omega), wr (by omega) (by omega)]
theorem model_loop (K : CodeOk code) : ∀ (n : Nat) (B : Nat) (a2 a3 : Int) (l1 l2 l3 : List Int), Cur code B (code, a2, a3) → B + 20 * n ≤ 800000 → l1.length + n ≤ 1000 → l2.length + n ≤ 1000 → l3.length + n ≤ 1000 →
    ∃ r, spec_l1Cur_model_l0 (n : Int) code a2 a3 l1 l2 l3 = some r ∧ Cur code (B + 20 * n) (r.1, r.2.1, r.2.2.1) ∧ r.2.2.2.1.length = l1.length + n ∧ r.2.2.2.2.1.length = l2.length + n ∧ r.2.2.2.2.2.length = l3.length + n := by
  intro n
  induction n with
  | zero =>
    intro B a2 a3 l1 l2 l3 h _ _ _ _
    rw [spec_l1Cur_model_l0_eq]
    exact ⟨_, rfl, h, rfl, rfl, rfl⟩
  | succ n ih =>
    intro B a2 a3 l1 l2 l3 h hB n1 n2 n3
    rw [spec_l1Cur_model_l0_eq]
    unfold spec_l1Cur_model_l0K
    have c0 : ((n + 1 : Nat) : Int) > 0 := by omega
    simp only [c0, decide_true, cond_true]
    obtain ⟨v1, c1, e1, _, _, k1⟩ := pick_ok K h (by omega) 10001 (by omega)
    rw [e1]; simp only [Option.bind_some]
    obtain ⟨v2, c2, e2, k2⟩ := among_ok K k1 (by omega) [0, 100, 100, 200, 500, 1000, v1] (by simp)
    rw [e2]; simp only [Option.bind_some]
    have d1 : l1.length + [v2].length ≤ 1099511627776 := by simp only [List.length_singleton]; omega
    simp only [d1, decide_true, cond_true]
    obtain ⟨v3, c3, e3, _, _, k3⟩ := pick_ok K k2 (by omega) 1001 (by omega)
    rw [e3]; simp only [Option.bind_some]
    obtain ⟨v4, c4, e4, k4⟩ := among_ok K k3 (by omega) [0, 0, 5, 10, 20, 50, v3] (by simp)
    rw [e4]; simp only [Option.bind_some]
    have d2 : l2.length + [v4].length ≤ 1099511627776 := by simp only [List.length_singleton]; omega
    simp only [d2, decide_true, cond_true]
    obtain ⟨v5, c5, e5, _, _, k5⟩ := pick_ok K k4 (by omega) 5 (by omega)
    rw [e5]; simp only [Option.bind_some]
    have d3 : l3.length + [v5].length ≤ 1099511627776 := by simp only [List.length_singleton]; omega
    simp only [d3, decide_true, cond_true]
    have hn : IntKind.i64.wrap (((n + 1 : Nat) : Int) - 1) = (n : Int) := by rw [wr (by omega) (by omega)]; omega
    rw [hn]
    obtain ⟨p, q, s⟩ := c5
    have hp : p = code := k5.code
    subst hp
    obtain ⟨r, r1, r2, r3, r4, r5⟩ := ih (B + 10) q s (l1 ++ [v2]) (l2 ++ [v4]) (l3 ++ [v5]) (k5.mono (by omega)) (by omega) (by simp; omega) (by simp; omega) (by simp; omega)
    simp only [List.length_append, List.length_singleton] at r3 r4 r5
    exact ⟨r, r1, r2.mono (by omega), by omega, by omega, by omega⟩
theorem model_ok (K : CodeOk code) (h : Cur code B c) (hB : B ≤ 700000) : ∃ m c', spec_l1Cur_model c = some (m, c') ∧ Cur code (B + 4000) c' ∧ GridIn (m.1, m.2.1, m.2.2.1, ()) ∧
    (m.2.2.2.1.length : Int) = m.1 * m.2.1 * m.2.2.1 ∧ (m.2.2.2.2.1.length : Int) = m.1 * m.2.1 * m.2.2.1 ∧ (m.2.2.2.2.2.length : Int) = m.1 * m.2.1 * m.2.2.1 := by
  unfold spec_l1Cur_model spec_l1Cur_modelK
  obtain ⟨g, c1, e1, G, k1⟩ := grid_ok K h (by omega)
  rw [e1]; simp only [Option.bind_some]
  rw [grCount_in G]; simp only [Option.bind_some]
  obtain ⟨x, y, z, u⟩ := g
  obtain ⟨p, q, s⟩ := c1
  have hp : p = code := k1.code
  subst hp
  have G' := G
  obtain ⟨h1, h2, h3, h4⟩ := G
  dsimp only at h1 h2 h3 h4
  have h5 : 0 ≤ x * y * z := Int.mul_nonneg (Int.mul_nonneg (by omega) (by omega)) (by omega)
  have hn : x * y * z = ((x * y * z).toNat : Int) := by omega
  obtain ⟨r, r1, r2, r3, r4, r5⟩ := model_loop K (x * y * z).toNat (B + 8) q s [] [] [] k1 (by omega) (by simp; omega) (by simp; omega) (by simp; omega)
  rw [← hn] at r1
  dsimp only at r1 ⊢
  rw [r1]
  simp only [List.length_nil] at r3 r4 r5
  exact ⟨_, _, rfl, r2.mono (by omega), G', by dsimp only; omega, by dsimp only; omega, by dsimp only; omega⟩
theorem anyGrid_ok (K : CodeOk code) (h : Cur code B c) (hB : B ≤ 700000) : ∃ g c', spec_l1Cur_anyGrid c = some (g, c') := by
  unfold spec_l1Cur_anyGrid spec_l1Cur_anyGridK
  obtain ⟨g, c1, e1, G, k1⟩ := grid_ok K h (by omega)
  rw [e1]; simp only [Option.bind_some]
  obtain ⟨v2, c2, e2, _, _, k2⟩ := pick_ok K k1 (by omega) 30 (by omega)
  rw [e2]; simp only [Option.bind_some]
  cases v2 == 0 with
  | true => obtain ⟨v, c3, e, _⟩ := among_ok K k2 (by omega) [0, 8, 9, (-1)] (by simp); simp only [cond_true]; rw [e]; exact ⟨_, _, rfl⟩
  | false =>
    cases v2 == 1 with
    | true => obtain ⟨v, c3, e, _⟩ := among_ok K k2 (by omega) [0, 6, 7, (-1)] (by simp); simp only [cond_true, cond_false]; rw [e]; exact ⟨_, _, rfl⟩
    | false =>
      cases v2 == 2 with
      | true => obtain ⟨v, c3, e, _⟩ := among_ok K k2 (by omega) [0, 5, 6, (-1)] (by simp); simp only [cond_true, cond_false]; rw [e]; exact ⟨_, _, rfl⟩
      | false =>
        cases v2 == 3 with
        | true => obtain ⟨v, c3, e, _⟩ := among_ok K k2 (by omega) [2, 3] (by simp); simp only [cond_true, cond_false]; rw [e]; exact ⟨_, _, rfl⟩
        | false =>
          cases v2 == 4 with
          | true => exact ⟨_, _, rfl⟩
          | false => exact ⟨_, _, rfl⟩
theorem anyModel_ok (K : CodeOk code) (h : Cur code B c) (hB : B ≤ 600000) : ∃ m c', spec_l1Cur_anyModel c = some (m, c') := by
  unfold spec_l1Cur_anyModel spec_l1Cur_anyModelK
  obtain ⟨m, c1, e1, k1, G, n1, n2, n3⟩ := model_ok K h (by omega)
  rw [e1]; simp only [Option.bind_some]
  rw [grCount_in G]; simp only [Option.bind_some]
  obtain ⟨v2, c2, e2, _, _, k2⟩ := pick_ok K k1 (by omega) 30 (by omega)
  rw [e2]; simp only [Option.bind_some]
  have hpos : 1 ≤ m.1 * m.2.1 * m.2.2.1 := by
    have g1 := G.x; have g2 := G.y; have g3 := G.z
    dsimp only at g1 g2 g3
    have := Int.mul_pos (Int.mul_pos (show 0 < m.1 by omega) (show 0 < m.2.1 by omega)) (show 0 < m.2.2.1 by omega)
    omega
  cases v2 == 0 with
  | true => obtain ⟨g, c3, e⟩ := anyGrid_ok K k2 (by omega); simp only [cond_true]; rw [e]; exact ⟨_, _, rfl⟩
  | false =>
    simp only [cond_false]
    obtain ⟨v3, c3, e3, a3, b3, k3⟩ := pick_ok K k2 (by omega) _ hpos
    cases v2 == 1 with
    | true =>
      obtain ⟨v, c4, e, _⟩ := among_ok K k3 (by omega) [(-1), 10000, 10001] (by simp)
      have hi : v3 < (m.2.2.2.1.length : Int) := by omega
      simp only [cond_true, e3, Option.bind_some, e, a3, hi, decide_true, Bool.and_self]
      exact ⟨_, _, rfl⟩
    | false =>
      simp only [cond_false]
      cases v2 == 2 with
      | true =>
        obtain ⟨v, c4, e, _⟩ := among_ok K k3 (by omega) [(-1), 1000, 1001] (by simp)
        have hi : v3 < (m.2.2.2.2.1.length : Int) := by omega
        simp only [cond_true, e3, Option.bind_some, e, a3, hi, decide_true, Bool.and_self]
        exact ⟨_, _, rfl⟩
      | false =>
        simp only [cond_false]
        cases v2 == 3 with
        | true =>
          obtain ⟨v, c4, e, _⟩ := among_ok K k3 (by omega) [(-1), 4, 5] (by simp)
          have hi : v3 < (m.2.2.2.2.2.length : Int) := by omega
          simp only [cond_true, e3, Option.bind_some, e, a3, hi, decide_true, Bool.and_self]
          exact ⟨_, _, rfl⟩
        | false =>
          simp only [cond_false]
          cases v2 == 4 with
          | true =>
            have hh := G.n
            dsimp only at hh
            have hl : m.2.2.2.2.2.length + [(0 : Int)].length ≤ 1099511627776 := by simp only [List.length_singleton]; omega
            have hd := decide_eq_true hl
            simp only [cond_true]
            erw [hd]
            exact ⟨_, _, rfl⟩
          | false => exact ⟨_, _, rfl⟩
theorem draw_ok (K : CodeOk code) : ∃ m, spec_DrawModelText code = some m := by
  obtain ⟨m, c', e⟩ := anyModel_ok K (c := (code, 0, 0)) (B := 0) ⟨rfl, Int.le_refl _, Int.le_refl _⟩ (by omega)
  unfold spec_DrawModelText spec_DrawModelTextK spec_DrawIsModel spec_DrawIsModelK
  rw [e]
  exact ⟨_, rfl⟩
end
noncomputable section
def gridB (g : DGrid) : Bool := decide (1 ≤ g.1) && (decide (g.1 ≤ 8) && (decide (1 ≤ g.2.1) && (decide (g.2.1 ≤ 6) && (decide (1 ≤ g.2.2.1) && (decide (g.2.2.1 ≤ 5) && decide (g.1 * g.2.1 * g.2.2.1 ≤ 120))))))
theorem gridB_in {g : DGrid} (h : gridB g = true) : GridIn g := by
  simp only [gridB, Bool.and_eq_true, decide_eq_true_eq] at h
  obtain ⟨h1, h2, h3, h4, h5, h6, h7⟩ := h
  exact ⟨⟨h1, h2⟩, ⟨h3, h4⟩, ⟨h5, h6⟩, h7⟩
theorem wr_grid {x y z : Int} (h1 : 1 ≤ x) (h2 : x ≤ 8) (h3 : 1 ≤ y) (h4 : y ≤ 6) (h5 : 1 ≤ z) (h6 : z ≤ 5) : IntKind.i64.wrap (IntKind.i64.wrap (x * y) * z) = x * y * z := by
  have h7 := mul_le (a := x) (b := y) (x := 8) (y := 6) (by omega) (by omega) (by omega) (by omega)
  have h0 : 0 ≤ x * y := Int.mul_nonneg (by omega) (by omega)
  have h8 : 0 ≤ x * y * z := Int.mul_nonneg h0 (by omega)
  have h9 := mul_le (a := x * y) (b := z) (x := 48) (y := 5) h0 (by omega) (by omega) (by omega)
  rw [wr (n := x * y) (by omega) (by omega), wr (by omega) (by omega)]
theorem IsGrid_ok (g : DGrid) : impl_IsGrid g = some (gridB g) := by
  unfold impl_IsGrid impl_IsGridK gridB
  by_cases h1 : 1 ≤ g.1
  · by_cases h2 : g.1 ≤ 8
    · by_cases h3 : 1 ≤ g.2.1
      · by_cases h4 : g.2.1 ≤ 6
        · by_cases h5 : 1 ≤ g.2.2.1
          · by_cases h6 : g.2.2.1 ≤ 5
            · simp [h1, h2, h3, h4, h5, h6, wr_grid h1 h2 h3 h4 h5 h6]
            · simp [h1, h2, h3, h4, h5, h6]
          · simp [h1, h2, h3, h4, h5]
        · simp [h1, h2, h3, h4]
      · simp [h1, h2, h3]
    · simp [h1, h2]
  · simp [h1]
theorem grGood_ok (g : DGrid) : spec_grGood g = some (gridB g) := by
  unfold spec_grGood spec_grGoodK gridB
  simp only [l1In_ok, Option.bind_some]
  by_cases h1 : 1 ≤ g.1
  · by_cases h2 : g.1 ≤ 8
    · by_cases h3 : 1 ≤ g.2.1
      · by_cases h4 : g.2.1 ≤ 6
        · by_cases h5 : 1 ≤ g.2.2.1
          · by_cases h6 : g.2.2.1 ≤ 5
            · simp [h1, h2, h3, h4, h5, h6, wr_grid h1 h2 h3 h4 h5 h6]
            · simp [h1, h2, h3, h4, h5, h6]
          · simp [h1, h2, h3, h4, h5]
        · simp [h1, h2, h3, h4]
      · simp [h1, h2, h3]
    · simp [h1, h2]
  · simp [h1]
def gN (g : DGrid) : Nat := (g.1 * g.2.1 * g.2.2.1).toNat
theorem gN_int {g : DGrid} (G : GridIn g) : (gN g : Int) = g.1 * g.2.1 * g.2.2.1 ∧ 1 ≤ gN g ∧ gN g ≤ 120 := by
  obtain ⟨⟨h1, _⟩, ⟨h3, _⟩, ⟨h5, _⟩, h7⟩ := G
  have : 0 < g.1 * g.2.1 * g.2.2.1 := Int.mul_pos (Int.mul_pos (by omega) (by omega)) (by omega)
  unfold gN; omega
theorem blocksOf_ok {g : DGrid} (G : GridIn g) : impl_blocksOf g = some (gN g : Int) := by
  unfold impl_blocksOf impl_blocksOfK
  rw [wr_grid G.x.1 G.x.2 G.y.1 G.y.2 G.z.1 G.z.2, (gN_int G).1]
theorem grCount_ok {g : DGrid} (G : GridIn g) : spec_grCount g = some (gN g : Int) := by
  rw [grCount_in G, (gN_int G).1]
structure ModIn (m : DModel) : Prop where
  g : GridIn m.1
  t : m.2.1.length = gN m.1
  gr : m.2.2.1.length = gN m.1
  r : m.2.2.2.1.length = gN m.1
  bt : inB 0 10000 m.2.1 = true
  bg : inB 0 1000 m.2.2.1 = true
def modelB (m : DModel) : Bool := gridB m.1 && (decide (m.2.1.length = gN m.1) && (decide (m.2.2.1.length = gN m.1) && (decide (m.2.2.2.1.length = gN m.1) && (inB 0 10000 m.2.1 && (inB 0 1000 m.2.2.1 && inB 0 4 m.2.2.2.1)))))
theorem modelB_in {m : DModel} (h : modelB m = true) : ModIn m := by
  simp only [modelB, Bool.and_eq_true, decide_eq_true_eq] at h
  obtain ⟨h1, h2, h3, h4, h5, h6, h7⟩ := h
  exact ⟨gridB_in h1, h2, h3, h4, h5, h6⟩
theorem inB_iff {lo hi : Int} {l : List Int} : inB lo hi l = true ↔ ∀ i (h : i < l.length), lo ≤ l[i] ∧ l[i] ≤ hi := by
  constructor
  · intro h i hi
    exact inB_spec h _ (List.getElem_mem hi)
  · intro h
    unfold inB
    rw [List.all_eq_true]
    intro x hx
    obtain ⟨i, hi, rfl⟩ := List.getElem_of_mem hx
    have := h i hi
    simp [this.1, this.2]
theorem IsModel_loop (a b c : List Int) (hb : b.length = a.length) (hc : c.length = a.length) (hl : a.length ≤ 1000) :
    impl_IsModel_l0 (a.length : Int) a b c 0 = some (if inB 0 10000 a && (inB 0 1000 b && inB 0 4 c) then .inr () else .inl false) := by
  have h := allI_loop (f := fun i => impl_IsModel_l0 (a.length : Int) a b c i) (l := a) (good := fun i x => decide (0 ≤ x) && (decide (x ≤ 10000) && (decide (0 ≤ b.getD i 0) && (decide (b.getD i 0 ≤ 1000) && (decide (0 ≤ c.getD i 0) && decide (c.getD i 0 ≤ 4))))))
    (y := .inr ()) (n := .inl false) ?_ fun i hi => ?_
  · rw [h, show ∀ g : Bool, g = (inB 0 10000 a && (inB 0 1000 b && inB 0 4 c)) → (some (if g = true then Sum.inr () else Sum.inl false) : Option (Bool ⊕ Unit)) = some (if (inB 0 10000 a && (inB 0 1000 b && inB 0 4 c)) = true then Sum.inr () else Sum.inl false) from fun g e => by rw [e]]
    rw [Bool.eq_iff_iff]
    simp only [allI_iff, Bool.and_eq_true, decide_eq_true_eq, inB_iff]
    constructor
    · intro g
      refine ⟨fun i hi => ?_, fun i hi => ?_, fun i hi => ?_⟩
      · obtain ⟨g1, g2, _⟩ := g i hi; exact ⟨g1, g2⟩
      · obtain ⟨g1, g2, g3, g4, _⟩ := g i (by omega)
        simp only [List.getD_eq_getElem?_getD, List.getElem?_eq_getElem hi, Option.getD_some] at g3 g4
        exact ⟨g3, g4⟩
      · obtain ⟨g1, g2, g3, g4, g5, g6⟩ := g i (by omega)
        simp only [List.getD_eq_getElem?_getD, List.getElem?_eq_getElem hi, Option.getD_some] at g5 g6
        exact ⟨g5, g6⟩
    · rintro ⟨g1, g2, g3⟩ i hi
      have hib : i < b.length := by omega
      have hic : i < c.length := by omega
      simp only [List.getD_eq_getElem?_getD, List.getElem?_eq_getElem hib, List.getElem?_eq_getElem hic, Option.getD_some]
      exact ⟨(g1 i hi).1, (g1 i hi).2, (g2 i hib).1, (g2 i hib).2, (g3 i hic).1, (g3 i hic).2⟩
  · show impl_IsModel_l0 _ _ _ _ _ = _
    rw [impl_IsModel_l0_eq]; unfold impl_IsModel_l0K
    rw [lt_out (Nat.le_refl _)]
  · show impl_IsModel_l0 _ _ _ _ _ = _
    rw [impl_IsModel_l0_eq]; unfold impl_IsModel_l0K
    have hib : i < b.length := by omega
    have hic : i < c.length := by omega
    rw [loop_step hi]
    simp only [lat_nat hi, lat_nat hib, lat_nat hic, Option.bind_some, wr_succ hi (by omega), List.getD_eq_getElem?_getD, List.getElem?_eq_getElem hib, List.getElem?_eq_getElem hic, Option.getD_some, dec_lt, dec_gt]
    by_cases h1 : 0 ≤ a[i]
    · by_cases h2 : a[i] ≤ 10000
      · by_cases h3 : 0 ≤ b[i]
        · by_cases h4 : b[i] ≤ 1000
          · by_cases h5 : 0 ≤ c[i]
            · by_cases h6 : c[i] ≤ 4 <;> simp [h1, h2, h3, h4, h5, h6]
            · simp [h1, h2, h3, h4, h5]
          · simp [h1, h2, h3, h4]
        · simp [h1, h2, h3]
      · simp [h1, h2]
    · simp [h1]
theorem len_bne (n k : Nat) : (((n : Nat) : Int) != (k : Int)) = !decide (n = k) := by
  rw [bne_dec]; congr 1
  by_cases h : n = k
  · simp [h]
  · have : ¬ (n : Int) = (k : Int) := by omega
    simp [h, this]
theorem len_beq' (n k : Nat) : (((n : Nat) : Int) == (k : Int)) = decide (n = k) := by
  rw [beq_dec]
  by_cases h : n = k
  · simp [h]
  · have : ¬ (n : Int) = (k : Int) := by omega
    simp [h, this]
theorem IsModel_ok (m : DModel) : impl_IsModel m = some (modelB m) := by
  unfold impl_IsModel impl_IsModelK modelB
  rw [IsGrid_ok]
  simp only [Option.bind_some]
  cases hg : gridB m.1 with
  | false => simp
  | true =>
    have G := gridB_in hg
    rw [blocksOf_ok G]
    simp only [Option.bind_some, Bool.not_true, cond_false, len_bne, Bool.true_and]
    by_cases h1 : m.2.1.length = gN m.1
    · by_cases h2 : m.2.2.1.length = gN m.1
      · by_cases h3 : m.2.2.2.1.length = gN m.1
        · simp only [h1, h2, h3, decide_true, Bool.not_true, cond_false, Bool.true_and]
          have := gN_int G
          rw [← h1, IsModel_loop _ _ _ (by omega) (by omega) (by omega)]
          simp only [Option.bind_some]
          cases inB 0 10000 m.2.1 && (inB 0 1000 m.2.2.1 && inB 0 4 m.2.2.2.1) <;> rfl
        · simp [h1, h2, h3]
      · simp [h1, h2]
    · simp [h1]
theorem moGood_ok (m : DModel) : spec_moGood m = some (modelB m) := by
  unfold spec_moGood spec_moGoodK modelB
  rw [grGood_ok]
  simp only [Option.bind_some]
  cases hg : gridB m.1 with
  | false => simp
  | true =>
    have G := gridB_in hg
    rw [grCount_ok G]
    simp only [Option.bind_some, Bool.not_true, cond_false, len_beq', Bool.true_and]
    by_cases h1 : m.2.1.length = gN m.1
    · by_cases h2 : m.2.2.1.length = gN m.1
      · by_cases h3 : m.2.2.2.1.length = gN m.1
        · simp only [h1, h2, h3, decide_true, cond_true, Bool.true_and]
          have := gN_int G
          rw [l1All_ok _ _ _ (by omega), l1All_ok _ _ _ (by omega), l1All_ok _ _ _ (by omega)]
          cases inB 0 10000 m.2.1 <;> cases inB 0 1000 m.2.2.1 <;> cases inB 0 4 m.2.2.2.1 <;> rfl
        · simp [h1, h2, h3]
      · simp [h1, h2]
    · simp [h1]
theorem ArePrices_ok (p e : Int) (hp : 0 ≤ p ∧ p ≤ 1000) (he : 0 ≤ e ∧ e ≤ 1000) : impl_ArePrices (p, 900, 20, e, ()) = some true ∧ spec_vaPrices (p, 900, 20, e, ()) = some true := by
  constructor
  · unfold impl_ArePrices impl_ArePricesK
    dsimp only
    have h : impl_ArePrices_l0 ([p, 900, 20, e].length : Int) [p, 900, 20, e] 0 = some (if inB 0 1000 [p, 900, 20, e] then .inr () else .inl false) := by
      refine allL_loop (f := fun i => impl_ArePrices_l0 ([p, 900, 20, e].length : Int) [p, 900, 20, e] i) ?_ fun i hi => ?_
      · show impl_ArePrices_l0 _ _ _ = _
        rw [impl_ArePrices_l0_eq]; unfold impl_ArePrices_l0K
        rw [lt_out (Nat.le_refl _)]
      · show impl_ArePrices_l0 _ _ _ = _
        rw [impl_ArePrices_l0_eq]; unfold impl_ArePrices_l0K
        rw [lt_in hi, ck_in hi, wr_succ hi (by simp), show ∀ d : Int, [p, 900, 20, e].getD (0 + (i : Int).toNat) d = [p, 900, 20, e][i] from fun d => by rw [Nat.zero_add, Int.toNat_natCast, List.getD_eq_getElem?_getD, List.getElem?_eq_getElem hi, Option.getD_some]]
        simp only [dec_lt, dec_gt]
        by_cases h1 : 0 ≤ [p, 900, 20, e][i] <;> by_cases h2 : [p, 900, 20, e][i] ≤ 1000 <;> simp [h1, h2]
    rw [h]
    have : inB 0 1000 [p, 900, 20, e] = true := by simp [inB, hp, he]
    rw [this]; rfl
  · unfold spec_vaPrices spec_vaPricesK
    dsimp only
    rw [l1All_ok _ _ _ (by simp)]
    have : inB 0 1000 [p, 900, 20, e] = true := by simp [inB, hp, he]
    rw [this]; rfl
theorem down_both (a : Int) (h1 : -1000000000000 ≤ a) (h2 : a ≤ 1000000000000) : impl_floorDiv a 10000 = some (a / 10000) ∧ spec_ruDown a 10000 = some (a / 10000) := by
  have hz : ¬ (10000 : Int) = 0 := by omega
  have hn : ¬ (10000 : Int) < 0 := by omega
  unfold impl_floorDiv impl_floorDivK spec_ruDown spec_ruDownK
  simp only [hz, hn, decide_false, cond_false]
  by_cases h0 : 0 ≤ a
  · have e1 : a.tdiv 10000 = a / 10000 := Int.tdiv_eq_ediv_of_nonneg h0
    have e2 : a.tmod 10000 = a % 10000 := Int.tmod_eq_emod_of_nonneg h0
    have c1 : ¬ a % 10000 < 0 := by omega
    have c2 : ¬ a < 0 := by omega
    rw [e1, e2, wr (n := a / 10000) (by omega) (by omega)]
    simp only [c1, c2, decide_false, cond_false]
    refine ⟨trivial, ?_⟩
    cases a % 10000 != 0 <;> rfl
  · have e1 : a.tdiv 10000 = -((-a) / 10000) := by
      have : a.tdiv 10000 = -((-a).tdiv 10000) := by rw [Int.neg_tdiv]; omega
      rw [this, Int.tdiv_eq_ediv_of_nonneg (by omega)]
    have e2 : a.tmod 10000 = -((-a) % 10000) := by
      have : a.tmod 10000 = -((-a).tmod 10000) := by rw [Int.neg_tmod]; omega
      rw [this, Int.tmod_eq_emod_of_nonneg (by omega)]
    have c2 : a < 0 := by omega
    rw [e1, e2, wr (n := -((-a) / 10000)) (by omega) (by omega), wr (n := -((-a) / 10000) - 1) (by omega) (by omega), bne_dec]
    by_cases c3 : -((-a) % 10000) < 0
    · have c4 : ¬ -((-a) % 10000) = 0 := by omega
      simp only [c3, c4, c2, decide_true, decide_false, cond_true, Bool.not_false, beq_iff_eq]
      refine ⟨by congr 1; omega, ?_⟩
      show some _ = _
      congr 1; omega
    · have c4 : -((-a) % 10000) = 0 := by omega
      simp only [c3, c4, decide_true, decide_false, cond_false, Bool.not_true]
      have e3 : -(-a / 10000) = a / 10000 := by omega
      rw [e3]
      exact ⟨rfl, rfl⟩
theorem most_ok (x y : Int) : spec_l1Most x y = some (if y > x then y else x) := by
  unfold spec_l1Most spec_l1MostK
  by_cases h : x > y
  · have : ¬ y > x := by omega
    simp [h, this]
  · by_cases h2 : y > x
    · simp [h, h2]
    · have : x = y := by omega
      subst this; simp
theorem price_both (m : DModel) (p e : Int) (hp : 10 ≤ p ∧ p ≤ 99) (he : 5 ≤ e ∧ e ≤ 44) (M : ModIn m) {i : Nat} (hi : i < gN m.1) :
    ∃ v, impl_priceValue m (p, 900, 20, e, ()) (i : Int) = some v ∧ spec_vaPrice m (p, 900, 20, e, ()) (i : Int) = some v ∧ -1000000 ≤ v ∧ v ≤ 1000000 := by
  obtain ⟨G, ht, hg, hr, bt, bg⟩ := M
  have h1 : i < m.2.1.length := by omega
  have h2 : i < m.2.2.1.length := by omega
  have b1 := inB_iff.1 bt i h1
  have b2 := inB_iff.1 bg i h2
  unfold impl_priceValue impl_priceValueK spec_vaPrice spec_vaPriceK spec_moMetal spec_moMetalK
  simp only [lat_nat h1, lat_nat h2, Option.bind_some, most_ok]
  generalize m.2.1[i] = a at b1 ⊢
  generalize m.2.2.1[i] = b at b2 ⊢
  have q1 := mul_le (a := a) (b := b) (x := 10000) (y := 1000) (by omega) (by omega) (by omega) (by omega)
  have q0 : 0 ≤ a * b := Int.mul_nonneg (by omega) (by omega)
  generalize a * b = ab at q0 q1 ⊢
  have q3 := mul_le (a := ab * 900) (b := p) (x := 9000000000) (y := 99) (by omega) (by omega) (by omega) (by omega)
  have q4 : 0 ≤ ab * 900 * p := Int.mul_nonneg (by omega) (by omega)
  have q5 := mul_le (a := a) (b := e) (x := 10000) (y := 44) (by omega) (by omega) (by omega) (by omega)
  have q6 : 0 ≤ a * e := Int.mul_nonneg (by omega) (by omega)
  rw [wr (n := ab) (by omega) (by omega), wr (n := ab * 900) (by omega) (by omega), wr (n := a * 20) (by omega) (by omega), wr (n := a * e) (by omega) (by omega), wr (n := ab * 900 * p) (by omega) (by omega), Int.tdiv_eq_ediv_of_nonneg q4]
  generalize ab * 900 * p = c at q3 q4 ⊢
  generalize a * e = d at q5 q6 ⊢
  rw [wr (n := c / 1000) (by omega) (by omega), wr (n := c / 1000 - a * 20) (by omega) (by omega)]
  have k : ∃ u, (if c / 1000 - a * 20 > 0 then c / 1000 - a * 20 else 0) = u ∧ 0 ≤ u ∧ u ≤ 1000000000 := by
    split <;> exact ⟨_, rfl, by omega, by omega⟩
  obtain ⟨u, hu, u0, u1⟩ := k
  rw [hu, wr (n := u - d) (by omega) (by omega)]
  obtain ⟨g1, g2⟩ := down_both (u - d) (by omega) (by omega)
  rw [g1, g2]
  exact ⟨_, rfl, rfl, by omega, by omega⟩
theorem values_loop (m : DModel) (p e : Int) (hp : 10 ≤ p ∧ p ≤ 99) (he : 5 ≤ e ∧ e ≤ 44) (M : ModIn m) : ∀ (r i : Nat) (acc : List Int), i + r = gN m.1 → acc.length = i → (∀ v ∈ acc, -1000000 ≤ v ∧ v ≤ 1000000) →
    ∃ L, impl_PriceValues_l0 (gN m.1 : Int) m.1.1 m.1.2.1 m.1.2.2.1 m.2.1 m.2.2.1 m.2.2.2.1 p 900 20 e (i : Int) acc = some L ∧ spec_vaAll_l0 (gN m.1 : Int) m.1.1 m.1.2.1 m.1.2.2.1 m.2.1 m.2.2.1 m.2.2.2.1 p 900 20 e (i : Int) acc = some L ∧ L.length = gN m.1 ∧ ∀ v ∈ L, -1000000 ≤ v ∧ v ≤ 1000000 := by
  intro r
  induction r with
  | zero =>
    intro i acc hi hl hb
    rw [impl_PriceValues_l0_eq, spec_vaAll_l0_eq]
    unfold impl_PriceValues_l0K spec_vaAll_l0K
    rw [lt_out (by omega), lt_out (by omega)]
    exact ⟨acc, rfl, rfl, by omega, hb⟩
  | succ r ih =>
    intro i acc hi hl hb
    rw [impl_PriceValues_l0_eq, spec_vaAll_l0_eq]
    unfold impl_PriceValues_l0K spec_vaAll_l0K
    have hi' : i < gN m.1 := by omega
    have hn := (gN_int M.g).2.2
    rw [lt_in hi', lt_in hi', wr_succ hi' (by omega)]
    obtain ⟨v, e1, e2, b1, b2⟩ := price_both m p e hp he M hi'
    have eta : (((m.1.1, (m.1.2.1, (m.1.2.2.1, ()))), (m.2.1, (m.2.2.1, (m.2.2.2.1, ())))) : DModel) = m := rfl
    rw [eta, e1, e2]
    have hc : decide (acc.length + [v].length ≤ 1099511627776) = true := decide_eq_true (by simp only [List.length_singleton]; omega)
    simp only [Option.bind_some, hc, cond_true]
    refine ih (i + 1) (acc ++ [v]) (by omega) (by simp; omega) fun x hx => ?_
    rcases List.mem_append.1 hx with hx | hx
    · exact hb x hx
    · rw [List.mem_singleton.1 hx]; exact ⟨b1, b2⟩
theorem PriceValues_both (m : DModel) (p e : Int) (hp : 10 ≤ p ∧ p ≤ 99) (he : 5 ≤ e ∧ e ≤ 44) :
    (modelB m = false ∧ impl_PriceValues m (p, 900, 20, e, ()) = some ([], false) ∧ spec_PriceValues m (p, 900, 20, e, ()) = some ([], false)) ∨
    (modelB m = true ∧ ∃ L, impl_PriceValues m (p, 900, 20, e, ()) = some (L, true) ∧ spec_PriceValues m (p, 900, 20, e, ()) = some (L, true) ∧ L.length = gN m.1 ∧ inB (-1000000) 1000000 L = true) := by
  obtain ⟨a1, a2⟩ := ArePrices_ok p e (by omega) (by omega)
  unfold impl_PriceValues impl_PriceValuesK spec_PriceValues spec_PriceValuesK spec_vaAll spec_vaAllK
  rw [IsModel_ok, moGood_ok]
  cases hm : modelB m with
  | false => exact .inl ⟨rfl, rfl, rfl⟩
  | true =>
    have M := modelB_in hm
    obtain ⟨L, e1, e2, e3, e4⟩ := values_loop m p e hp he M (gN m.1) 0 [] (by omega) rfl (fun v hv => by simp at hv)
    refine .inr ⟨rfl, L, ?_, ?_, e3, ?_⟩
    · simp only [Option.bind_some, Bool.not_true, cond_false, a1, M.t]
      rw [show ((0 : Nat) : Int) = 0 from rfl] at e1
      rw [e1]; rfl
    · simp only [Option.bind_some, Bool.not_true, cond_false, a2, M.t]
      rw [show ((0 : Nat) : Int) = 0 from rfl] at e2
      rw [e2]; rfl
    · exact inB_iff.2 fun i hi => e4 _ (List.getElem_mem hi)
end
end Go.OAI
