/- FnPiles: the law in plain words. -/
import Derived.Test.YtfkdmflcildgbaaDoorLRunPile
import Derived.Test.YtfkdmflcildgbaaDoorPfl
import Derived.Test.YtfkdmflcildgbaaDoorLPileText
import Derived.Test.YtfkdmflcildgbaaDoorLParsePile
namespace Go.OAI
set_option linter.unusedVariables false
noncomputable section

theorem txP_len {p : DPile} (h : pileB p = true) : (txP p).length ≤ 1000 := by
  obtain ⟨g1, g2, g3, g4, g5, g6⟩ := pileB_spec h
  have hc := dd_short (n := p.2.1) (by omega)
  have : ∀ M : List DLot, M.all lotB = true → (txL M).length ≤ 22 * M.length := by
    intro M hM
    induction M with
    | nil => simp [txL]
    | cons m M ih =>
      simp only [List.all_cons, Bool.and_eq_true] at hM
      have hm := lotB_spec hM.1
      have q1 := dd_short (n := m.1) (by omega)
      have q2 := dd_short (n := m.2.1) (by omega)
      have ih := ih hM.2
      simp only [txL, List.flatMap_cons, List.length_append, List.length_cons] at ih ⊢
      omega
  have h2 := this p.2.2.1 g1
  have h3 : (if p.1 then [109, 105, 120, 101, 100, 32] else [111, 114, 100, 101, 114, 32] : List UInt8).length = 6 := by split <;> rfl
  simp only [txP, List.length_append, h3]
  omega
/-- Both sides tell the same text; read back, it tells the pile. -/
theorem PileText_both (p : DPile) (hl : p.2.2.1.length ≤ 1000) : ∃ t, impl_PileText p = some (t, pileB p) ∧ spec_PileText p = some (t, pileB p) ∧ (pileB p = true → impl_ParsePile t = some ((p.1, p.2.1, p.2.2.1), true)) := by
  cases h : pileB p with
  | false =>
    refine ⟨⟨#[]⟩, ?_, ?_, fun h => by cases h⟩
    · unfold impl_PileText impl_PileTextK
      rw [IsPile_ok, h]; rfl
    · unfold spec_PileText spec_PileTextK
      rw [spGood_ok p (by omega), h]; rfl
  | true =>
    refine ⟨BA (txP p), impl_PileText_ok p h, ?_, fun _ => parseI_yes p h (by have := txP_len h; omega)⟩
    unfold spec_PileText spec_PileTextK
    rw [spGood_ok p (by omega), h]
    simp [spText_ok p h]
theorem ParsePile_both (s : ByteArray) (hs : s.size ≤ 1048576) : ∃ v, impl_ParsePile s = some v ∧ spec_ParsePile s = some v ∧ v.1.2.2.length ≤ 1000 := by
  obtain ⟨l, rfl⟩ : ∃ l, s = BA l := ⟨_, (BA_of s).symm⟩
  rw [BA_size] at hs
  by_cases h : ∃ p, pileB p = true ∧ l = txP p
  · obtain ⟨p, hp, rfl⟩ := h
    exact ⟨_, parseI_yes p hp hs, parseS_yes p hp hs, by have := (pileB_spec hp).2.2.2.1; dsimp only; omega⟩
  · have hno : ∀ p, pileB p = true → l ≠ txP p := fun p hp e => h ⟨p, hp, e⟩
    exact ⟨_, parseI_no l hs hno, parseS_no l hs hno, by simp⟩

/-! ### Draws -/
theorem drawText_ok {code : List Int} (K : CodeOk code) : ∃ p, spec_DrawPileText code = some p ∧ p.2.2.length ≤ 1000 := by
  unfold spec_DrawPileText spec_DrawPileTextK spec_DrawIsPile spec_DrawIsPileK
  obtain ⟨p, c1, e1, h1, k1⟩ := pile_ok K (cur0 code) (by omega)
  rw [e1]; exact ⟨_, rfl, h1⟩
theorem one_byte (x : Int) : (strOfNums [x]).size = 1 := by rw [strOfNums_size]; rfl
theorem app_size (a b : ByteArray) : (a ++ b).size = a.size + b.size := by
  rw [← BA_of a, ← BA_of b, BA_app, BA_size, BA_size, BA_size, List.length_append]
theorem ext_size (a : ByteArray) (i j : Nat) : (a.extract i j).size ≤ a.size := by
  rw [← BA_of a, BA_extract, BA_size, BA_size]
  simp; omega
theorem spoilt_loop {code : List Int} (K : CodeOk code) (w : List UInt8) (hw : w ≠ []) : ∀ (n : Nat) (s : ByteArray) (B : Nat) (c : List Int × Int × Int), Cur code B c → B + 6 * n ≤ 800000 → s.size + n ≤ 100000 →
    ∃ v, spec_l1Cur_spoilt_l0 (BA w) s (n : Int) c.1 c.2.1 c.2.2 = some v ∧ v.1.size ≤ s.size + n
  | 0, s, B, c, k, hB, hs => by
    rw [spec_l1Cur_spoilt_l0_eq]; unfold spec_l1Cur_spoilt_l0K
    exact ⟨_, rfl, by simp⟩
  | n + 1, s, B, c, k, hB, hs => by
    rw [spec_l1Cur_spoilt_l0_eq]; unfold spec_l1Cur_spoilt_l0K
    rw [decide_eq_true (by omega : ((n + 1 : Nat) : Int) > 0), cond_true]
    by_cases h0 : (s.size : Int) > 0
    · rw [decide_eq_true h0, cond_true]
      have hwl : 1 ≤ w.length := List.length_pos_iff.2 hw
      obtain ⟨i, c1, e1, a1, b1, k1⟩ := pick_ok K k (by omega) (s.size : Int) (by omega)
      obtain ⟨j, c2, e2, a2, b2, k2⟩ := pick_ok K k1 (by omega) ((BA w).size : Int) (by rw [BA_size]; omega)
      obtain ⟨m, c3, e3, a3, b3, k3⟩ := pick_ok K k2 (by omega) 3 (by omega)
      have e1 : spec_l1Cur_pick (c.1, c.2.1, c.2.2) (s.size : Int) = some (i, c1) := e1
      obtain ⟨i, rfl⟩ : ∃ i' : Nat, i = (i' : Int) := ⟨i.toNat, by omega⟩
      obtain ⟨j, rfl⟩ : ∃ j' : Nat, j = (j' : Int) := ⟨j.toNat, by omega⟩
      rw [BA_size] at b2
      have hj : j < w.length := by omega
      rw [e1]; simp only [Option.bind_some, e2]
      rw [bat_at hj]; simp only [Option.bind_some, e3]
      have en : IntKind.i64.wrap (((n + 1 : Nat) : Int) - 1) = (n : Int) := by rw [wr (by omega) (by omega)]; omega
      have ei : IntKind.i64.wrap ((i : Int) + 1) = ((i + 1 : Nat) : Int) := by rw [wr (by omega) (by omega)]; omega
      rw [en, ei]
      have d1 : decide ((0 : Int) ≤ (i : Int)) = true := decide_eq_true (by omega)
      have d2 : decide ((i : Int) ≤ (s.size : Int)) = true := decide_eq_true (by omega)
      have d3 : decide ((s.size : Int) ≤ (s.size : Int)) = true := decide_eq_true (by omega)
      have d4 : decide ((0 : Int) ≤ ((i + 1 : Nat) : Int)) = true := decide_eq_true (by omega)
      have d5 : decide (((i + 1 : Nat) : Int) ≤ (s.size : Int)) = true := decide_eq_true (by omega)
      simp only [d1, d2, d3, d4, d5, Bool.and_self, cond_true, Int.toNat_natCast, Option.bind_some]
      have hx : (s.extract 0 i).size ≤ i := by rw [← BA_of s, BA_extract, BA_size]; simp; omega
      have hy : (s.extract i s.size).size ≤ s.size - i := by rw [← BA_of s, BA_extract, BA_size, BA_size]; simp
      have hz : (s.extract (i + 1) s.size).size ≤ s.size - (i + 1) := by rw [← BA_of s, BA_extract, BA_size, BA_size]; simp
      have hb := one_byte ((w[j].toNat : Nat) : Int)
      have f1 : decide ((s.extract 0 i).size + (strOfNums [((w[j].toNat : Nat) : Int)]).size ≤ 9223372036854775807) = true := decide_eq_true (by omega)
      have f2 : decide ((s.extract 0 i ++ strOfNums [((w[j].toNat : Nat) : Int)]).size + (s.extract i s.size).size ≤ 9223372036854775807) = true := decide_eq_true (by rw [app_size]; omega)
      have f3 : decide ((s.extract 0 i ++ strOfNums [((w[j].toNat : Nat) : Int)]).size + (s.extract (i + 1) s.size).size ≤ 9223372036854775807) = true := decide_eq_true (by rw [app_size]; omega)
      have f4 : decide ((s.extract 0 i).size + (s.extract (i + 1) s.size).size ≤ 9223372036854775807) = true := decide_eq_true (by omega)
      simp only [f1, f2, f3, f4, cond_true]
      cases m == 0 with
      | true =>
        obtain ⟨v, g1, g2⟩ := spoilt_loop K w hw n ((s.extract 0 i ++ strOfNums [((w[j].toNat : Nat) : Int)]) ++ s.extract i s.size) _ c3 k3 (by omega) (by rw [app_size, app_size]; omega)
        exact ⟨v, g1, by rw [app_size, app_size] at g2; omega⟩
      | false =>
        simp only [cond_false]
        cases m == 1 with
        | true =>
          obtain ⟨v, g1, g2⟩ := spoilt_loop K w hw n ((s.extract 0 i ++ strOfNums [((w[j].toNat : Nat) : Int)]) ++ s.extract (i + 1) s.size) _ c3 k3 (by omega) (by rw [app_size, app_size]; omega)
          exact ⟨v, g1, by rw [app_size, app_size] at g2; omega⟩
        | false =>
          obtain ⟨v, g1, g2⟩ := spoilt_loop K w hw n (s.extract 0 i ++ s.extract (i + 1) s.size) _ c3 k3 (by omega) (by rw [app_size]; omega)
          exact ⟨v, g1, by rw [app_size] at g2; omega⟩
    · rw [decide_eq_false h0, cond_false]
      exact ⟨_, rfl, by dsimp only; omega⟩
theorem drawParse_ok {code : List Int} (K : CodeOk code) : ∃ s, spec_DrawParsePile code = some s ∧ s.size ≤ 1048576 := by
  unfold spec_DrawParsePile spec_DrawParsePileK
  obtain ⟨p, c1, e1, h1, k1⟩ := pile_ok K (cur0 code) (by omega)
  rw [e1]; simp only [Option.bind_some]
  rw [spGood_ok (p.1, p.2.1, p.2.2, ()) (by show p.2.2.length ≤ _; omega)]
  cases h : pileB (p.1, p.2.1, p.2.2, ()) with
  | false =>
    simp only [Option.bind_some, Bool.not_false, cond_true]
    unfold spec_l1Cur_of spec_l1Cur_ofK
    obtain ⟨v, c2, e2, a2, b2, k2⟩ := pick_ok K k1 (by omega) 5 (by omega)
    have hb : ∀ L : List ByteArray, L.length = 5 → (∀ s ∈ L, s.size ≤ 100) → ∃ s, ((spec_l1Cur_pick c1 (L.length : Int)).bind fun y1 => (lat L y1.1).bind fun e2 => some (e2, y1.2)).bind (fun y3 => some y3.1) = some s ∧ s.size ≤ 1048576 := by
      intro L hL hs
      rw [hL]
      have e2 : spec_l1Cur_pick c1 ((5 : Nat) : Int) = some (v, c2) := e2
      rw [e2]; simp only [Option.bind_some]
      have hi : v.toNat < L.length := by omega
      rw [lat_int a2 hi]
      exact ⟨_, rfl, by have := hs _ (List.getElem_mem hi); dsimp only; omega⟩
    exact hb _ rfl (by decide)
  | true =>
    have ht := txP_len h
    rw [spText_ok _ h]
    simp only [Option.bind_some, Bool.not_true, cond_false]
    obtain ⟨v, c2, e2, k2⟩ := one_ok K k1 (by omega) 3 (by omega)
    rw [e2]; simp only [Option.bind_some]
    cases v with
    | false => exact ⟨_, rfl, by rw [BA_size]; omega⟩
    | true =>
      simp only [cond_true]
      unfold spec_l1Cur_spoilt spec_l1Cur_spoiltK
      obtain ⟨m, c3, e3, a3, b3, k3⟩ := pick_ok K k2 (by omega) 2 (by omega)
      rw [e3]; simp only [Option.bind_some]
      have em : IntKind.i64.wrap (1 + m) = ((1 + m.toNat : Nat) : Int) := by rw [wr (by omega) (by omega)]; omega
      obtain ⟨u, g1, g2⟩ := spoilt_loop K [48, 49, 32, 109, 111] (by simp) (1 + m.toNat) (BA (txP (p.1, p.2.1, p.2.2, ()))) _ c3 k3 (by omega) (by rw [BA_size]; omega)
      rw [BA_size] at g2
      have g1 : spec_l1Cur_spoilt_l0 (⟨#[48, 49, 32, 109, 111]⟩ : ByteArray) (BA (txP (p.1, p.2.1, p.2.2, ()))) ((1 + m.toNat : Nat) : Int) c3.1 c3.2.1 c3.2.2 = some u := g1
      rw [em, g1]
      exact ⟨_, rfl, by omega⟩
theorem drawRun_loop {code : List Int} (K : CodeOk code) : ∀ (n : Nat) (B : Nat) (c : List Int × Int × Int) (l : List DStir), Cur code B c → B + 20 * n ≤ 700000 → l.length + n ≤ 1000 →
    ∃ v, spec_DrawRunPile_l0 (n : Int) c.1 c.2.1 c.2.2 l = some v ∧ v.length = l.length + n
  | 0, B, c, l, k, hB, hl => by
    rw [spec_DrawRunPile_l0_eq]; unfold spec_DrawRunPile_l0K
    exact ⟨_, rfl, by simp⟩
  | n + 1, B, c, l, k, hB, hl => by
    rw [spec_DrawRunPile_l0_eq]; unfold spec_DrawRunPile_l0K
    rw [decide_eq_true (by omega : ((n + 1 : Nat) : Int) > 0), cond_true]
    obtain ⟨x, c1, e1, k1⟩ := lot_ok K k (by omega)
    have e1 : spec_l1Cur_lot (c.1, c.2.1, c.2.2) = some (x, c1) := e1
    obtain ⟨p, c2, e2, k2⟩ := one_ok K k1 (by omega) 3 (by omega)
    have en : IntKind.i64.wrap (((n + 1 : Nat) : Int) - 1) = (n : Int) := by rw [wr (by omega) (by omega)]; omega
    rw [e1]; simp only [Option.bind_some, e2, en, List.length_singleton]
    have hc : decide (l.length + 1 ≤ 1099511627776) = true := decide_eq_true (by omega)
    simp only [hc, cond_true]
    cases p with
    | false =>
      obtain ⟨v, g1, g2⟩ := drawRun_loop K n _ c2 (l ++ [(!false, x)]) k2 (by omega) (by simp; omega)
      exact ⟨v, g1, by rw [g2]; simp; omega⟩
    | true =>
      obtain ⟨q, c3, e3, k3⟩ := one_ok K k2 (by omega) 12 (by omega)
      simp only [Bool.not_true, Bool.not_false, cond_true, e3, Option.bind_some]
      cases q with
      | false =>
        obtain ⟨v, g1, g2⟩ := drawRun_loop K n _ c3 (l ++ [(false, x.1, 0, ())]) k3 (by omega) (by simp; omega)
        exact ⟨v, g1, by rw [g2]; simp; omega⟩
      | true =>
        obtain ⟨v, g1, g2⟩ := drawRun_loop K n _ c3 (l ++ [(false, x)]) k3 (by omega) (by simp; omega)
        exact ⟨v, g1, by rw [g2]; simp; omega⟩
theorem drawRun_ok {code : List Int} (K : CodeOk code) : ∃ p l, spec_DrawRunPile code = some (p, l) ∧ p.2.2.length ≤ 1000 ∧ l.length ≤ 1000 := by
  unfold spec_DrawRunPile spec_DrawRunPileK
  obtain ⟨p, c1, e1, h1, k1⟩ := pile_ok K (cur0 code) (by omega)
  rw [e1]; simp only [Option.bind_some]
  obtain ⟨n, c2, e2, a2, b2, k2⟩ := pick_ok K k1 (by omega) 12 (by omega)
  rw [e2]; simp only [Option.bind_some]
  obtain ⟨q, c3, e3, k3⟩ := one_ok K k2 (by omega) 20 (by omega)
  rw [e3]; simp only [Option.bind_some]
  cases q with
  | true =>
    obtain ⟨m, c4, e4, a4, b4, k4⟩ := pick_ok K k3 (by omega) 2 (by omega)
    simp only [cond_true, e4, Option.bind_some]
    have em : IntKind.i64.wrap (60 + m) = ((60 + m.toNat : Nat) : Int) := by rw [wr (by omega) (by omega)]; omega
    obtain ⟨v, g1, g2⟩ := drawRun_loop K (60 + m.toNat) _ c4 [] k4 (by omega) (by simp; omega)
    rw [em, g1]
    exact ⟨_, _, rfl, h1, by rw [g2]; simp; omega⟩
  | false =>
    obtain ⟨n, rfl⟩ : ∃ n' : Nat, n = (n' : Int) := ⟨n.toNat, by omega⟩
    obtain ⟨v, g1, g2⟩ := drawRun_loop K n _ c3 [] k3 (by omega) (by simp; omega)
    simp only [cond_false]
    rw [g1]
    exact ⟨_, _, rfl, h1, by rw [g2]; simp; omega⟩

/-! ### A run keeps tonnes and metal -/
def putT (L : List DStir) : Int := (L.map fun s => if s.1 then s.2.1 else 0).sum
def putM (L : List DStir) : Int := (L.map fun s => if s.1 then s.2.2.1 else 0).sum
theorem putT_cons (s : DStir) (L : List DStir) : putT (s :: L) = (if s.1 then s.2.1 else 0) + putT L := by simp [putT]
theorem putM_cons (s : DStir) (L : List DStir) : putM (s :: L) = (if s.1 then s.2.2.1 else 0) + putM L := by simp [putM]
def putOk (s : DStir) : Bool := !s.1 || lotB (s.2.1, s.2.2.1, ())
structure Fin2 (L : List DStir) (i n : Nat) (t m : Int) (b : Bool) (c : Int) (l acc : List DLot) : Prop where
  le : i ≤ n
  ln : n ≤ L.length
  good : pileB (b, c, l, ()) = true
  outs : acc.all lotB = true
  len : acc.length ≤ 60
  puts : ((L.drop i).take (n - i)).all putOk = true
  ts : tS l + tS acc = t + putT ((L.drop i).take (n - i))
  ms : mS l + mS acc = m + putM ((L.drop i).take (n - i))
def RunOk (L : List DStir) (i : Nat) (t m : Int) : ((Int × Bool × Bool × Int × (List DLot) × (List DLot)) ⊕ (Bool × Int × (List DLot) × (List DLot))) → Prop
  | .inl x => ∃ n : Nat, x.1 = (n : Int) ∧ x.2.1 = true ∧ Fin2 L i n t m x.2.2.1 x.2.2.2.1 x.2.2.2.2.1 x.2.2.2.2.2
  | .inr x => Fin2 L i L.length t m x.1 x.2.1 x.2.2.1 x.2.2.2
theorem take_next {L : List DStir} {i n : Nat} (hi : i < L.length) (h : i + 1 ≤ n) : (L.drop i).take (n - i) = L[i] :: (L.drop (i + 1)).take (n - (i + 1)) := by
  rw [drop_cons hi, show n - i = (n - (i + 1)) + 1 by omega, List.take_succ_cons]
theorem Fin2.step {L : List DStir} {i n : Nat} (hi : i < L.length) {t m t' m' : Int} {b : Bool} {c : Int} {l acc : List DLot} (h : Fin2 L (i + 1) n t' m' b c l acc) (hp : putOk L[i] = true)
    (ht : t' = t + (if L[i].1 then L[i].2.1 else 0)) (hm : m' = m + (if L[i].1 then L[i].2.2.1 else 0)) : Fin2 L i n t m b c l acc where
  le := by have := h.le; omega
  ln := h.ln
  good := h.good
  outs := h.outs
  len := h.len
  puts := by rw [take_next hi h.le, List.all_cons, hp, h.puts]; rfl
  ts := by rw [take_next hi h.le, putT_cons, h.ts, ht]; omega
  ms := by rw [take_next hi h.le, putM_cons, h.ms, hm]; omega
theorem RunOk.step {L : List DStir} {i : Nat} (hi : i < L.length) {t m t' m' : Int} (hp : putOk L[i] = true) (ht : t' = t + (if L[i].1 then L[i].2.1 else 0)) (hm : m' = m + (if L[i].1 then L[i].2.2.1 else 0)) :
    ∀ {v}, RunOk L (i + 1) t' m' v → RunOk L i t m v
  | .inl x, ⟨n, h1, h2, h3⟩ => ⟨n, h1, h2, h3.step hi hp ht hm⟩
  | .inr x, h => Fin2.step hi h hp ht hm
theorem run_loop2 (L : List DStir) (hn : L.length ≤ 60) : ∀ i, i ≤ L.length → ∀ (b : Bool) (c : Int) (l acc : List DLot), pileB (b, c, l, ()) = true → acc.length ≤ i → acc.all lotB = true →
    ∃ v, impl_RunPile_l0 L (L.length : Int) (i : Int) b c l acc = some v ∧ spec_RunPile_l0 L (L.length : Int) (i : Int) b c l acc = some v ∧ RunOk L i (tS l + tS acc) (mS l + mS acc) v := by
  refine down (fun b c l acc hp ha hacc => ?_) fun i hi ih b c l acc hp ha hacc => ?_
  · rw [impl_RunPile_l0_eq, spec_RunPile_l0_eq]; unfold impl_RunPile_l0K spec_RunPile_l0K
    rw [lt_out (Nat.le_refl _), lt_out (Nat.le_refl _)]
    exact ⟨_, rfl, rfl, ⟨Nat.le_refl _, Nat.le_refl _, hp, hacc, by show acc.length ≤ _; omega, by simp, by simp [putT], by simp [putM]⟩⟩
  · have stop : RunOk L i (tS l + tS acc) (mS l + mS acc) (.inl ((i : Int), (true, (b, (c, (l, acc)))))) :=
      ⟨i, rfl, rfl, Nat.le_refl _, by omega, hp, hacc, by show acc.length ≤ _; omega, by simp, by simp [putT], by simp [putM]⟩
    have stp := fun (t' m' : Int) (hp : putOk L[i] = true) (ht : t' = (tS l + tS acc) + (if L[i].1 then L[i].2.1 else 0)) (hm : m' = (mS l + mS acc) + (if L[i].1 then L[i].2.2.1 else 0)) => @RunOk.step L i hi _ _ t' m' hp ht hm
    rw [impl_RunPile_l0_eq, spec_RunPile_l0_eq]; unfold impl_RunPile_l0K spec_RunPile_l0K
    rw [loop_step hi, loop_step hi, wr_succ hi (by omega)]
    generalize L[i] = e at stp
    obtain ⟨put, t, m, ⟨⟩⟩ := e
    unfold spec_spStir spec_spStirK
    obtain ⟨p1, p2, p3, p4, p5, p6⟩ := pileB_spec hp
    cases put with
    | true =>
      simp only [cond_true, Bool.not_true, cond_false, isLot_ok, spLot_ok, Option.bind_some]
      cases hx : lotB (t, m, ()) with
      | false => exact ⟨_, rfl, rfl, stop⟩
      | true =>
        rw [putLot_ok b c l (t, m, ()) hp hx, spPut_ok b c l (t, m, ()) hp hx]
        simp only [cond_true, Bool.not_true, cond_false, Option.bind_some]
        cases hr : (putR (b, c, l, ()) (t, m, ())).2 with
        | false => exact ⟨_, rfl, rfl, stop⟩
        | true =>
          simp only [Bool.not_true, cond_false]
          obtain ⟨v, g1, g2, g3⟩ := ih _ _ _ _ (putR_good hr) (Nat.le_succ_of_le ha) hacc
          refine ⟨v, g1, g2, stp _ _ (by simp [putOk, hx]) ?_ ?_ g3⟩
          all_goals
            have hs := putP_sums b c l (t, m, ())
            unfold putR at hr ⊢
            split at hr
            · rename_i hgood
              simp only [hgood, if_true, hs]
              omega
            · simp at hr
    | false =>
      obtain ⟨r1, r2⟩ := takeR_ok (b, c, l, ()) t hp
      simp only [Bool.not_false, cond_true, cond_false, r2, Option.bind_some]
      by_cases ct : t ≥ 1
      · by_cases cm : m = 0
        · subst cm
          rw [r1 ct]
          simp only [ct, decide_true, cond_true, beq_self_eq_true, Option.bind_some, bne_self_eq_false, cond_false]
          cases hr : (takeR (b, c, l, ()) t).2.2 with
          | false => exact ⟨_, rfl, rfl, stop⟩
          | true =>
            have hl : acc.length + [(takeR (b, c, l, ()) t).2.1].length ≤ 1099511627776 := by simp; omega
            simp only [Bool.not_true, cond_false, hl, decide_true, cond_true]
            have hc : 1 ≤ t ∧ t ≤ tS l ∧ lotB (t, (takeF t l).2.2, ()) = true := Classical.byContradiction fun hc => by
              unfold takeR at hr
              rw [if_neg hc] at hr
              cases hr
            have ht1 : (takeR (b, c, l, ()) t).2.1 = (t, (takeF t l).2.2, ()) := by unfold takeR; rw [if_pos hc]
            have ht2 : (takeR (b, c, l, ()) t).1.2.2 = (takeF t l).1 := by unfold takeR; rw [if_pos hc]
            obtain ⟨v, g1, g2, g3⟩ := ih (takeR (b, c, l, ()) t).1.1 (takeR (b, c, l, ()) t).1.2.1 (takeR (b, c, l, ()) t).1.2.2 (acc ++ [(takeR (b, c, l, ()) t).2.1]) (takeR_good hp hr) (by simp; omega)
              (by rw [List.all_append, hacc, ht1]; simp [hc.2.2])
            obtain ⟨f1, f2, f3, f4, f5, f6⟩ := takeF_spec l t p1 (by omega) hc.2.1
            have f7 := takeF_metal l t p1 (by omega)
            refine ⟨v, g1, g2, stp _ _ rfl ?_ ?_ g3⟩
            · rw [ht1, ht2, tS_append, f6]; simp; omega
            · rw [ht1, ht2, mS_append]; simp; omega
        · have cm' : (m == 0) = false := by simp [cm]
          have cm2 : (m != 0) = true := by simp [cm]
          simp only [ct, decide_true, cond_true, cm', cond_false, cm2]
          cases hr : (takeR (b, c, l, ()) t).2.2 with
          | false => exact ⟨_, rfl, rfl, stop⟩
          | true => exact ⟨_, rfl, rfl, stop⟩
      · have hr : (takeR (b, c, l, ()) t).2.2 = false := by
          unfold takeR
          rw [if_neg (fun h => ct h.1)]
        simp only [ct, decide_false, cond_false, hr, Bool.not_false, cond_true]
        exact ⟨_, rfl, rfl, stop⟩
theorem RunPile_both (x0 : DPile) (hl : x0.2.2.1.length ≤ 1000) (x1 : List DStir) (hs : x1.length ≤ 1000) : ∃ v, impl_RunPile x0 x1 = some v ∧ spec_RunPile x0 x1 = some v ∧ v.1.2.2.length ≤ 40 ∧ v.2.1.length ≤ 60 ∧
    (v.2.2.2 = true → pileB x0 = true ∧ x1.length ≤ 60 ∧ ∃ n : Nat, v.2.2.1 = (n : Int) ∧ Fin2 x1 0 n (tS x0.2.2.1) (mS x0.2.2.1) v.1.1 v.1.2.1 v.1.2.2 v.2.1) := by
  unfold impl_RunPile impl_RunPileK spec_RunPile spec_RunPileK
  rw [IsPile_ok, spGood_ok x0 (by omega)]
  cases hp : pileB x0 with
  | false => exact ⟨_, rfl, rfl, by simp, by simp, fun h => by cases h⟩
  | true =>
    by_cases c : (x1.length : Int) > 60
    · exact ⟨_, by simp [c]; rfl, by simp [c], by simp, by simp, fun h => by cases h⟩
    · have hcap : ([] : List DLot).length + x0.2.2.1.length ≤ 1099511627776 := by simp; omega
      obtain ⟨v, g1, g2, g3⟩ := run_loop2 x1 (by omega) 0 (Nat.zero_le _) x0.1 x0.2.1 x0.2.2.1 [] hp (by simp) (by simp)
      have g1 : impl_RunPile_l0 x1 (x1.length : Int) 0 x0.1 x0.2.1 x0.2.2.1 [] = some v := g1
      have g2 : spec_RunPile_l0 x1 (x1.length : Int) 0 x0.1 x0.2.1 x0.2.2.1 [] = some v := g2
      have e0 : tS ([] : List DLot) = 0 := rfl
      have e1 : mS ([] : List DLot) = 0 := rfl
      rw [e0, e1, Int.add_zero, Int.add_zero] at g3
      have cp : impl_copyPile x0 = some (x0.1, x0.2.1, x0.2.2.1) := by
        unfold impl_copyPile impl_copyPileK
        simp only [hcap, decide_true, cond_true, List.nil_append]
      have cs : spec_spWith x0 x0.2.2.1 = some (x0.1, x0.2.1, x0.2.2.1) := by
        unfold spec_spWith spec_spWithK
        simp only [hcap, decide_true, cond_true, List.nil_append]
      simp only [Bool.not_true, cond_false, c, decide_false, cp, cs, Option.bind_some, g1, g2]
      cases v with
      | inl y =>
        obtain ⟨n, h1, h2, h3⟩ := g3
        exact ⟨_, rfl, rfl, (pileB_spec h3.good).2.2.2.1, h3.len, fun _ => ⟨trivial, by omega, n, h1, h3⟩⟩
      | inr y =>
        have h3 : Fin2 x1 0 x1.length (tS x0.2.2.1) (mS x0.2.2.1) y.1 y.2.1 y.2.2.1 y.2.2.2 := g3
        exact ⟨_, rfl, rfl, (pileB_spec h3.good).2.2.2.1, h3.len, fun _ => ⟨trivial, by omega, x1.length, rfl, h3⟩⟩
theorem put_loop (L : List DStir) (n : Nat) (hn : (L.take n).length ≤ 60) (hp : (L.take n).all putOk = true) : ∀ i, i ≤ (L.take n).length → ∀ a b : Int, 0 ≤ a → a ≤ 100000000 + 1000000 * i → 0 ≤ b → b ≤ 100000000000 + 1000000000 * i →
    laws_FnPiles_l0 0 n ((L.take n).length : Int) L a b (i : Int) = some (a + putT ((L.take n).drop i), b + putM ((L.take n).drop i)) := by
  refine down ?_ ?_
  · intro a b _ _ _ _
    rw [laws_FnPiles_l0_eq]; unfold laws_FnPiles_l0K
    rw [lt_out (Nat.le_refl _), List.drop_length]
    simp [putT, putM]
  · intro i hi ih a b h1 h2 h3 h4
    rw [laws_FnPiles_l0_eq]; unfold laws_FnPiles_l0K
    have hiL : i < L.length := by rw [List.length_take] at hi; omega
    have ge : L.getD (0 + (i : Int).toNat) TStir.dflt = (L.take n)[i] := by
      rw [Nat.zero_add, Int.toNat_natCast, List.getD_eq_getElem?_getD, List.getElem?_eq_getElem hiL, Option.getD_some, List.getElem_take]
    have hx := List.all_eq_true.1 hp _ (List.getElem_mem hi)
    rw [lt_in hi, List.drop_zero, ck_in hi, ge, wr_succ hi (by omega), drop_cons hi, putT_cons, putM_cons]
    generalize (L.take n)[i] = s at hx
    obtain ⟨put, t, m, ⟨⟩⟩ := s
    cases put with
    | false =>
      simp only [cond_false, Bool.false_eq_true, if_false, Int.zero_add]
      exact ih a b h1 (by omega) h3 (by omega)
    | true =>
      have hb := lotB_spec (x := (t, m, ())) (by simpa [putOk] using hx)
      dsimp only at hb
      simp only [cond_true, if_true, Option.bind_some]
      rw [wr (n := a + t) (by omega) (by omega), wr (n := b + m) (by omega) (by omega), ih (a + t) (b + m) (by omega) (by omega) (by omega) (by omega)]
      rw [Int.add_assoc, Int.add_assoc]
theorem out_loop (A : List DLot) (hn : A.length ≤ 60) (hp : A.all lotB = true) : ∀ i, i ≤ A.length → ∀ a b : Int, -1000000000 - 1000000 * (i : Int) ≤ a → a ≤ 1000000000 → -1000000000000 - 1000000000 * (i : Int) ≤ b → b ≤ 1000000000000 →
    laws_FnPiles_l1 (A.length : Int) A a b (i : Int) = some (a - tS (A.drop i), b - mS (A.drop i)) := by
  refine down ?_ ?_
  · intro a b _ _ _ _
    rw [laws_FnPiles_l1_eq]; unfold laws_FnPiles_l1K
    rw [lt_out (Nat.le_refl _), List.drop_length]
    simp [tS, mS]
  · intro i hi ih a b h1 h2 h3 h4
    rw [laws_FnPiles_l1_eq]; unfold laws_FnPiles_l1K
    have ge : A.getD (0 + (i : Int).toNat) TLot.dflt = A[i] := by
      rw [Nat.zero_add, Int.toNat_natCast, List.getD_eq_getElem?_getD, List.getElem?_eq_getElem hi, Option.getD_some]
    have hx := lotB_spec (List.all_eq_true.1 hp _ (List.getElem_mem hi))
    rw [lt_in hi, ck_in hi, ge, wr_succ hi (by omega), drop_cons hi, tS_cons, mS_cons]
    rw [wr (n := a - A[i].1) (by omega) (by omega), wr (n := b - A[i].2.1) (by omega) (by omega), ih _ _ (by omega) (by omega) (by omega) (by omega)]
    congr 2 <;> omega
/-- The texts' half. -/
theorem textHalf {x1 : List Int} (K : CodeOk x1) : ((spec_DrawPileText x1).bind fun y15 =>
    (impl_PileText (y15.1, (y15.2.1, (y15.2.2, ())))).bind fun y16 =>
    (spec_PileText (y15.1, (y15.2.1, (y15.2.2, ())))).bind fun y17 =>
    cond (!(y16.2 == y17.2))
    (some false)
    (cond (!(eqS y16.1 y17.1))
      (some false)
      (cond (y16.2)
        ((impl_ParsePile y16.1).bind fun y18 =>
          cond (!y18.2)
          (some false)
          ((laws_pSamePile (y18.1.1, (y18.1.2.1, (y18.1.2.2, ()))) (y15.1, (y15.2.1, (y15.2.2, ())))).bind fun y19 =>
            cond (!y19)
            (some false)
            ((spec_DrawParsePile x1).bind fun y20 =>
              (impl_ParsePile y20).bind fun y21 =>
              (spec_ParsePile y20).bind fun y22 =>
              cond (y21.2 == y22.2)
              ((laws_pSamePile (y21.1.1, (y21.1.2.1, (y21.1.2.2, ()))) (y22.1.1, (y22.1.2.1, (y22.1.2.2, ())))).bind fun y23 =>
                some y23)
              (some false))))
        ((spec_DrawParsePile x1).bind fun y24 =>
          (impl_ParsePile y24).bind fun y25 =>
          (spec_ParsePile y24).bind fun y26 =>
          cond (y25.2 == y26.2)
          ((laws_pSamePile (y25.1.1, (y25.1.2.1, (y25.1.2.2, ()))) (y26.1.1, (y26.1.2.1, (y26.1.2.2, ())))).bind fun y27 =>
            some y27)
          (some false))))) = some true := by
  obtain ⟨p, e1, h1⟩ := drawText_ok K
  obtain ⟨t, f1, f2, f3⟩ := PileText_both (p.1, p.2.1, p.2.2, ()) h1
  obtain ⟨s, e2, h2⟩ := drawParse_ok K
  obtain ⟨v, g1, g2, g3⟩ := ParsePile_both s h2
  have hs := samePile_refl (v.1.1, v.1.2.1, v.1.2.2, ()) (by show v.1.2.2.length ≤ _; omega)
  have hp := samePile_refl (p.1, p.2.1, p.2.2, ()) (by show p.2.2.length ≤ _; omega)
  simp only [e1, Option.bind_some, f1, f2, beq_self_eq_true, Bool.not_true, cond_false, eqS_refl, e2, g1, g2, hs, cond_true]
  cases h : pileB (p.1, p.2.1, p.2.2, ()) with
  | false => rfl
  | true =>
    have f3 := f3 h
    simp only [cond_true, f3, Option.bind_some, Bool.not_true, cond_false, hp]
theorem u8_range {x : Int} (h : (Ty.int .u8).wf x) : 0 ≤ x ∧ x ≤ 255 := by
  have h : (decide ((IntKind.u8).min ≤ x) && decide (x ≤ (IntKind.u8).max)) = true := h
  have e1 : IntKind.u8.min = 0 := by decide
  have e2 : IntKind.u8.max = 255 := by decide
  rw [e1, e2] at h
  simpa using h
theorem FnPiles_law (x0 x1 : List Int) (w0 : (Ty.slice (.int .u8)).wf x0) (w1 : (Ty.slice (.int .u8)).wf x1) : laws_FnPiles x0 x1 = some true := by
  unfold laws_FnPiles laws_FnPilesK laws_big laws_bigK
  by_cases c1 : (x0.length : Int) > 1048576
  · simp [c1]
  rw [wr (n := 1048576 - (x0.length : Int)) (by omega) (by omega)]
  by_cases c2 : (x1.length : Int) > 1048576 - (x0.length : Int)
  · simp [c1, c2]
  have K0 : CodeOk x0 := ⟨fun x hx => u8_range (w0.2 x hx), by omega⟩
  have K1 : CodeOk x1 := ⟨fun x hx => u8_range (w1.2 x hx), by omega⟩
  obtain ⟨p, L, e1, h1, h2⟩ := drawRun_ok K0
  obtain ⟨v, a1, a2, a3, a4, a5⟩ := RunPile_both (p.1, p.2.1, p.2.2, ()) h1 L h2
  have hs := samePile_refl (v.1.1, v.1.2.1, v.1.2.2, ()) (by show v.1.2.2.length ≤ _; omega)
  have hq := sameLots_refl v.2.1 (by omega)
  have hI : spec_IsPile (p.1, p.2.1, p.2.2, ()) = some (pileB (p.1, p.2.1, p.2.2, ())) := by
    unfold spec_IsPile spec_IsPileK
    rw [spGood_ok _ (by show p.2.2.length ≤ _; omega)]; rfl
  rw [textHalf K1]
  simp only [c1, c2, decide_false, cond_false, Option.bind_some]
  rw [e1]; simp only [Option.bind_some]
  rw [a1, a2]; simp only [Option.bind_some]
  rw [hs, hq]
  simp only [beq_self_eq_true, Bool.not_true, cond_false, Option.bind_some, impl_PileSums_ok, IsPile_ok, hI, bne_self_eq_false]
  cases hv : v.2.2.2 with
  | false => rfl
  | true =>
    obtain ⟨g1, g2, n, g3, g4⟩ := a5 hv
    have f1 := sums_bound _ (pileB_spec g1).1
    have f2 := sums_bound _ (pileB_spec g4.good).1
    have f3 := sums_bound _ g4.outs
    have l1 := (pileB_spec g1).2.2.2.1
    have l2 := (pileB_spec g4.good).2.2.2.1
    have hn := g4.ln
    have hlen := g4.len
    have ht := g4.ts
    have hm := g4.ms
    have hpu := g4.puts
    simp only [Nat.sub_zero, List.drop_zero] at ht hm hpu
    dsimp only at f1 f2 f3 l1 l2 ht hm
    rw [g3]
    rw [decide_eq_true (by omega : (0 : Int) ≤ (n : Int)), decide_eq_true (by omega : (n : Int) ≤ (L.length : Int))]
    have q1 := put_loop L n (by simp; omega) hpu 0 (Nat.zero_le _) (tS p.2.2) (mS p.2.2) (by omega) (by omega) (by omega) (by omega)
    have q1 : laws_FnPiles_l0 (0 + 0) ((n : Int).toNat - 0) (((L.drop (0 + 0)).take ((n : Int).toNat - 0)).length : Int) L (tS p.2.2) (mS p.2.2) 0 = some (tS p.2.2 + putT (L.take n), mS p.2.2 + putM (L.take n)) := q1
    have q2 := out_loop v.2.1 hlen g4.outs 0 (Nat.zero_le _) (tS p.2.2 + putT (L.take n)) (mS p.2.2 + putM (L.take n)) (by omega) (by omega) (by omega) (by omega)
    have q2 : laws_FnPiles_l1 (v.2.1.length : Int) v.2.1 (tS p.2.2 + putT (L.take n)) (mS p.2.2 + putM (L.take n)) 0 = some (tS p.2.2 + putT (L.take n) - tS v.2.1, mS p.2.2 + putM (L.take n) - mS v.2.1) := q2
    have r1 : tS p.2.2 + putT (L.take n) - tS v.2.1 = tS v.1.2.2 := by omega
    have r2 : mS p.2.2 + putM (L.take n) - mS v.2.1 = mS v.1.2.2 := by omega
    simp only [g1, g4.good, if_true, Bool.and_self, cond_true, q1, Option.bind_some, q2, r1, r2, Bool.not_true, cond_false, bne_self_eq_false]
end
end Go.OAI
