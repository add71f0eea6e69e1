/- RunPile: the law in plain words. -/
import Derived.Test.YthjlfdaajdlboaaLTakeTonnes
namespace Go.OAI
set_option linter.unusedVariables false
noncomputable section

theorem toStirS_ok (l : List DStir) (h : l.length ≤ 1099511627776) : laws_toStirS l = some l := by
  unfold laws_toStirS laws_toStirSK
  rw [cap_ok h]
  simp only [Option.bind_some]
  rw [fill_loop (f := fun i r => laws_toStirS_l0 l i r) h (r := l)]
  · rfl
  · show laws_toStirS_l0 l _ l = _
    rw [laws_toStirS_l0_eq]; unfold laws_toStirS_l0K
    rw [lt_out (Nat.le_refl _)]
  · intro i r hi hr
    show laws_toStirS_l0 l i r = _
    rw [laws_toStirS_l0_eq]; unfold laws_toStirS_l0K
    rw [loop_step hi]
    simp only [laws_toStir, laws_toStirK, Option.bind_some]
    rw [ck_in (by omega), wr_succ hi (by omega)]
    simp
  · simp
theorem eqStirS_refl (l : List DStir) (h : l.length ≤ 1099511627776) : laws_eqStirS l l = some true := by
  unfold laws_eqStirS laws_eqStirSK
  have : laws_eqStirS_l0 l l 0 = some (.inr ()) := by
    rw [all_loop (f := fun i => laws_eqStirS_l0 l l i) (l := l) (good := fun _ _ => true) (y := .inr ()) (n := .inl false)]
    · simp
    · show laws_eqStirS_l0 l l _ = _
      rw [laws_eqStirS_l0_eq]; unfold laws_eqStirS_l0K
      rw [lt_out (Nat.le_refl _)]
    · intro i hi
      show laws_eqStirS_l0 l l i = _
      rw [laws_eqStirS_l0_eq]; unfold laws_eqStirS_l0K
      rw [loop_step hi, wr_succ hi (by omega), lat_nat hi]
      simp [laws_eqStir, laws_eqStirK]
  rw [this]
  simp [sumO]
theorem markStirS_ok (l : List DStir) (h : l.length ≤ 1099511627776) (k : Int) (h0 : 0 ≤ k) (hk : k ≤ 1099511627776) :
    ∃ k' l', laws_markStirS l k = some (k', l') ∧ k ≤ k' := by
  have key : ∀ n i : Nat, ∀ L : List DStir, L.length = l.length → i + n = L.length → ∃ L', laws_markStirS_l0 (k + 3 * (i : Int)) (i : Int) L = some (k + 3 * (l.length : Int), L') := by
    intro n
    induction n with
    | zero =>
      intro i L hL hi
      rw [laws_markStirS_l0_eq]; unfold laws_markStirS_l0K
      rw [lt_out (by omega)]
      exact ⟨L, by rw [show (i : Int) = (l.length : Int) by omega]⟩
    | succ n ih =>
      intro i L hL hi
      have hi2 : i < L.length := by omega
      rw [laws_markStirS_l0_eq]; unfold laws_markStirS_l0K
      rw [lt_in hi2, ck_in hi2]
      simp only [Option.bind_some]
      rw [ck_in (by simp; omega)]
      try simp only [Option.bind_some]
      rw [ck_in (by simp; omega)]
      try simp only [Option.bind_some]
      rw [wr_succ hi2 (by omega), wr (n := k + 3 * (i : Int) + 1) (by omega) (by omega), wr (n := k + 3 * (i : Int) + 1 + 1) (by omega) (by omega), wr (n := k + 3 * (i : Int) + 1 + 1 + 1) (by omega) (by omega)]
      have e1 : k + 3 * (i : Int) + 1 + 1 + 1 = k + 3 * ((i + 1 : Nat) : Int) := by omega
      rw [e1]
      exact ih (i + 1) _ (by simp [hL]) (by simp; omega)
  obtain ⟨L', g⟩ := key l.length 0 l rfl (by omega)
  have g : laws_markStirS_l0 k 0 l = some (k + 3 * (l.length : Int), L') := by
    have e : k + 3 * ((0 : Nat) : Int) = k := by omega
    rw [e] at g; exact g
  refine ⟨k + 3 * (l.length : Int), L', ?_, by omega⟩
  unfold laws_markStirS laws_markStirSK
  rw [g]; rfl
theorem stir_head (l : List DStir) (w : l.length ≤ 9223372036854775807) (n : Int) (h0 : 0 ≤ n) (h1 : n ≤ 1048576) {A : Int → Option Bool} (hs : l.length ≤ 1048576 → A (n - (l.length : Int)) = some true) :
    ((laws_szStirS l n).bind fun y1 => cond (decide (y1 < 0)) (some true) (A y1)) = some true := by
  unfold laws_szStirS laws_szStirSK
  rw [wr (by omega) (by omega)]
  by_cases c : n - (l.length : Int) < 0
  · simp [c]
  · simp only [c, decide_false, cond_false, Option.bind_some]
    exact hs (by omega)

/-- What TakeTonnes answers for a pile. -/
def takeR (p : DPile) (x : Int) : (Bool × Int × List DLot) × DLot × Bool :=
  if 1 ≤ x ∧ x ≤ tS p.2.2.1 ∧ lotB (x, (takeF x p.2.2.1).2.2, ()) = true then ((p.1, p.2.1, (takeF x p.2.2.1).1), (x, (takeF x p.2.2.1).2.2, ()), true) else ((false, (0, [])), ((0, (0, ())), false))
theorem takeR_good {p : DPile} {x : Int} (hp : pileB p = true) (h : (takeR p x).2.2 = true) : pileB ((takeR p x).1.1, (takeR p x).1.2.1, (takeR p x).1.2.2, ()) = true := by
  obtain ⟨p1, p2, p3, p4, p5, p6⟩ := pileB_spec hp
  unfold takeR at h ⊢
  split at h
  · rename_i c
    rw [if_pos c]
    obtain ⟨t1, t2, t3, t4, t5, t6⟩ := takeF_spec p.2.2.1 x p1 (by omega) (by omega)
    simp only [pileB, Bool.and_eq_true, decide_eq_true_eq]
    refine ⟨t1, p2, p3, by omega, fun hm => ?_, by omega⟩
    have := p5 hm
    omega
  · simp at h
theorem takeR_ok (p : DPile) (x : Int) (hp : pileB p = true) : (1 ≤ x → impl_takeTonnes p x = some (takeR p x)) ∧ spec_spTake p x = some (takeR p x) := by
  obtain ⟨p1, p2, p3, p4, p5, p6⟩ := pileB_spec hp
  unfold impl_takeTonnes impl_takeTonnesK spec_spTake spec_spTakeK takeR
  rw [spSums_ok _ p1 (by omega), lotSum_ok _ p1 (by omega)]
  by_cases c1 : x < 1
  · have c1' : ¬ 1 ≤ x := by omega
    exact ⟨fun h => absurd h c1', by simp [c1, c1']⟩
  have c1' : 1 ≤ x := by omega
  by_cases c2 : tS p.2.2.1 < x
  · have c2' : ¬ x ≤ tS p.2.2.1 := by omega
    exact ⟨fun h => by simp [c2, c2'], by simp [c1, c2, c2']⟩
  have c2' : x ≤ tS p.2.2.1 := by omega
  have c3 : ¬ x > tS p.2.2.1 := c2
  have g1 := take_loop p.2.2.1 p1 p4 0 (Nat.zero_le _) x [] 0 0 (by omega) (by omega) (by simp) (by omega) (by omega) (by omega) (by omega)
  have g1 : impl_takeTonnes_l0 p.2.2.1 (p.2.2.1.length : Int) x 0 [] 0 0 = some ((takeF x p.2.2.1).1, 0 + (takeF x p.2.2.1).2.1, 0 + (takeF x p.2.2.1).2.2) := g1
  obtain ⟨o', n', b', g2, g3⟩ := spTake_loop x (by omega) p.2.2.1 p1 (by omega) 0 p.2.2.1.length 0 0 p.2.2.1 (by simp) rfl (by omega) (by omega) (by omega) (by omega) (by omega)
  have e0 : x - 0 = x := by omega
  rw [e0] at g2 g3
  obtain ⟨t1, t2, t3, t4, t5, t6⟩ := takeF_spec p.2.2.1 x p1 (by omega) (by omega)
  rw [t3] at g1
  generalize takeF x p.2.2.1 = T at *
  have hcap : ([] : List DLot).length + p.2.2.1.length ≤ 1099511627776 := by simp; omega
  have hcap2 : ([] : List DLot).length + T.1.length ≤ 1099511627776 := by simp; omega
  have good : pileB (p.1, p.2.1, T.1, ()) = true := by
    simp only [pileB, Bool.and_eq_true, decide_eq_true_eq]
    refine ⟨t1, p2, p3, by omega, fun hm => ?_, by omega⟩
    have := p5 hm
    omega
  simp only [Option.bind_some, c1, c1', c2', c2, c3, decide_false, cond_false, hcap, decide_true, cond_true, g1, List.nil_append, g2, g3, Int.zero_add, true_and]
  unfold spec_spWith spec_spWithK
  simp only [hcap2, decide_true, cond_true, isLot_ok, spLot_ok, Option.bind_some, List.nil_append]
  have sg := spGood_ok (p.1, p.2.1, T.1, ()) (by show T.1.length ≤ _; omega)
  rw [sg, good]
  cases lotB (x, T.2.2, ()) with
  | false => exact ⟨fun _ => rfl, rfl⟩
  | true => exact ⟨fun _ => rfl, rfl⟩
def outLen : ((Int × Bool × Bool × Int × (List DLot) × (List DLot)) ⊕ (Bool × Int × (List DLot) × (List DLot))) → Prop
  | .inl x => x.2.2.2.2.1.length ≤ 40 ∧ x.2.2.2.2.2.length ≤ 60
  | .inr x => x.2.2.1.length ≤ 40 ∧ x.2.2.2.length ≤ 60
theorem run_loop (L : List DStir) (hn : L.length ≤ 60) : ∀ i, i ≤ L.length → ∀ (b : Bool) (c : Int) (l acc : List DLot), pileB (b, c, l, ()) = true → acc.length ≤ i →
    ∃ v, impl_RunPile_l0 L (L.length : Int) (i : Int) b c l acc = some v ∧ spec_RunPile_l0 L (L.length : Int) (i : Int) b c l acc = some v ∧ outLen v := by
  refine down (fun b c l acc hp ha => ?_) fun i hi ih b c l acc hp ha => ?_
  · have p4 := (pileB_spec hp).2.2.2.1
    rw [impl_RunPile_l0_eq, spec_RunPile_l0_eq]; unfold impl_RunPile_l0K spec_RunPile_l0K
    rw [lt_out (Nat.le_refl _), lt_out (Nat.le_refl _)]
    exact ⟨_, rfl, rfl, p4, by show acc.length ≤ _; omega⟩
  · have p4 : l.length ≤ 40 := (pileB_spec hp).2.2.2.1
    have stop : outLen (.inl ((i : Int), (true, (b, (c, (l, acc)))))) := ⟨p4, by show acc.length ≤ _; omega⟩
    rw [impl_RunPile_l0_eq, spec_RunPile_l0_eq]; unfold impl_RunPile_l0K spec_RunPile_l0K
    rw [loop_step hi, loop_step hi, wr_succ hi (by omega)]
    generalize L[i] = e
    obtain ⟨put, t, m, ⟨⟩⟩ := e
    unfold spec_spStir spec_spStirK
    cases put with
    | true =>
      simp only [cond_true, Bool.not_true, cond_false, isLot_ok, spLot_ok, Option.bind_some]
      cases hx : lotB (t, m, ()) with
      | false => exact ⟨_, rfl, rfl, stop⟩
      | true =>
        rw [putLot_ok b c l (t, m, ()) hp hx, spPut_ok b c l (t, m, ()) hp hx]
        simp only [cond_true, Bool.not_true, cond_false, Option.bind_some]
        cases hr : (putR (b, c, l, ()) (t, m, ())).2 with
        | false => exact ⟨_, rfl, rfl, stop⟩
        | true =>
          simp only [Bool.not_true, cond_false]
          exact ih _ _ _ _ (putR_good hr) (by omega)
    | false =>
      obtain ⟨r1, r2⟩ := takeR_ok (b, c, l, ()) t hp
      simp only [Bool.not_false, cond_true, cond_false, r2, Option.bind_some]
      by_cases ct : t ≥ 1
      · by_cases cm : m = 0
        · subst cm
          rw [r1 ct]
          simp only [ct, decide_true, cond_true, beq_self_eq_true, Option.bind_some, bne_self_eq_false, cond_false]
          cases hr : (takeR (b, c, l, ()) t).2.2 with
          | false => exact ⟨_, rfl, rfl, stop⟩
          | true =>
            have hl : acc.length + [(takeR (b, c, l, ()) t).2.1].length ≤ 1099511627776 := by simp; omega
            simp only [Bool.not_true, cond_false, hl, decide_true, cond_true]
            exact ih _ _ _ _ (takeR_good hp hr) (by simp; omega)
        · have cm' : (m == 0) = false := by simp [cm]
          have cm2 : (m != 0) = true := by simp [cm]
          simp only [ct, decide_true, cond_true, cm', cond_false, cm2]
          cases hr : (takeR (b, c, l, ()) t).2.2 with
          | false => exact ⟨_, rfl, rfl, stop⟩
          | true => exact ⟨_, rfl, rfl, stop⟩
      · have hr : (takeR (b, c, l, ()) t).2.2 = false := by
          unfold takeR
          rw [if_neg (fun h => ct h.1)]
        simp only [ct, decide_false, cond_false, hr, Bool.not_false, cond_true]
        exact ⟨_, rfl, rfl, stop⟩
theorem RunPile_law (x0 : DPile) (x1 : List DStir) (w0 : TPile.wf x0) (w1 : (Ty.slice TStir).wf x1) : laws_FnExactRunPile x0 x1 = some true := by
  unfold laws_FnExactRunPile laws_FnExactRunPileK
  have hw1 : x1.length ≤ 9223372036854775807 := w1.1
  refine pile_head x0 w0 fun hl => stir_head x1 hw1 _ (by omega) (by omega) fun hs => ?_
  have e : ((x0.1, x0.2.1, x0.2.2.1, ()) : DPile) = x0 := rfl
  obtain ⟨v, h1, h2, h3, h4⟩ : ∃ v, impl_RunPile x0 x1 = some v ∧ spec_RunPile x0 x1 = some v ∧ v.1.2.2.length ≤ 40 ∧ v.2.1.length ≤ 60 := by
    unfold impl_RunPile impl_RunPileK spec_RunPile spec_RunPileK
    rw [IsPile_ok, spGood_ok x0 (by omega)]
    cases hp : pileB x0 with
    | false => exact ⟨_, rfl, rfl, by simp, by simp⟩
    | true =>
      by_cases c : (x1.length : Int) > 60
      · exact ⟨_, by simp [c]; rfl, by simp [c], by simp, by simp⟩
      · have hcap : ([] : List DLot).length + x0.2.2.1.length ≤ 1099511627776 := by simp; omega
        obtain ⟨v, g1, g2, g3⟩ := run_loop x1 (by omega) 0 (Nat.zero_le _) x0.1 x0.2.1 x0.2.2.1 [] hp (by simp)
        have g1 : impl_RunPile_l0 x1 (x1.length : Int) 0 x0.1 x0.2.1 x0.2.2.1 [] = some v := g1
        have g2 : spec_RunPile_l0 x1 (x1.length : Int) 0 x0.1 x0.2.1 x0.2.2.1 [] = some v := g2
        have cp : impl_copyPile x0 = some (x0.1, x0.2.1, x0.2.2.1) := by
          unfold impl_copyPile impl_copyPileK
          simp only [hcap, decide_true, cond_true, List.nil_append]
        have cs : spec_spWith x0 x0.2.2.1 = some (x0.1, x0.2.1, x0.2.2.1) := by
          unfold spec_spWith spec_spWithK
          simp only [hcap, decide_true, cond_true, List.nil_append]
        simp only [Bool.not_true, cond_false, c, decide_false, cp, cs, Option.bind_some, g1, g2]
        cases v with
        | inl y => exact ⟨_, rfl, rfl, g3.1, g3.2⟩
        | inr y => exact ⟨_, rfl, rfl, g3.1, g3.2⟩
  obtain ⟨⟨b, c, l⟩, a, n, ok⟩ := v
  dsimp only at h3 h4
  obtain ⟨k', l', m1, m2, m3, m4, m5⟩ := markPile_ok x0.1 x0.2.1 x0.2.2.1 (by omega) 1 (by omega) (by omega)
  obtain ⟨k3, l3, o1, o2⟩ := markStirS_ok x1 (by omega) k' (by omega) (by omega)
  obtain ⟨k2, l2, n1, n2, n3, n4, n5⟩ := markPile_ok b c l (by omega) 1 (by omega) (by omega)
  obtain ⟨k4, l4, q1, q2, q3, q4, q5⟩ := markLotS_ok a (by omega) k2 (by omega) (by omega)
  have k0 : ¬ k3 < 0 := by omega
  have k20 : ¬ k2 < 0 := by omega
  have k40 : ¬ k4 < 0 := by omega
  have er := eqPile_refl (b, c, l, ()) (by show l.length ≤ _; omega)
  simp only [toPile_ok x0 (by omega), toStirS_ok x1 (by omega), eqStirS_refl x1 (by omega), eqLotS_refl a (by omega), Option.bind_some, e, h1, h2, er, eqPile_refl x0 (by omega), m1, n1, n3, o1, q1, q3, k0, k20, k40]
  simp
end
end Go.OAI
