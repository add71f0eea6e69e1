/- The law in plain words. -/
import Derived.Test.YtejiaikhdjanoaaGreatP5
import Derived.Test.YtejiaikhdjanoaaGreatP7
import Derived.Test.YtejiaikhdjanoaaGreatGTop
import Derived.Test.YtejiaikhdjanoaaGreatP2
import Derived.Test.YtejiaikhdjanoaaGreatP6
namespace Go.OAI
set_option linter.unusedVariables false
noncomputable section
variable {arcs : List (List Int)} {vals : List Int} {Q : Nat → Bool}
def vQ (vals : List Int) (Q : Nat → Bool) (n : Nat) : Int := sm n fun i => if Q i then vals.getD i 0 else 0
def posS (vals : List Int) (n : Nat) : Int := sm n fun i => if 0 < vals.getD i 0 then vals.getD i 0 else 0
def cntS (arcs : List (List Int)) (Q : Nat → Bool) (n : Nat) : Int := sm n fun i => cntA (fun i _ => Q i) i 0 ((arcs.getD i []).map Int.toNat)
theorem cap_split : ∀ n, sm n (rowc arcs vals Q) = posS vals n - vQ vals Q n + 1000000000 * cntS arcs Q n
  | 0 => rfl
  | n + 1 => by
    have ih := cap_split n
    unfold posS vQ cntS at ih ⊢
    simp only [sm]
    rw [ih]
    unfold rowc
    generalize cntA _ n 0 _ = c
    generalize vals.getD n 0 = v
    cases Q n with
    | true => by_cases h1 : 0 < v <;> by_cases h2 : v < 0 <;> simp [h1, h2] <;> omega
    | false => by_cases h1 : 0 < v <;> by_cases h2 : v < 0 <;> simp [h1, h2] <;> omega
theorem cntS_nn : ∀ n, 0 ≤ cntS arcs Q n
  | 0 => Int.le_refl _
  | n + 1 => by
    have ih := cntS_nn n
    unfold cntS at ih ⊢
    simp only [sm]
    have := cntA_nn (Q := fun i _ => Q i) (i := n) (t := 0) ((arcs.getD n []).map Int.toNat)
    omega
theorem cntS_zero : ∀ n, cntS arcs Q n = 0 → ∀ i, i < n → cntA (fun i _ => Q i) i 0 ((arcs.getD i []).map Int.toNat) = 0
  | 0, _, i, hi => absurd hi (by omega)
  | n + 1, h, i, hi => by
    have a := cntS_nn (arcs := arcs) (Q := Q) n
    have b := cntA_nn (Q := fun i _ => Q i) (i := n) (t := 0) ((arcs.getD n []).map Int.toNat)
    have h' : cntS arcs Q n + cntA (fun i _ => Q i) n 0 ((arcs.getD n []).map Int.toNat) = 0 := h
    by_cases e : i = n
    · subst e; omega
    · exact cntS_zero n (by omega) i (by omega)
theorem cntA_zero {i : Nat} : ∀ l : List Nat, cntA (fun i _ => Q i) i 0 l = 0 → Q i = true → ∀ k ∈ l, Q k = true
  | [], _, _, k, hk => by simp at hk
  | x :: l, h, hi, k, hk => by
    simp only [cntA] at h
    have a := cntA_nn (Q := fun i _ => Q i) (i := i) (t := 0) l
    cases hx : Q x with
    | false => rw [if_pos ⟨hi, hx⟩] at h; omega
    | true =>
      rw [if_neg (by simp [hx])] at h
      rcases List.mem_cons.1 hk with rfl | hk
      · exact hx
      · exact cntA_zero l (by omega) hi k hk
theorem cntA_closed {i : Nat} : ∀ l : List Nat, (Q i = true → ∀ k ∈ l, Q k = true) → cntA (fun i _ => Q i) i 0 l = 0
  | [], _ => rfl
  | x :: l, h => by
    simp only [cntA]
    rw [cntA_closed l fun hi k hk => h hi k (List.mem_cons_of_mem _ hk), if_neg fun ⟨a, b⟩ => by
      have := h a x (List.mem_cons_self ..)
      rw [this] at b; cases b]
    rfl
theorem cntS_closed (h : ClosedM arcs Q) : ∀ n, n ≤ arcs.length → cntS arcs Q n = 0
  | 0, _ => rfl
  | n + 1, hn => by
    have ih := cntS_closed h n (by omega)
    show cntS arcs Q n + cntA (fun i _ => Q i) n 0 ((arcs.getD n []).map Int.toNat) = 0
    rw [ih, cntA_closed _ fun hi k hk => by
      obtain ⟨x, hx, rfl⟩ := List.mem_map.1 hk
      exact h n (by omega) hi x hx]
    rfl
theorem closed_cntS (h : cntS arcs Q arcs.length = 0) : ClosedM arcs Q := fun i hi hq x hx =>
  cntA_zero _ (cntS_zero _ h i hi) hq x.toNat (List.mem_map_of_mem hx)
theorem posS_bound {n : Nat} (hv : ∀ i, i < n → -1000000 ≤ vals.getD i 0 ∧ vals.getD i 0 ≤ 1000000) : 0 ≤ posS vals n ∧ posS vals n ≤ 1000000 * (n : Int) ∧ vQ vals Q n ≤ posS vals n ∧ -(1000000 * (n : Int)) ≤ vQ vals Q n := by
  induction n with
  | zero => exact ⟨Int.le_refl _, Int.le_refl _, Int.le_refl _, Int.le_refl _⟩
  | succ n ih =>
    obtain ⟨a, b, c, d⟩ := ih fun i hi => hv i (by omega)
    have h := hv n (by omega)
    unfold posS vQ at *
    simp only [sm]
    have e : ((n + 1 : Nat) : Int) = (n : Int) + 1 := by omega
    rw [e]
    cases Q n <;> by_cases h1 : 0 < vals.getD n 0 <;> simp only [h1, if_true, if_false, Bool.false_eq_true] <;> omega
def cutT (n : Nat) (Q : Nat → Bool) (z : Int) : Bool := decide (z = 0) || (decide (1 ≤ z) && (decide (z.toNat ≤ n) && Q (z.toNat - 1)))
theorem cutT_get {n i : Nat} (hi : i < n) : cutT n Q ((i + 1 : Nat) : Int) = Q i := by
  unfold cutT
  have e1 : decide (((i + 1 : Nat) : Int) = 0) = false := decide_eq_false (by omega)
  have e2 : decide ((1 : Int) ≤ ((i + 1 : Nat) : Int)) = true := decide_eq_true (by omega)
  have e3 : ((i + 1 : Nat) : Int).toNat = i + 1 := by omega
  have e4 : decide (i + 1 ≤ n) = true := decide_eq_true (by omega)
  rw [e1, e2, e3, e4, Nat.add_sub_cancel]; simp
theorem cutT_end (n : Nat) : cutT n Q ((n + 1 : Nat) : Int) = false := by
  unfold cutT
  have e1 : decide (((n + 1 : Nat) : Int) = 0) = false := decide_eq_false (by omega)
  have e3 : ((n + 1 : Nat) : Int).toNat = n + 1 := by omega
  have e4 : decide (n + 1 ≤ n) = false := decide_eq_false (by omega)
  rw [e1, e3, e4]; simp
theorem cap_cutT (K : PitOk arcs vals) : capS (cutT arcs.length Q) (eds (PE arcs vals)) = posS vals arcs.length - vQ vals Q arcs.length + 1000000000 * cntS arcs Q arcs.length := by
  rw [cap_PE (by simp [cutT]) (cutT_end _), ← cap_split]
  refine sm_congr _ fun i hi => ?_
  unfold rowc
  rw [cntA_congr (Q := fun i _ => cutT arcs.length Q ((i + 1 : Nat) : Int)) (R := fun i _ => Q i) (cutT_get hi) _ fun k hk => by
    obtain ⟨x, hx, rfl⟩ := List.mem_map.1 hk
    have := K.ar i hi x hx
    exact cutT_get (by omega)]
  simp only [cutT_get hi]
theorem least_closed (K : PitOk arcs vals) (hv : ∀ i, i < arcs.length → -1000000 ≤ vals.getD i 0 ∧ vals.getD i 0 ≤ 1000000) {C : Int → Bool} (hC : Least ((arcs.length + 2 : Nat) : Int) (eds (PE arcs vals)) C) :
    ClosedM arcs (fun i => C ((i + 1 : Nat) : Int)) ∧ 0 ≤ vQ vals (fun i => C ((i + 1 : Nat) : Int)) arcs.length ∧ ∀ Q' : Nat → Bool, ClosedM arcs Q' → vQ vals Q' arcs.length ≤ vQ vals (fun i => C ((i + 1 : Nat) : Int)) arcs.length := by
  have e2 : ((arcs.length + 2 : Nat) : Int) - 1 = ((arcs.length + 1 : Nat) : Int) := by omega
  have s1 := hC.s1
  rw [e2] at s1
  have hcap := cap_PE (arcs := arcs) (vals := vals) hC.s0 s1
  rw [cap_split] at hcap
  have hle : ∀ Q' : Nat → Bool, capS C (eds (PE arcs vals)) ≤ posS vals arcs.length - vQ vals Q' arcs.length + 1000000000 * cntS arcs Q' arcs.length := fun Q' => by
    rw [← cap_cutT K]
    exact hC.le _ (by simp [cutT]) (by rw [e2]; exact cutT_end _)
  have hn := K.n
  have z1 : ∀ n, vQ vals (fun _ => false) n = 0 := by
    intro n
    induction n with
    | zero => rfl
    | succ n ih => unfold vQ at ih ⊢; simp only [sm]; rw [ih]; rfl
  have z2 : cntS arcs (fun _ => false) arcs.length = 0 := cntS_closed (fun i _ h => by cases h) _ (Nat.le_refl _)
  have h0 := hle fun _ => false
  rw [z1, z2, hcap] at h0
  obtain ⟨p1, p2, p3, p4⟩ := posS_bound (Q := fun i => C ((i + 1 : Nat) : Int)) hv
  have c0 := cntS_nn (arcs := arcs) (Q := fun i => C ((i + 1 : Nat) : Int)) arcs.length
  have hz : cntS arcs (fun i => C ((i + 1 : Nat) : Int)) arcs.length = 0 := by omega
  refine ⟨closed_cntS hz, by omega, fun Q' h' => ?_⟩
  have := hle Q'
  rw [cntS_closed h' _ (Nat.le_refl _), hcap, hz] at this
  omega
def lstQ (n : Nat) (Q : Nat → Bool) : List Int := (bl n Q).map fun i : Nat => (i : Int)
theorem lst_len (n : Nat) : (lstQ n Q).length ≤ n := by unfold lstQ; rw [List.length_map]; exact bl_len n Q
theorem lst_mem {n : Nat} {x : Int} (h : x ∈ lstQ n Q) : 0 ≤ x ∧ x < (n : Int) ∧ Q x.toNat = true := by
  obtain ⟨i, hi, rfl⟩ := List.mem_map.1 h
  obtain ⟨a, b⟩ := bl_mem.1 hi
  exact ⟨by omega, by omega, by simpa using b⟩
theorem lst_in {n : Nat} {x : Int} (h0 : 0 ≤ x) (h : x < (n : Int)) (hq : Q x.toNat = true) : x ∈ lstQ n Q := by
  have e : x = (x.toNat : Int) := by omega
  rw [e]
  exact List.mem_map_of_mem (bl_mem.2 ⟨by omega, hq⟩)
theorem lst_ris (n : Nat) : risB (lstQ n Q) (n : Int) = true := by
  refine risB_of (fun x hx => ⟨(lst_mem hx).1, (lst_mem hx).2.1⟩) ?_
  unfold lstQ bl
  rw [List.pairwise_map]
  refine List.Pairwise.filter _ (List.pairwise_lt_range.imp ?_)
  intro a b h; omega
theorem lst_sum (vals : List Int) : ∀ n, ((lstQ n Q).map fun x => vals.getD x.toNat 0).sum = vQ vals Q n
  | 0 => rfl
  | n + 1 => by
    have ih := lst_sum vals n
    unfold lstQ vQ at ih ⊢
    simp only [sm]
    rw [bl_succ, List.map_append, List.map_append, List.sum_append, ih]
    cases Q n <;> simp
theorem valueSum_list (vals L : List Int) (hv : inB (-1000000) 1000000 vals = true) (hr : ∀ x ∈ L, 0 ≤ x ∧ x < (vals.length : Int)) (hl : L.length ≤ 1000) : impl_valueSum vals L = some (L.map fun x => vals.getD x.toNat 0).sum := by
  have hx : ∀ x ∈ L, -1000000 ≤ vals.getD x.toNat 0 ∧ vals.getD x.toNat 0 ≤ 1000000 := fun x hx => by
    have := hr x hx
    have hi : x.toNat < vals.length := by omega
    rw [gd' hi]
    exact inB_iff.1 hv _ hi
  have key : ∀ i, i ≤ L.length → ∀ a : Int, -(1000000 * (i : Int)) ≤ a → a ≤ 1000000 * (i : Int) → impl_valueSum_l0 vals L (L.length : Int) a (i : Int) = some (a + ((L.drop i).map fun x => vals.getD x.toNat 0).sum) := by
    refine down (fun a _ _ => ?_) fun i hi ih a h1 h2 => ?_
    · rw [impl_valueSum_l0_eq]; unfold impl_valueSum_l0K
      rw [lt_out (Nat.le_refl _), List.drop_length]; simp
    · have hm := hx _ (List.getElem_mem hi)
      have hm2 := hr _ (List.getElem_mem hi)
      have hi2 : L[i].toNat < vals.length := by omega
      rw [impl_valueSum_l0_eq]; unfold impl_valueSum_l0K
      rw [loop_step hi, wr_succ hi (by omega), lat_int hm2.1 hi2, ← gd' hi2 (d := 0)]
      simp only [Option.bind_some]
      rw [wr (by omega) (by omega), ih _ (by omega) (by omega), drop_cons hi, List.map_cons, List.sum_cons]
      congr 1; omega
  unfold impl_valueSum impl_valueSumK
  have := key 0 (Nat.zero_le _) 0 (by omega) (by omega)
  rw [show ((0 : Nat) : Int) = 0 from rfl, List.drop_zero, Int.zero_add] at this
  rw [this]; rfl
theorem posS_loop (vals : List Int) (hv : inB (-1000000) 1000000 vals = true) (hl : vals.length ≤ 1000) : ∀ i, i ≤ vals.length →
    impl_CutOfPit_l0 vals (vals.length : Int) (posS vals i) (i : Int) = some (posS vals vals.length) ∧ laws_FnTop_l0 (vals.length : Int) vals (posS vals i) (i : Int) = some (posS vals vals.length) := by
  have hb : ∀ i, i < vals.length → -1000000 ≤ vals.getD i 0 ∧ vals.getD i 0 ≤ 1000000 := fun i hi => by rw [gd' hi]; exact inB_iff.1 hv i hi
  refine down ?_ fun i hi ih => ?_
  · rw [impl_CutOfPit_l0_eq, laws_FnTop_l0_eq]; unfold impl_CutOfPit_l0K laws_FnTop_l0K
    rw [lt_out (Nat.le_refl _), lt_out (Nat.le_refl _)]
    exact ⟨rfl, rfl⟩
  · obtain ⟨p1, p2, _⟩ := posS_bound (Q := fun _ => false) (n := i) fun k hk => hb k (by omega)
    have h := hb i hi
    rw [impl_CutOfPit_l0_eq, laws_FnTop_l0_eq]; unfold impl_CutOfPit_l0K laws_FnTop_l0K
    rw [loop_step hi, lt_in hi, ck_in hi, wr_succ hi (by omega), ← gd' hi (d := 0)]
    simp only [Int.toNat_natCast, Nat.zero_add]
    have hs : posS vals (i + 1) = posS vals i + (if 0 < vals.getD i 0 then vals.getD i 0 else 0) := rfl
    rw [hs] at ih
    obtain ⟨g1, g2⟩ := ih
    generalize vals.getD i 0 = v at *
    by_cases c : 0 < v
    · have c' : v > 0 := c
      simp only [c, c', if_true, decide_true, cond_true] at g1 g2 ⊢
      rw [wr (n := posS vals i + v) (by omega) (by omega)]
      exact ⟨g1, g2⟩
    · have c' : ¬ v > 0 := c
      simp only [c, c', if_false, decide_false, cond_false, Int.add_zero] at g1 g2 ⊢
      rw [wr (n := posS vals i) (by omega) (by omega)]
      exact ⟨g1, g2⟩
theorem markOf_ok (n : Nat) (L : List Int) (hn : n ≤ 1000) (hL : L.length ≤ 1000) (hr : ∀ x ∈ L, 0 ≤ x ∧ x < (n : Int)) : ∃ M, impl_markOf (n : Int) L = some M ∧ M.length = n ∧ ∀ x ∈ L, M.getD x.toNat false = true := by
  have key : ∀ i, i ≤ L.length → ∀ M : List Bool, M.length = n → (∀ x ∈ L.take i, M.getD x.toNat false = true) → ∃ M', impl_markOf_l0 L (L.length : Int) (i : Int) M = some M' ∧ M'.length = n ∧ ∀ x ∈ L, M'.getD x.toNat false = true := by
    refine down (fun M h1 h2 => ?_) fun i hi ih M h1 h2 => ?_
    · rw [impl_markOf_l0_eq]; unfold impl_markOf_l0K
      rw [lt_out (Nat.le_refl _)]
      rw [List.take_length] at h2
      exact ⟨M, rfl, h1, h2⟩
    · have hx := hr _ (List.getElem_mem hi)
      rw [impl_markOf_l0_eq]; unfold impl_markOf_l0K
      rw [loop_step hi, wr_succ hi (by omega), ck_int hx.1 (by omega)]
      simp only [Option.bind_some, Nat.zero_add]
      refine ih _ (by simpa using h1) fun x hx' => ?_
      rw [List.take_add_one, List.getElem?_eq_getElem hi] at hx'
      rw [List.getD_eq_getElem?_getD]
      by_cases e : L[i].toNat = x.toNat
      · rw [e, List.getElem?_set_self (by omega)]; rfl
      · rw [List.getElem?_set_ne e]
        rcases List.mem_append.1 hx' with h | h
        · have := h2 x h
          rwa [List.getD_eq_getElem?_getD] at this
        · have : x = L[i] := by simpa using h
          exact absurd (by rw [this]) e
  unfold impl_markOf impl_markOfK
  rw [cap_ok (by omega)]
  obtain ⟨M, m1, m2, m3⟩ := key 0 (Nat.zero_le _) (List.replicate n false) (by simp) (fun x hx => by simp at hx)
  rw [show ((0 : Nat) : Int) = 0 from rfl] at m1
  simp only [Option.bind_some, Int.toNat_natCast, m1]
  exact ⟨M, rfl, m2, m3⟩
theorem allIn_ok (M : List Bool) (r : List Int) (hl : r.length ≤ 1000) (h : ∀ x ∈ r, 0 ≤ x ∧ x < (M.length : Int) ∧ M.getD x.toNat false = true) : impl_allIn M r = some true := by
  have key : ∀ i, i ≤ r.length → impl_allIn_l0 M r (r.length : Int) (i : Int) = some (.inr ()) := by
    refine down ?_ fun i hi ih => ?_
    · rw [impl_allIn_l0_eq]; unfold impl_allIn_l0K
      rw [lt_out (Nat.le_refl _)]
    · obtain ⟨a, b, c⟩ := h _ (List.getElem_mem hi)
      have hi2 : r[i].toNat < M.length := by omega
      rw [impl_allIn_l0_eq]; unfold impl_allIn_l0K
      rw [loop_step hi, wr_succ hi (by omega), lat_int a hi2, ← gd' hi2 (d := false), c]
      exact ih
  have := key 0 (Nat.zero_le _)
  rw [show ((0 : Nat) : Int) = 0 from rfl] at this
  unfold impl_allIn impl_allInK
  rw [this]; rfl
theorem isClosure_ok (hn : arcs.length ≤ 120) (hr : ∀ i, i < arcs.length → (∀ x ∈ arcs.getD i [], 0 ≤ x ∧ x < (arcs.length : Int)) ∧ (arcs.getD i []).length ≤ 120) (hQ : ClosedM arcs Q) : impl_isClosure arcs (lstQ arcs.length Q) = some true := by
  have hl := lst_len (Q := Q) arcs.length
  obtain ⟨M, m1, m2, m3⟩ := markOf_ok arcs.length (lstQ arcs.length Q) (by omega) (by omega) fun x hx => ⟨(lst_mem hx).1, (lst_mem hx).2.1⟩
  have hm : ∀ x ∈ lstQ arcs.length Q, 0 ≤ x ∧ x < (arcs.length : Int) ∧ Q x.toNat = true := fun x hx => lst_mem hx
  have hin : ∀ x : Int, 0 ≤ x → x < (arcs.length : Int) → Q x.toNat = true → x ∈ lstQ arcs.length Q := fun x h0 h1 h2 => lst_in h0 h1 h2
  generalize lstQ arcs.length Q = L at *
  have key : ∀ i, i ≤ L.length → impl_isClosure_l0 arcs L (L.length : Int) M (i : Int) = some (.inr ()) := by
    refine down ?_ fun i hi ih => ?_
    · rw [impl_isClosure_l0_eq]; unfold impl_isClosure_l0K
      rw [lt_out (Nat.le_refl _)]
    · obtain ⟨a, b, c⟩ := hm _ (List.getElem_mem hi)
      have hi2 : L[i].toNat < arcs.length := by omega
      obtain ⟨h1, h2⟩ := hr _ hi2
      rw [impl_isClosure_l0_eq]; unfold impl_isClosure_l0K
      rw [loop_step hi, wr_succ hi (by omega), lat_int a hi2, ← gd' hi2 (d := [])]
      simp only [Option.bind_some]
      rw [allIn_ok M _ (by omega) fun x hx => by
        obtain ⟨p, q⟩ := h1 x hx
        refine ⟨p, by omega, m3 x (hin x p q (hQ _ hi2 c x hx))⟩]
      exact ih
  have := key 0 (Nat.zero_le _)
  rw [show ((0 : Nat) : Int) = 0 from rfl] at this
  unfold impl_isClosure impl_isClosureK
  rw [m1, Option.bind_some, this]; rfl
end
noncomputable section
structure PitBest (A : List (List Int)) (V : List Int) (Q : Nat → Bool) : Prop where
  cl : ClosedM A Q
  nn : 0 ≤ vQ V Q A.length
  best : ∀ Q', ClosedM A Q' → vQ V Q' A.length ≤ vQ V Q A.length
  b1 : impl_BestPit A V = some (lstQ A.length Q, true)
  b2 : spec_BestPit A V = some (lstQ A.length Q, true)
  c : impl_IsClosure A (lstQ A.length Q) = some (true, true)
  cut : impl_CutOfPit A V (lstQ A.length Q) = some (posS V A.length - vQ V Q A.length, true)
  val : impl_ValueOf V (lstQ A.length Q) = some (vQ V Q A.length, true)
theorem pit_best {j : DJob} (hj : jobB j = true) : ∃ Q, PitBest j.1 j.2.2.1 Q := by
  have J := jobB_spec hj
  have s := jobB_sm hj
  have K := pit_of J
  have hn := J.n2
  have hlv := J.lv
  have hj' := hj
  simp only [jobB, Bool.and_eq_true] at hj'
  have ha : arcsB j.1 = true := hj'.1
  have hv : inB (-1000000) 1000000 j.2.2.1 = true := hj'.2.2.2.2.1
  have hb : ∀ i, i < j.1.length → -1000000 ≤ j.2.2.1.getD i 0 ∧ j.2.2.1.getD i 0 ≤ 1000000 := fun i hi => by rw [gd' (by omega)]; exact inB_iff.1 hv i (by omega)
  obtain ⟨C, hC, f1⟩ := find_s K
  obtain ⟨D, hD, f2⟩ := pit12_ok K
  have e : (List.range j.1.length).map (fun i => D ((i + 1 : Nat) : Int)) = (List.range j.1.length).map fun i => C ((i + 1 : Nat) : Int) :=
    List.map_congr_left fun i hi => by
      have hi : i < j.1.length := List.mem_range.1 hi
      exact hD.unique hC _ (by omega) (by omega)
  rw [e] at f2
  have f3 := listOf_ok (n := j.1.length) (by omega) fun i => C ((i + 1 : Nat) : Int)
  obtain ⟨g1, g2, g3⟩ := least_closed K hb hC
  have f1 : spec_paFind j.1 j.2.2.1 = some (lstQ j.1.length fun i => C ((i + 1 : Nat) : Int)) := f1
  have f3 : impl_listOf ((List.range j.1.length).map fun i => C ((i + 1 : Nat) : Int)) = some (lstQ j.1.length fun i => C ((i + 1 : Nat) : Int)) := f3
  refine ⟨fun i => C ((i + 1 : Nat) : Int), ?_⟩
  generalize (fun i : Nat => C ((i + 1 : Nat) : Int)) = Q at *
  have hll := lst_len (Q := Q) j.1.length
  have av := areValued_ok j s hj
  have aa := AreArcs_ok j.1 (by omega) fun r hr => by have := s.r r hr; omega
  have ab := areBlocks_ok (lstQ j.1.length Q) (j.1.length : Int) (by omega)
  rw [lst_ris] at ab
  rw [ha] at aa
  have ic := isClosure_ok (arcs := j.1) (Q := Q) hn (fun i hi => by
    obtain ⟨p, q⟩ := arcsJ_ok J hi
    exact ⟨fun x hx => by have := p x hx; omega, q⟩) g1
  have vs := valueSum_list j.2.2.1 (lstQ j.1.length Q) hv (fun x hx => by have := lst_mem hx; omega) (by omega)
  rw [lst_sum] at vs
  obtain ⟨p1, p2, p3, p4⟩ := posS_bound (vals := j.2.2.1) (Q := Q) (n := j.1.length) hb
  refine ⟨g1, g2, g3, ?_, ?_, ?_, ?_, ?_⟩
  · unfold impl_BestPit impl_BestPitK
    rw [av]
    simp only [Option.bind_some, Bool.not_true, cond_false, f2, f3]
  · unfold spec_BestPit spec_BestPitK spec_paGood spec_paGoodK spec_vaGood spec_vaGoodK
    have c1 : ((j.2.2.1.length : Int) == (j.1.length : Int)) = true := by rw [hlv]; simp
    have c2 : decide (1 ≤ (j.1.length : Int)) = true := decide_eq_true (by have := J.n1; omega)
    have c3 : decide ((j.1.length : Int) ≤ 120) = true := decide_eq_true (by omega)
    rw [clArcs_ok j.1 (by omega) fun r hr => by have := s.r r hr; omega, ha, l1All_ok _ _ _ (by omega), hv, l1In_ok, c1, c2, c3, f1]
    rfl
  · unfold impl_IsClosure impl_IsClosureK
    rw [aa]
    simp only [Option.bind_some, Bool.not_true, cond_false, ab, ic]
  · unfold impl_CutOfPit impl_CutOfPitK impl_arePits impl_arePitsK
    have l1 : impl_arePits_l0 j.1 [lstQ j.1.length Q] 1 1 = some (.inr ()) := by
      rw [impl_arePits_l0_eq]; rfl
    have l0 : impl_arePits_l0 j.1 [lstQ j.1.length Q] 1 0 = some (.inr ()) := by
      rw [impl_arePits_l0_eq]; unfold impl_arePits_l0K
      have z0 : lat [lstQ j.1.length Q] 0 = some (lstQ j.1.length Q) := rfl
      rw [z0, Option.bind_some, ab]
      simp only [Option.bind_some, Bool.not_true, cond_false, ic]
      exact l1
    have pl := (posS_loop j.2.2.1 hv (by omega) 0 (Nat.zero_le _)).1
    have pl : impl_CutOfPit_l0 j.2.2.1 (j.2.2.1.length : Int) 0 0 = some (posS j.2.2.1 j.2.2.1.length) := pl
    rw [av, aa]
    simp only [Option.bind_some, Bool.not_true, cond_false]
    show ((impl_arePits_l0 j.1 [lstQ j.1.length Q] 1 0).bind _).bind _ = _
    rw [l0]
    show ((impl_CutOfPit_l0 j.2.2.1 (j.2.2.1.length : Int) 0 0).bind _) = _
    rw [pl, vs]
    simp only [Option.bind_some]
    rw [hlv, wr (by omega) (by omega)]
  · unfold impl_ValueOf impl_ValueOfK
    have gv := goodValues_ok j.2.2.1 (by omega)
    have c2 : decide (1 ≤ (j.2.2.1.length : Int)) = true := decide_eq_true (by have := J.n1; omega)
    have c3 : decide ((j.2.2.1.length : Int) ≤ 120) = true := decide_eq_true (by omega)
    rw [c2, c3, hv] at gv
    rw [gv]
    simp only [Option.bind_some, Bool.and_self, Bool.not_true, cond_false]
    rw [hlv, ab]
    simp only [Option.bind_some, Bool.not_true, cond_false, vs]
end
noncomputable section
structure TwoJ (j : DJob) : Prop where
  p : j.2.2.2.2.1 = 2
  n : j.2.2.2.2.2.1 = 9
  d : j.2.2.2.2.2.2.1 = 10
def q0 (w : List Int) (i : Nat) : Bool := decide (w.getD i (-1) = 0)
def q1 (w : List Int) (i : Nat) : Bool := decide (0 ≤ w.getD i (-1))
theorem fac_two {j : DJob} (T : TwoJ j) {t : Int} (h : -1 ≤ t ∧ t < 2) : fac j t = if t = 0 then 10 else if t = 1 then 9 else 0 := by
  unfold fac
  rw [T.p, T.n, T.d]
  have : t = -1 ∨ t = 0 ∨ t = 1 := by omega
  rcases this with rfl | rfl | rfl <;> rfl
theorem worth_two {j : DJob} (T : TwoJ j) (w : List Int) (hl : w.length = j.1.length) (hv : j.2.2.1.length = j.1.length) (hw : ∀ x ∈ w, -1 ≤ x ∧ x < 2) :
    ∀ k, k ≤ w.length → worth j (w.take k) j.2.2.1 = vQ j.2.2.1 (q0 w) k + 9 * vQ j.2.2.1 (q1 w) k
  | 0, _ => rfl
  | k + 1, hk => by
    have ih := worth_two T w hl hv hw k (by omega)
    have hkw : k < w.length := hk
    have hkv : (w.take k).length < j.2.2.1.length := by rw [List.length_take]; omega
    have hx := hw _ (List.getElem_mem hkw)
    rw [take_snoc hkw, worth_snoc _ _ _ hkv, ih, fac_two T hx]
    have e : (w.take k).length = k := by rw [List.length_take]; omega
    have ev : j.2.2.1[(w.take k).length]'hkv = j.2.2.1.getD k 0 := by rw [gd' (by omega)]; congr 1
    rw [ev]
    unfold vQ
    simp only [sm]
    have eq0 : q0 w k = decide (w[k] = 0) := by unfold q0; rw [gd' hkw]
    have eq1 : q1 w k = decide (0 ≤ w[k]) := by unfold q1; rw [gd' hkw]
    rw [eq0, eq1]
    generalize j.2.2.1.getD k 0 = v
    generalize w[k] = t at hx
    have : t = -1 ∨ t = 0 ∨ t = 1 := by omega
    rcases this with rfl | rfl | rfl <;> simp <;> omega
theorem closed_two {j : DJob} (J : JobOk j) (w : List Int) (hl : w.length = j.1.length) (ho : ordB j w = true) : ClosedM j.1 (q0 w) ∧ ClosedM j.1 (q1 w) := by
  have key : ∀ i (hi : i < j.1.length), ∀ x ∈ j.1.getD i [], w.getD i (-1) < 0 ∨ (0 ≤ w.getD x.toNat (-1) ∧ w.getD x.toNat (-1) ≤ w.getD i (-1)) := fun i hi x hx => by
    have h := allI_iff.1 ho i hi
    rw [gd' hi] at hx
    have h2 := List.all_eq_true.1 h x hx
    have hx3 := (J.arc i hi).1 x hx
    have hx4 : x.toNat < w.length := by omega
    unfold arcB at h2
    rw [gd' (show i < w.length by omega), gd' hx4] at h2
    rw [gd' (show i < w.length by omega), gd' hx4]
    simpa using h2
  constructor
  · intro i hi hq x hx
    have h := key i hi x hx
    unfold q0 at hq ⊢
    have hq := of_decide_eq_true hq
    refine decide_eq_true ?_
    omega
  · intro i hi hq x hx
    have h := key i hi x hx
    unfold q1 at hq ⊢
    have hq := of_decide_eq_true hq
    refine decide_eq_true ?_
    omega
theorem worth_le {j : DJob} (T : TwoJ j) (J : JobOk j) {Q : Nat → Bool} (P : PitBest j.1 j.2.2.1 Q) {w : List Int} (hl : w.length = j.1.length) (hw : ∀ x ∈ w, -1 ≤ x ∧ x < 2) (ho : ordB j w = true) :
    worth j w j.2.2.1 ≤ 10 * vQ j.2.2.1 Q j.1.length := by
  have h := worth_two T w hl J.lv hw w.length (Nat.le_refl _)
  rw [List.take_length, hl] at h
  obtain ⟨c0, c1⟩ := closed_two J w hl ho
  have a := P.best _ c0
  have b := P.best _ c1
  omega
def tQ (x : List Int) (w : List Int) : Nat → Int
  | 0 => 0
  | k + 1 => tQ x w k + (if w.getD k (-1) < 0 then 0 else x.getD k 0)
def tL : List Int → List Int → Int
  | t :: w, x :: r => (if t < 0 then 0 else x) + tL w r
  | _, _ => 0
theorem ton_two : ∀ (w x v : List Int), w.length = x.length → x.length = v.length → (∀ t ∈ w, -1 ≤ t ∧ t < 2) → (ton (zip3 w x v) 0).1 + (ton (zip3 w x v) 1).1 = tL w x
  | [], x, v, _, _, _ => by simp [zip3, ton, tL]
  | t :: w, [], v, h, _, _ => by simp at h
  | t :: w, x :: r, [], _, h, _ => by simp at h
  | t :: w, x :: r, v :: s, h1, h2, hw => by
    have ih := ton_two w r s (by simpa using h1) (by simpa using h2) fun y hy => hw y (List.mem_cons_of_mem _ hy)
    have ht := hw t (List.mem_cons_self ..)
    show (if t = 0 then (x + (ton (zip3 w r s) 0).1, (if v > 0 then x else 0) + (ton (zip3 w r s) 0).2) else ton (zip3 w r s) 0).1 + (if t = 1 then (x + (ton (zip3 w r s) 1).1, (if v > 0 then x else 0) + (ton (zip3 w r s) 1).2) else ton (zip3 w r s) 1).1 = (if t < 0 then 0 else x) + tL w r
    rw [← ih]
    have : t = -1 ∨ t = 0 ∨ t = 1 := by omega
    rcases this with rfl | rfl | rfl <;> simp <;> omega
theorem tL_snoc : ∀ (w x : List Int) (t y : Int), w.length = x.length → tL (w ++ [t]) (x ++ [y]) = tL w x + (if t < 0 then 0 else y)
  | [], [], t, y, _ => by simp [tL]
  | [], x :: r, t, y, h => by simp at h
  | a :: w, [], t, y, h => by simp at h
  | a :: w, x :: r, t, y, h => by
    have := tL_snoc w r t y (by simpa using h)
    simp only [List.cons_append, tL, this]; omega
theorem tQ_tL (w x : List Int) (h : w.length = x.length) : ∀ k, k ≤ w.length → tQ x w k = tL (w.take k) (x.take k)
  | 0, _ => by simp [tQ, tL]
  | k + 1, hk => by
    have hkw : k < w.length := hk
    have hkx : k < x.length := by omega
    have ih := tQ_tL w x h k (by omega)
    rw [take_snoc hkw, take_snoc hkx, tL_snoc _ _ _ _ (by rw [List.length_take, List.length_take]; omega), ← ih]
    simp only [tQ]
    rw [gd' hkw, gd' hkx]
theorem pileB_of {l : List DLot} (h : l.all lotB = true) (hl : l.length ≤ 40) (ht : tS l ≤ 10000000) : pileB (false, 10000000, l, ()) = true := by
  have : (l.length : Int) ≤ 40 := by omega
  simp [pileB, h, ht, this]
theorem put_false {l : List DLot} {x : DLot} (h : l.all lotB = true) (hx : lotB x = true) (hl : l.length + 1 ≤ 40) (ht : tS l + x.1 ≤ 10000000) : impl_PutLot (false, 10000000, l, ()) x = some ((false, 10000000, l ++ [x]), true) := by
  have b := lotB_spec hx
  have p1 := pileB_of h (by omega) (by omega)
  have p2 := pileB_of (l := l ++ [x]) (by simp only [List.all_append, h, List.all_cons, List.all_nil, hx, Bool.and_self]) (by simp; omega) (by rw [tS_append]; omega)
  rw [impl_PutLot_ok, p1, hx]
  have e : putP (false, 10000000, l, ()) x = (false, 10000000, l ++ [x], ()) := by unfold putP; cases l <;> rfl
  simp only [Bool.and_self, if_true, putR, e, p2]
theorem pile_loop (x g w : List Int) (hx : x.length = w.length) (hg : g.length = w.length) (hn : w.length ≤ 12) (bx : inB 0 10000 x = true) (bg : inB 0 1000 g = true) : ∀ i, i ≤ w.length → ∀ (m : Int) (l : List DLot),
    0 ≤ tQ x w i → tQ x w i ≤ 10000 * (i : Int) → 0 ≤ m → m ≤ 10000000 * (i : Int) → l.all lotB = true → l.length ≤ i → tS l = tQ x w i → mS l = m →
    ∃ m' l', laws_FnTop_l1 (w.length : Int) x g w (tQ x w i) m (i : Int) false 10000000 l = some (.inr (tQ x w w.length, (m', (false, (10000000, l'))))) ∧ pileB (false, 10000000, l', ()) = true ∧ tS l' = tQ x w w.length ∧ mS l' = m' := by
  refine down (fun m l h1 h2 h3 h4 h5 h6 h7 h8 => ?_) fun i hi ih m l h1 h2 h3 h4 h5 h6 h7 h8 => ?_
  · rw [laws_FnTop_l1_eq]; unfold laws_FnTop_l1K
    rw [lt_out (Nat.le_refl _)]
    exact ⟨m, l, rfl, pileB_of h5 (by omega) (by omega), h7, h8⟩
  · rw [laws_FnTop_l1_eq]; unfold laws_FnTop_l1K
    have hix : i < x.length := by omega
    have hig : i < g.length := by omega
    have b1 := inB_iff.1 bx i hix
    have b2 := inB_iff.1 bg i hig
    rw [lt_in hi]
    simp only [ck_in hi, ck_in hix, ck_in hig, wr_succ hi (by omega), Int.toNat_natCast, Nat.zero_add]
    rw [gd' hi, gd' hix, gd' hig]
    have hs : tQ x w (i + 1) = tQ x w i + (if w[i] < 0 then 0 else x[i]) := by simp only [tQ]; rw [gd' hi, gd' hix]
    generalize x[i] = a at b1 hs
    generalize g[i] = c at b2
    by_cases hw : w[i] < 0
    · rw [if_pos hw, Int.add_zero] at hs
      simp only [hw, decide_true, cond_true]
      rw [← hs]
      exact ih m l (by omega) (by omega) h3 (by omega) h5 (by omega) (by omega) h8
    · rw [if_neg hw] at hs
      have q1 := mul_le (a := a) (b := c) (x := 10000) (y := 1000) (by omega) (by omega) (by omega) (by omega)
      have q2 : a * c ≤ a * 1000 := Int.mul_le_mul_of_nonneg_left (by omega) (by omega)
      have q0 : 0 ≤ a * c := Int.mul_nonneg (by omega) (by omega)
      have z : a = 0 → a * c = 0 := fun e => by rw [e, Int.zero_mul]
      generalize a * c = d at q0 q1 q2 z
      simp only [hw, decide_false, cond_false]
      rw [wr (n := d) (by omega) (by omega)]
      simp only [Option.bind_some]
      rw [wr (n := tQ x w i + a) (by omega) (by omega), wr (n := m + d) (by omega) (by omega), ← hs]
      by_cases ha : a = 0
      · have c0 : (a == 0) = true := by simp [ha]
        simp only [c0, cond_true]
        have := z ha
        exact ih (m + d) l (by omega) (by omega) (by omega) (by omega) h5 (by omega) (by omega) (by omega)
      · have c0 : (a == 0) = false := by simp [ha]
        have hlot : lotB (a, d, ()) = true := by
          have : 1 ≤ a ∧ a ≤ 1000000 ∧ 0 ≤ d ∧ d ≤ 1000 * a := by omega
          simpa [lotB] using this
        simp only [c0, cond_false]
        rw [put_false h5 hlot (by omega) (by show tS l + a ≤ _; omega)]
        simp only [Option.bind_some, Bool.not_true, cond_false]
        exact ih (m + d) (l ++ [(a, d, ())]) (by omega) (by omega) (by omega) (by omega) (by simp only [List.all_append, h5, List.all_cons, List.all_nil, hlot, Bool.and_self]) (by simp; omega) (by rw [tS_append]; show tS l + a = _; omega) (by rw [mS_append]; show mS l + d = _; omega)
theorem SearchPlan_good {j : DJob} (g0 : searchB j = true) : impl_SearchPlan j 3000 = some (planOut j 3000) ∧ spec_SearchPlan j 3000 = some (planOut j 3000) := by
  obtain ⟨S, hjb⟩ := searchB_spec g0
  have s := jobB_sm hjb
  have hb := done_best S.per.1 (j := j) 3000
  have hbl : (done j 3000).best.length ≤ 1099511627776 := by have := hb.len; have := S.n12; omega
  obtain ⟨A, g1, g2⟩ := proSearch_ok s S (most := 3000) (by omega) (by omega)
  unfold impl_SearchPlan impl_SearchPlanK spec_SearchPlan spec_SearchPlanK
  rw [IsSearchable_okW j s.wf, srGood_okW j s.wf, g0, l1In_ok]
  constructor
  · simp only [Bool.not_true, cond_false, Option.bind_some, g1]
    show ((impl_planSearch_visit _ _ _).bind _) = _
    rw [g2]; rfl
  · simp only [Bool.not_true, cond_false, Option.bind_some, refSearch_ok s S (most := 3000) (by omega) (by omega)]
    simp only [spS]
    rw [l1Own_ok _ hbl, l1Most_ok]; rfl
theorem search_all {j : DJob} (T : TwoJ j) (hj : jobB j = true) (hn : j.1.length ≤ 12) {Q : Nat → Bool} (P : PitBest j.1 j.2.2.1 Q) (g : List Int) (hg : g.length = j.1.length) (bg : inB 0 1000 g = true) :
    ∃ (w : List Int) (val bound t m : Int) (lots : List DLot) (a b c d : Int), impl_SearchPlan j 3000 = some ((2, w), val, bound, true) ∧ spec_SearchPlan j 3000 = some ((2, w), val, bound, true) ∧
      impl_OrderFaults j (2, w, ()) = some ([], true) ∧ impl_OverLimits j (2, w, ()) = some ([], true) ∧ val ≤ 10 * vQ j.2.2.1 Q j.1.length ∧ val ≤ bound ∧ w.length ≤ 12 ∧
      laws_FnTop_l1 (w.length : Int) j.2.1 g w 0 0 0 false 10000000 [] = some (.inr (t, (m, (false, (10000000, lots))))) ∧ impl_PileSums (false, 10000000, lots, ()) = some (t, m, true) ∧
      impl_TonnesIn j (2, w, ()) = some ([[a, b], [c, d]], true) ∧ IntKind.i64.wrap (a + c) = t := by
  have J := jobB_spec hj
  have s := jobB_sm hj
  have g0 : searchB j = true := by
    have h1 : (j.1.length : Int) ≤ 12 := by omega
    have h2 : j.2.2.2.2.1 ≤ 3 := by rw [T.p]; decide
    simp [searchB, hj, h1, h2]
  obtain ⟨g1, g2⟩ := SearchPlan_good g0
  have F := done_feas J 3000
  have hlen := F.len
  have hpb := planB_of F.w F.len
  have hfe := (feas_okp J F.w F.len).2 F.okp
  simp only [feasB, Bool.and_eq_true] at hfe
  rw [T.p] at hpb
  obtain ⟨F1, f1, f2⟩ := OrderFaults_ok j (2, (done j 3000).best, ()) hj (by show (done j 3000).best.length ≤ _; omega)
  obtain ⟨F2, f3, f4⟩ := OverLimits_ok j (2, (done j 3000).best, ()) hj (by show (done j 3000).best.length ≤ _; omega)
  rw [hpb] at f1 f2 f3 f4
  have e1 : F1 = [] := by have h := f2 rfl; rw [hfe.1] at h; exact of_decide_eq_true h
  have e2 : F2 = [] := by have h := f4 rfl; rw [hfe.2] at h; exact of_decide_eq_true h
  subst e1 e2
  have hw : ∀ x ∈ (done j 3000).best, -1 ≤ x ∧ x < 2 := fun x hx => by have h := F.w.w x hx; rw [T.p] at h; exact h
  have hval := F.val
  have hwl := worth_le T J P F.len hw hfe.1
  rw [← hval] at hwl
  have hj' := hj
  simp only [jobB, Bool.and_eq_true] at hj'
  have bt : inB 0 10000 j.2.1 = true := hj'.2.2.2.1
  have hlt := J.lt
  have hlv := J.lv
  obtain ⟨m, lots, k1, k2, k3, k4⟩ := pile_loop j.2.1 g (done j 3000).best (by omega) (by omega) (by omega) bt bg 0 (Nat.zero_le _) 0 [] (Int.le_refl _) (Int.le_refl _) (Int.le_refl _) (Int.le_refl _) rfl (Nat.le_refl _) rfl rfl
  have k1 : laws_FnTop_l1 ((done j 3000).best.length : Int) j.2.1 g (done j 3000).best 0 0 0 false 10000000 [] = _ := k1
  have PO := planB_spec hpb
  have tt := tonnesIn_ok j (2, (done j 3000).best, ()) J PO
  have hsum := ton_two (done j 3000).best j.2.1 j.2.2.1 (by omega) (by omega) hw
  have hq := tQ_tL (done j 3000).best j.2.1 (by omega) (done j 3000).best.length (Nat.le_refl _)
  rw [List.take_length, List.take_of_length_le (by omega)] at hq
  have tb : tonnes j (2, (done j 3000).best, ()) = [[(ton (zip3 (done j 3000).best j.2.1 j.2.2.1) 0).1, (ton (zip3 (done j 3000).best j.2.1 j.2.2.1) 0).2], [(ton (zip3 (done j 3000).best j.2.1 j.2.2.1) 1).1, (ton (zip3 (done j 3000).best j.2.1 j.2.2.1) 1).2]] := by
    unfold tonnes
    rw [T.p]; rfl
  rw [tb] at tt
  have sb := (pileB_spec k2)
  have sb1 := sb.2.2.2.2.2
  have sb2 := (sums_bound lots sb.1).1
  dsimp only at sb1
  refine ⟨(done j 3000).best, (done j 3000).worth, if (done j 3000).opn > (done j 3000).worth then (done j 3000).opn else (done j 3000).worth, tQ j.2.1 (done j 3000).best (done j 3000).best.length, m, lots, (ton (zip3 (done j 3000).best j.2.1 j.2.2.1) 0).1, (ton (zip3 (done j 3000).best j.2.1 j.2.2.1) 0).2, (ton (zip3 (done j 3000).best j.2.1 j.2.2.1) 1).1, (ton (zip3 (done j 3000).best j.2.1 j.2.2.1) 1).2, ?_, ?_, f1, f3, hwl, ?_, by omega, k1, ?_, ?_, ?_⟩
  · rw [g1]; unfold planOut; rw [T.p]
  · rw [g2]; unfold planOut; rw [T.p]
  · split <;> omega
  · rw [impl_PileSums_ok, k2]
    show some (tS lots, mS lots, true) = _
    rw [k3, k4]
  · unfold impl_TonnesIn impl_TonnesInK
    rw [IsJob_ok j s, hj, isPlan_ok j _ (by show (done j 3000).best.length ≤ _; omega), hpb]
    simp only [Option.bind_some, Bool.not_true, cond_false, tt]
  · rw [hsum, ← hq, ← k3]
    exact wr (by omega) (by omega)
end
noncomputable section
theorem sameLists_refl (l : List (List Int)) (h : l.length ≤ 1000000) (hr : ∀ r ∈ l, r.length ≤ 1000000) : laws_sameLists l l = some true := by
  have key : ∀ i, i ≤ l.length → laws_sameLists_l0 l l (l.length : Int) (i : Int) = some (.inr ()) := by
    refine down ?_ fun i hi ih => ?_
    · rw [laws_sameLists_l0_eq]; unfold laws_sameLists_l0K
      rw [lt_out (Nat.le_refl _)]
    · rw [laws_sameLists_l0_eq]; unfold laws_sameLists_l0K
      rw [loop_step hi, wr_succ hi (by omega), lat_nat hi, Option.bind_some, sameInts_refl _ (by have := hr _ (List.getElem_mem hi); omega)]
      exact ih
  have := key 0 (Nat.zero_le _)
  rw [show ((0 : Nat) : Int) = 0 from rfl] at this
  unfold laws_sameLists laws_sameListsK
  rw [this]; simp [sumO]
theorem slopes_any (g : DGrid) (k : Int) (hk : 1 ≤ k ∧ k ≤ 4) : ∃ s A, impl_UniformSlopes g k = some s ∧ impl_ArcsOf g (s.1.1, (s.1.2, ())) = some A := by
  cases hg : gridB g with
  | false =>
    obtain ⟨a, b⟩ := slopes_none g k hk hg
    exact ⟨_, _, a, b⟩
  | true =>
    exact ⟨_, _, (slopes_both g k hk hg).1, (arcs_both hg k hk).1⟩
theorem u8_wf' {x : Int} (h : (Ty.int .u8).wf x) : 0 ≤ x ∧ x ≤ 255 := by
  have h : (decide ((IntKind.u8).min ≤ x) && decide (x ≤ (IntKind.u8).max)) = true := h
  have e1 : IntKind.u8.min = 0 := by decide
  have e2 : IntKind.u8.max = 255 := by decide
  rw [e1, e2] at h
  simpa using h
theorem FnTop_law (x0 x1 : List Int) (w0 : (Ty.slice (.int .u8)).wf x0) (w1 : (Ty.slice (.int .u8)).wf x1) : laws_FnTop x0 x1 = some true := by
  unfold laws_FnTop laws_FnTopK laws_big laws_bigK
  by_cases c0 : (x0.length : Int) > 1048576
  · simp [c0]
  have h0 : x0.length ≤ 1048576 := by omega
  by_cases c1 : (x1.length : Int) > IntKind.i64.wrap (1048576 - (x0.length : Int))
  · simp [c0, c1]
  rw [wr (by omega) (by omega)] at c1
  have h1 : x1.length ≤ 1048576 := by omega
  have K : CodeOk x0 := ⟨fun x hx => u8_wf' (w0.2 x hx), h0⟩
  obtain ⟨⟨mx, my, mz, mt, mg, mr⟩, hm⟩ := draw_ok K
  have t1 : 0 ≤ (x1.length : Int).tmod 90 ∧ (x1.length : Int).tmod 90 < 90 := ⟨Int.tmod_nonneg _ (by omega), Int.tmod_lt_of_pos _ (by omega)⟩
  have t2 : 0 ≤ (x0.length : Int).tmod 40 ∧ (x0.length : Int).tmod 40 < 40 := ⟨Int.tmod_nonneg _ (by omega), Int.tmod_lt_of_pos _ (by omega)⟩
  have t3 : 0 ≤ (x0.length : Int).tmod 4 ∧ (x0.length : Int).tmod 4 < 4 := ⟨Int.tmod_nonneg _ (by omega), Int.tmod_lt_of_pos _ (by omega)⟩
  have t4 : 0 ≤ (x1.length : Int).tmod 20 ∧ (x1.length : Int).tmod 20 < 20 := ⟨Int.tmod_nonneg _ (by omega), Int.tmod_lt_of_pos _ (by omega)⟩
  have cw : ¬ (x1.length : Int) > IntKind.i64.wrap (1048576 - (x0.length : Int)) := by rw [wr (by omega) (by omega)]; exact c1
  rw [wr (n := 10 + (x1.length : Int).tmod 90) (by omega) (by omega), wr (n := 5 + (x0.length : Int).tmod 40) (by omega) (by omega), wr (n := 1 + (x0.length : Int).tmod 4) (by omega) (by omega), wr (n := 100 * (x1.length : Int).tmod 20) (by omega) (by omega), wr (n := 500 + 100 * (x1.length : Int).tmod 20) (by omega) (by omega)]
  have hp : 10 ≤ 10 + (x1.length : Int).tmod 90 ∧ 10 + (x1.length : Int).tmod 90 ≤ 99 := by omega
  have he : 5 ≤ 5 + (x0.length : Int).tmod 40 ∧ 5 + (x0.length : Int).tmod 40 ≤ 44 := by omega
  have hk : 1 ≤ 1 + (x0.length : Int).tmod 4 ∧ 1 + (x0.length : Int).tmod 4 ≤ 4 := by omega
  have hmine : 0 ≤ 500 + 100 * (x1.length : Int).tmod 20 ∧ 500 + 100 * (x1.length : Int).tmod 20 ≤ 1000000 := by omega
  generalize 10 + (x1.length : Int).tmod 90 = p at hp ⊢
  generalize 5 + (x0.length : Int).tmod 40 = e at he ⊢
  generalize 1 + (x0.length : Int).tmod 4 = k at hk ⊢
  generalize 500 + 100 * (x1.length : Int).tmod 20 = mine at hmine ⊢
  simp only [c0, cw, decide_false, cond_false, Option.bind_some, hm]
  have si : ∀ l : List Int, l.length ≤ 1000000 → laws_sameInts l l = some true := fun l hl => sameInts_refl l (by omega)
  rcases PriceValues_both ((mx, my, mz, ()), mt, mg, mr, ()) p e hp he with ⟨hM, v1, v2⟩ | ⟨hM, V, v1, v2, v3, v4⟩
  · obtain ⟨s, A, s1, s2⟩ := slopes_any (mx, my, mz, ()) k hk
    rw [v1, v2, s1]
    simp only [Option.bind_some]
    rw [s2]
    simp only [Option.bind_some]
    rw [si [] (by simp), IsModel_ok, hM]
    rfl
  · have Mo := modelB_in hM
    have G := Mo.g
    have hg : gridB (mx, my, mz, ()) = true := by
      have := hM
      simp only [modelB, Bool.and_eq_true] at this
      exact this.1
    have gn : 1 ≤ gN (mx, my, mz, ()) ∧ gN (mx, my, mz, ()) ≤ 120 := (gN_int G).2
    have ht : mt.length = gN (mx, my, mz, ()) := Mo.t
    have hgr : mg.length = gN (mx, my, mz, ()) := Mo.gr
    have bt : inB 0 10000 mt = true := Mo.bt
    have bg : inB 0 1000 mg = true := Mo.bg
    have v3 : V.length = gN (mx, my, mz, ()) := v3
    obtain ⟨s1, s2⟩ := slopes_both (mx, my, mz, ()) k hk hg
    obtain ⟨a1, a2⟩ := arcs_both hg k hk
    obtain ⟨o1, o2⟩ := arcG_ok hg k hk
    have al := arcG_len (mx, my, mz, ()) (tmpl k)
    generalize hA : arcG (mx, my, mz, ()) (tmpl k) = A at *
    have eta : (((slp (mx, my, mz, ()) k).1, ((slp (mx, my, mz, ()) k).2.1, ())) : DSlopes) = slp (mx, my, mz, ()) k := rfl
    rw [v1, v2, s1]
    simp only [Option.bind_some]
    rw [eta, a1]
    simp only [Option.bind_some, beq_self_eq_true, Bool.not_true, cond_false]
    rw [si V (by omega)]
    simp only [Option.bind_some, Bool.not_true, cond_false]
    rw [IsModel_ok, hM, s2]
    simp only [Option.bind_some, beq_self_eq_true, Bool.not_true, cond_false]
    rw [eta, a2]
    simp only [Option.bind_some, Bool.not_true, cond_false]
    rw [sameLists_refl A (by omega) fun r hr => by have := o2 r hr; omega]
    simp only [Option.bind_some, Bool.not_true, cond_false]
    have hj : jobB (A, mt, V, (mine, 1000000, ()), 2, 9, 10, ()) = true := by
      have q1 : (mt.length : Int) = (A.length : Int) := by omega
      have q2 : (V.length : Int) = (A.length : Int) := by omega
      simp [jobB, o1, q1, q2, bt, v4, hmine]
    obtain ⟨Q, P⟩ := pit_best hj
    have J := jobB_spec hj
    have hV : V.length = A.length := by omega
    have hb : ∀ i, i < A.length → -1000000 ≤ V.getD i 0 ∧ V.getD i 0 ≤ 1000000 := fun i hi => by rw [gd' (by omega)]; exact inB_iff.1 v4 i (by omega)
    obtain ⟨p1, p2, p3, p4⟩ := posS_bound (vals := V) (Q := Q) (n := A.length) hb
    have P1 : impl_BestPit A V = some (lstQ A.length Q, true) := P.b1
    have P2 : spec_BestPit A V = some (lstQ A.length Q, true) := P.b2
    have P3 : impl_IsClosure A (lstQ A.length Q) = some (true, true) := P.c
    have P4 : impl_CutOfPit A V (lstQ A.length Q) = some (posS V A.length - vQ V Q A.length, true) := P.cut
    have P5 : impl_ValueOf V (lstQ A.length Q) = some (vQ V Q A.length, true) := P.val
    have P6 : 0 ≤ vQ V Q A.length := P.nn
    have pl := (posS_loop V v4 (by omega) 0 (Nat.zero_le _)).2
    have pl : laws_FnTop_l0 (V.length : Int) V 0 0 = some (posS V A.length) := by rw [← hV]; exact pl
    have hll := lst_len (Q := Q) A.length
    rw [P1, P2]
    simp only [Option.bind_some]
    rw [P3, P4, P5, pl, si _ (by omega)]
    have w1' : vQ V Q A.length + (posS V A.length - vQ V Q A.length) = posS V A.length := by omega
    have n1 : ¬ vQ V Q A.length < 0 := by omega
    simp only [Option.bind_some, Bool.not_true, cond_false, w1', n1, decide_false]
    rw [wr (n := posS V A.length) (by omega) (by omega), bne_self_eq_false]
    simp only [cond_false]
    by_cases c12 : (V.length : Int) > 12
    · simp only [c12, decide_true, cond_true]
    · obtain ⟨w, val, bound, tn, me, lots, a, b, c, d, r1, r2, r3, r4, r5, r6, r7, r8, r9, r10, r11⟩ := search_all (j := (A, mt, V, (mine, 1000000, ()), 2, 9, 10, ())) ⟨rfl, rfl, rfl⟩ hj (by show A.length ≤ 12; omega) P mg (by show mg.length = A.length; omega) bg
      have r8 : laws_FnTop_l1 (w.length : Int) mt mg w 0 0 0 false 10000000 [] = some (.inr (tn, (me, (false, (10000000, lots))))) := r8
      have r5 : val ≤ 10 * vQ V Q A.length := r5
      simp only [c12, decide_false, cond_false]
      rw [r1, r2]
      simp only [Option.bind_some, Bool.not_true, cond_false]
      rw [r3, r4, pSamePlan_refl (2, w, ()) (by show w.length ≤ _; omega)]
      have n2 : ¬ val > IntKind.i64.wrap (10 * vQ V Q A.length) := by rw [wr (by omega) (by omega)]; omega
      have n3 : ¬ bound < val := by omega
      have z : (((([] : List (List Int)).length : Int)) != 0) = false := rfl
      have z2 : (((([] : List Int).length : Int)) != 0) = false := rfl
      simp only [Option.bind_some, Bool.not_true, cond_false, bne_self_eq_false, z, z2, n2, n3, decide_false]
      rw [r8]
      simp only [Option.bind_some, sumO]
      rw [r9, r10]
      simp only [Option.bind_some, Bool.not_true, cond_false, bne_self_eq_false]
      show some (IntKind.i64.wrap (a + c) == tn) = _
      rw [r11]; simp
end
end Go.OAI
