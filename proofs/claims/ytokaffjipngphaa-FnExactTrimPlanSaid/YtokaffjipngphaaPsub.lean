/- A network of some blocks alone, closed under arcs: its least cut is that of the network of all, where the others are worth less than nothing. -/
import Derived.Test.YtokaffjipngphaaPpit
namespace Go.OAI
set_option linter.unusedVariables false
noncomputable section

/-! ### Some blocks, in order -/
def bl (n : Nat) (M : Nat → Bool) : List Nat := (List.range n).filter M
theorem bl_mem {n : Nat} {M : Nat → Bool} {x : Nat} : x ∈ bl n M ↔ x < n ∧ M x = true := by
  unfold bl; rw [List.mem_filter, List.mem_range]
theorem bl_nodup (n : Nat) (M : Nat → Bool) : (bl n M).Nodup := List.nodup_range.filter _
theorem bl_len (n : Nat) (M : Nat → Bool) : (bl n M).length ≤ n := by
  have := List.length_filter_le M (List.range n)
  rw [List.length_range] at this; exact this
def ix (n : Nat) (M : Nat → Bool) (x : Nat) : Nat := (bl n M).idxOf x
theorem ix_lt {n : Nat} {M : Nat → Bool} {x : Nat} (h : x < n) (hM : M x = true) : ix n M x < (bl n M).length := List.idxOf_lt_length_of_mem (bl_mem.2 ⟨h, hM⟩)
theorem get_ix {n : Nat} {M : Nat → Bool} {x : Nat} (h : x < n) (hM : M x = true) : (bl n M).getD (ix n M x) 0 = x := by
  rw [gd' (ix_lt h hM)]
  exact List.getElem_idxOf (ix_lt h hM)
theorem ix_get {n : Nat} {M : Nat → Bool} {k : Nat} (h : k < (bl n M).length) : ix n M ((bl n M).getD k 0) = k := by
  rw [gd' h]
  exact (bl_nodup n M).idxOf_getElem k h
theorem bl_get {n : Nat} {M : Nat → Bool} {k : Nat} (h : k < (bl n M).length) : (bl n M).getD k 0 < n ∧ M ((bl n M).getD k 0) = true := by
  rw [gd' h]
  exact bl_mem.1 (List.getElem_mem h)
theorem bl_succ (n : Nat) (M : Nat → Bool) : bl (n + 1) M = bl n M ++ (if M n = true then [n] else []) := by
  unfold bl
  rw [List.range_succ, List.filter_append, List.filter_cons, List.filter_nil]
theorem sm_filter (f : Nat → Int) (M : Nat → Bool) : ∀ n, (∀ i, i < n → M i = false → f i = 0) → sm n f = sm (bl n M).length fun k => f ((bl n M).getD k 0)
  | 0, _ => rfl
  | n + 1, h => by
    have ih := sm_filter f M n fun i hi => h i (by omega)
    rw [bl_succ]
    cases hm : M n with
    | true =>
      rw [if_pos rfl, List.length_append, List.length_singleton]
      simp only [sm]
      rw [ih]
      congr 1
      · refine sm_congr _ fun k hk => ?_
        congr 1
        rw [List.getD_eq_getElem?_getD, List.getD_eq_getElem?_getD, List.getElem?_append_left hk]
      · congr 1
        rw [List.getD_eq_getElem?_getD, List.getElem?_append_right (Nat.le_refl _)]; simp
    | false =>
      rw [if_neg (by simp), List.append_nil]
      simp only [sm]
      rw [ih, h n (by omega) hm]; omega

/-! ### What a cut costs -/
def rowc (arcs : List (List Int)) (vals : List Int) (Q : Nat → Bool) (i : Nat) : Int :=
  (if 0 < vals.getD i 0 then (if Q i then 0 else vals.getD i 0) else if vals.getD i 0 < 0 then (if Q i then - vals.getD i 0 else 0) else 0) +
    1000000000 * cntA (fun i _ => Q i) i 0 ((arcs.getD i []).map Int.toNat)
theorem cap_PE {arcs : List (List Int)} {vals : List Int} {T : Int → Bool} (h0 : T 0 = true) (hz : T ((arcs.length + 1 : Nat) : Int) = false) :
    capS T (eds (PE arcs vals)) = sm arcs.length (rowc arcs vals fun i => T ((i + 1 : Nat) : Int)) := by
  unfold PE
  rw [cap_flat]
  refine sm_congr _ fun i _ => ?_
  unfold RP
  rw [eds_append, cap_append, cap_v h0 (by rw [zN0]; exact hz)]
  unfold eA
  rw [cap_a]
  have e : (fun (i t : Nat) => T (nS (pg arcs vals) i t)) i 0 = T ((i + 1 : Nat) : Int) := by
    show T (nS (pg arcs vals) i 0) = _
    rw [nS0]
  have hc : ∀ l : List Nat, cntA (fun i t => T (nS (pg arcs vals) i t)) i 0 l = cntA (fun (i _ : Nat) => T ((i + 1 : Nat) : Int)) i 0 l := fun l =>
    cntA_congr (by show T (nS (pg arcs vals) i 0) = _; rw [nS0]) l fun k _ => by show T (nS (pg arcs vals) k 0) = _; rw [nS0]
  rw [hc]
  unfold pf rowc
  have e2 : T (nS (pg arcs vals) i 0) = T ((i + 1 : Nat) : Int) := by rw [nS0]
  simp only [e2]
  rfl
theorem rowc_nn {arcs : List (List Int)} {vals : List Int} {Q : Nat → Bool} {i : Nat} : 0 ≤ rowc arcs vals Q i := by
  have := cntA_nn (Q := fun i _ => Q i) (i := i) (t := 0) ((arcs.getD i []).map Int.toNat)
  unfold rowc
  split
  · split <;> omega
  · split
    · split <;> omega
    · omega
theorem cntA_map {Q Q' : Nat → Nat → Bool} {i k t t' : Nat} {φ : Nat → Nat} (h : Q i t = Q' k t') : ∀ l : List Nat, (∀ x ∈ l, Q x t = Q' (φ x) t') → cntA Q i t l = cntA Q' k t' (l.map φ)
  | [], _ => rfl
  | x :: l, hl => by
    simp only [List.map_cons, cntA]
    rw [cntA_map h l fun y hy => hl y (List.mem_cons_of_mem _ hy), h, hl x (List.mem_cons_self)]
theorem cntA_out {Q : Nat → Nat → Bool} {i t : Nat} (h : Q i t = false) : ∀ l : List Nat, cntA Q i t l = 0
  | [] => rfl
  | x :: l => by simp [cntA, cntA_out h l, h]

/-! ### The network of all and that of some -/
section
variable {arcs : List (List Int)} {vals : List Int} {M : Nat → Bool}
def valsM (arcs : List (List Int)) (vals : List Int) (M : Nat → Bool) : List Int := (List.range arcs.length).map fun i => if M i then vals.getD i 0 else -1000000000
def arcsM (arcs : List (List Int)) (M : Nat → Bool) : List (List Int) := (bl arcs.length M).map fun i => (arcs.getD i []).map fun x => ((ix arcs.length M x.toNat : Nat) : Int)
def worthM (arcs : List (List Int)) (vals : List Int) (M : Nat → Bool) : List Int := (bl arcs.length M).map fun i => vals.getD i 0
def ClosedM (arcs : List (List Int)) (M : Nat → Bool) : Prop := ∀ i, i < arcs.length → M i = true → ∀ x ∈ arcs.getD i [], M x.toNat = true
theorem valsM_get {i : Nat} (h : i < arcs.length) : (valsM arcs vals M).getD i 0 = if M i then vals.getD i 0 else -1000000000 := by
  have : i < (valsM arcs vals M).length := by simp [valsM]; exact h
  rw [gd' this]; simp [valsM]
theorem arcsM_len : (arcsM arcs M).length = (bl arcs.length M).length := by simp [arcsM]
theorem arcsM_get {k : Nat} (h : k < (bl arcs.length M).length) : (arcsM arcs M).getD k [] = (arcs.getD ((bl arcs.length M).getD k 0) []).map fun x => ((ix arcs.length M x.toNat : Nat) : Int) := by
  rw [gd' (by rw [arcsM_len]; exact h), gd' h]; simp [arcsM]
theorem worthM_get {k : Nat} (h : k < (bl arcs.length M).length) : (worthM arcs vals M).getD k 0 = vals.getD ((bl arcs.length M).getD k 0) 0 := by
  have h2 : k < (worthM arcs vals M).length := by simp [worthM]; exact h
  rw [gd' h2]
  simp [worthM, h]
theorem valsM_ok (K : PitOk arcs vals) : PitOk arcs (valsM arcs vals M) := by
  refine ⟨K.n, by simp [valsM], K.ar, K.al, fun i hi => ?_⟩
  rw [valsM_get hi]
  have := K.v i hi
  split <;> omega
theorem subM_ok (K : PitOk arcs vals) (hM : ClosedM arcs M) : PitOk (arcsM arcs M) (worthM arcs vals M) := by
  have hb := bl_len arcs.length M
  have hn := K.n
  refine ⟨by rw [arcsM_len]; omega, by simp [worthM, arcsM], fun k hk x hx => ?_, fun k hk => ?_, fun k hk => ?_⟩
  · rw [arcsM_len] at hk ⊢
    rw [arcsM_get hk] at hx
    obtain ⟨y, hy, rfl⟩ := List.mem_map.1 hx
    obtain ⟨h1, h2⟩ := bl_get hk
    have hyr := K.ar _ h1 y hy
    have := ix_lt (n := arcs.length) (M := M) (x := y.toNat) (by omega) (hM _ h1 h2 y hy)
    omega
  · rw [arcsM_len] at hk
    rw [arcsM_get hk, List.length_map]
    exact K.al _ (bl_get hk).1
  · rw [arcsM_len] at hk
    rw [worthM_get hk]
    exact K.v _ (bl_get hk).1
/-- The blocks left out cost something. -/
theorem row_cut (K : PitOk arcs vals) (hM : ClosedM arcs M) (Q : Nat → Bool) {i : Nat} (hi : i < arcs.length) : rowc arcs (valsM arcs vals M) (fun i => Q i && M i) i ≤ rowc arcs (valsM arcs vals M) Q i := by
  cases hm : M i with
  | true =>
    have hc : cntA (fun (i _ : Nat) => Q i && M i) i 0 ((arcs.getD i []).map Int.toNat) = cntA (fun (i _ : Nat) => Q i) i 0 ((arcs.getD i []).map Int.toNat) := by
      refine cntA_congr (by simp [hm]) _ fun k hk => ?_
      obtain ⟨x, hx, rfl⟩ := List.mem_map.1 hk
      simp [hM i hi hm x hx]
    unfold rowc
    rw [hc]
    simp only [hm, Bool.and_true]
    exact Int.le_refl _
  | false =>
    have h0 : rowc arcs (valsM arcs vals M) (fun i => Q i && M i) i = 0 := by
      unfold rowc
      rw [cntA_out (by simp [hm]), valsM_get hi]
      simp [hm]
    rw [h0]; exact rowc_nn
theorem row_out {Q : Nat → Bool} {i : Nat} (hi : i < arcs.length) (hm : M i = false) (hq : Q i = false) : rowc arcs (valsM arcs vals M) Q i = 0 := by
  unfold rowc
  rw [cntA_out hq, valsM_get hi]
  simp [hm, hq]
theorem row_sub (K : PitOk arcs vals) (hM : ClosedM arcs M) {Q Q' : Nat → Bool} (h : ∀ i, i < arcs.length → M i = true → Q i = Q' (ix arcs.length M i)) {k : Nat} (hk : k < (bl arcs.length M).length) :
    rowc arcs (valsM arcs vals M) Q ((bl arcs.length M).getD k 0) = rowc (arcsM arcs M) (worthM arcs vals M) Q' k := by
  obtain ⟨h1, h2⟩ := bl_get hk
  have hq : Q ((bl arcs.length M).getD k 0) = Q' k := by rw [h _ h1 h2, ix_get hk]
  unfold rowc
  rw [valsM_get h1, worthM_get hk, h2, arcsM_get hk]
  simp only [if_true, hq]
  congr 2
  rw [cntA_map (Q' := fun i _ => Q' i) (k := k) (t' := 0) (φ := fun x => ix arcs.length M x) (by exact hq) _ fun x hx => by
    obtain ⟨y, hy, rfl⟩ := List.mem_map.1 hx
    have hyr := K.ar _ h1 y hy
    exact h _ (by omega) (hM _ h1 h2 y hy)]
  rw [List.map_map, List.map_map]
  congr 1
/-- The least cut of the network of some blocks, as a cut of the network of all. -/
def liftM (arcs : List (List Int)) (M : Nat → Bool) (D : Int → Bool) (z : Int) : Bool :=
  decide (z = 0) || (decide (1 ≤ z) && (decide (z.toNat ≤ arcs.length) && (M (z.toNat - 1) && D ((ix arcs.length M (z.toNat - 1) + 1 : Nat) : Int))))
def downM (arcs : List (List Int)) (M : Nat → Bool) (T : Int → Bool) (z : Int) : Bool :=
  decide (z = 0) || (decide (1 ≤ z) && (decide (z.toNat ≤ (bl arcs.length M).length) && T (((bl arcs.length M).getD (z.toNat - 1) 0 + 1 : Nat) : Int)))
theorem lift_get {D : Int → Bool} {i : Nat} (hi : i < arcs.length) : liftM arcs M D ((i + 1 : Nat) : Int) = (M i && D ((ix arcs.length M i + 1 : Nat) : Int)) := by
  unfold liftM
  have e1 : decide (((i + 1 : Nat) : Int) = 0) = false := decide_eq_false (by omega)
  have e2 : decide ((1 : Int) ≤ ((i + 1 : Nat) : Int)) = true := decide_eq_true (by omega)
  have e3 : ((i + 1 : Nat) : Int).toNat = i + 1 := by omega
  have e4 : decide (i + 1 ≤ arcs.length) = true := decide_eq_true (by omega)
  rw [e1, e2, e3, e4, Nat.add_sub_cancel]; simp
theorem down_get {T : Int → Bool} {k : Nat} (hk : k < (bl arcs.length M).length) : downM arcs M T ((k + 1 : Nat) : Int) = T (((bl arcs.length M).getD k 0 + 1 : Nat) : Int) := by
  unfold downM
  have e1 : decide (((k + 1 : Nat) : Int) = 0) = false := decide_eq_false (by omega)
  have e2 : decide ((1 : Int) ≤ ((k + 1 : Nat) : Int)) = true := decide_eq_true (by omega)
  have e3 : ((k + 1 : Nat) : Int).toNat = k + 1 := by omega
  have e4 : decide (k + 1 ≤ (bl arcs.length M).length) = true := decide_eq_true (by omega)
  rw [e1, e2, e3, e4, Nat.add_sub_cancel]; simp
theorem cap_down (K : PitOk arcs vals) (hM : ClosedM arcs M) {T : Int → Bool} (h0 : T 0 = true) (h1 : T ((arcs.length + 1 : Nat) : Int) = false) :
    capS (downM arcs M T) (eds (PE (arcsM arcs M) (worthM arcs vals M))) ≤ capS T (eds (PE arcs (valsM arcs vals M))) := by
  have hd : downM arcs M T (((arcsM arcs M).length + 1 : Nat) : Int) = false := by
    unfold downM
    rw [arcsM_len]
    have e1 : decide ((((bl arcs.length M).length + 1 : Nat) : Int) = 0) = false := decide_eq_false (by omega)
    have e3 : (((bl arcs.length M).length + 1 : Nat) : Int).toNat = (bl arcs.length M).length + 1 := by omega
    have e4 : decide ((bl arcs.length M).length + 1 ≤ (bl arcs.length M).length) = false := decide_eq_false (by omega)
    rw [e1, e3, e4]; simp
  rw [cap_PE (by simp [downM]) hd, cap_PE h0 h1, arcsM_len]
  have e : sm arcs.length (rowc arcs (valsM arcs vals M) fun i => T ((i + 1 : Nat) : Int) && M i) = sm (bl arcs.length M).length (rowc (arcsM arcs M) (worthM arcs vals M) fun i => downM arcs M T ((i + 1 : Nat) : Int)) := by
    rw [sm_filter _ M _ fun i hi hm => row_out hi hm (by simp [hm])]
    refine sm_congr _ fun k hk => row_sub K hM (fun i hi hm => ?_) hk
    rw [down_get (ix_lt hi hm), get_ix hi hm, hm, Bool.and_true]
  rw [← e]
  have : ∀ n, n ≤ arcs.length → sm n (rowc arcs (valsM arcs vals M) fun i => T ((i + 1 : Nat) : Int) && M i) ≤ sm n (rowc arcs (valsM arcs vals M) fun i => T ((i + 1 : Nat) : Int)) := by
    intro n
    induction n with
    | zero => intro _; exact Int.le_refl _
    | succ n ih =>
      intro hn
      have h1 := ih (by omega)
      have h2 := row_cut (vals := vals) K hM (fun i => T ((i + 1 : Nat) : Int)) (i := n) (by omega)
      simp only [sm]; omega
  exact this _ (Nat.le_refl _)
theorem cap_lift (K : PitOk arcs vals) (hM : ClosedM arcs M) {D : Int → Bool} (h0 : D 0 = true) (h1 : D (((arcsM arcs M).length + 1 : Nat) : Int) = false) :
    capS (liftM arcs M D) (eds (PE arcs (valsM arcs vals M))) = capS D (eds (PE (arcsM arcs M) (worthM arcs vals M))) := by
  have hl : liftM arcs M D ((arcs.length + 1 : Nat) : Int) = false := by
    unfold liftM
    have e1 : decide (((arcs.length + 1 : Nat) : Int) = 0) = false := decide_eq_false (by omega)
    have e3 : ((arcs.length + 1 : Nat) : Int).toNat = arcs.length + 1 := by omega
    have e4 : decide (arcs.length + 1 ≤ arcs.length) = false := decide_eq_false (by omega)
    rw [e1, e3, e4]; simp
  rw [cap_PE (by simp [liftM]) hl, cap_PE h0 h1, arcsM_len]
  rw [sm_filter _ M _ fun i hi hm => row_out hi hm (by rw [lift_get hi, hm]; rfl)]
  refine sm_congr _ fun k hk => row_sub K hM (fun i hi hm => ?_) hk
  rw [lift_get hi, hm, Bool.true_and]
theorem least_lift (K : PitOk arcs vals) (hM : ClosedM arcs M) {D : Int → Bool} (hD : Least (((arcsM arcs M).length + 2 : Nat) : Int) (eds (PE (arcsM arcs M) (worthM arcs vals M))) D) :
    Least ((arcs.length + 2 : Nat) : Int) (eds (PE arcs (valsM arcs vals M))) (liftM arcs M D) := by
  have e1 : (((arcsM arcs M).length + 2 : Nat) : Int) - 1 = (((arcsM arcs M).length + 1 : Nat) : Int) := by omega
  have e2 : ((arcs.length + 2 : Nat) : Int) - 1 = ((arcs.length + 1 : Nat) : Int) := by omega
  have d1 := hD.s1
  rw [e1] at d1
  have hl : liftM arcs M D ((arcs.length + 1 : Nat) : Int) = false := by
    unfold liftM
    have q1 : decide (((arcs.length + 1 : Nat) : Int) = 0) = false := decide_eq_false (by omega)
    have q3 : ((arcs.length + 1 : Nat) : Int).toNat = arcs.length + 1 := by omega
    have q4 : decide (arcs.length + 1 ≤ arcs.length) = false := decide_eq_false (by omega)
    rw [q1, q3, q4]; simp
  have down : ∀ T : Int → Bool, downM arcs M T 0 = true ∧ downM arcs M T (((arcsM arcs M).length + 2 : Nat) - 1 : Int) = false := fun T => by
    refine ⟨by simp [downM], ?_⟩
    rw [e1]
    unfold downM
    rw [arcsM_len]
    have q1 : decide ((((bl arcs.length M).length + 1 : Nat) : Int) = 0) = false := decide_eq_false (by omega)
    have q3 : (((bl arcs.length M).length + 1 : Nat) : Int).toNat = (bl arcs.length M).length + 1 := by omega
    have q4 : decide ((bl arcs.length M).length + 1 ≤ (bl arcs.length M).length) = false := decide_eq_false (by omega)
    rw [q1, q3, q4]; simp
  have cl := cap_lift K hM hD.s0 d1
  refine ⟨by simp [liftM], by rw [e2]; exact hl, fun T t0 t1 => ?_, fun T t0 t1 hc v v0 v1 hv => ?_⟩
  · rw [e2] at t1
    rw [cl]
    exact Int.le_trans (hD.le _ (down T).1 (down T).2) (cap_down K hM t0 t1)
  · rw [e2] at t1
    have hdn := cap_down K hM t0 t1
    rw [hc, cl] at hdn
    have heq := Int.le_antisymm hdn (hD.le _ (down T).1 (down T).2)
    by_cases hz : v = 0
    · rw [hz]; exact t0
    · obtain ⟨i, rfl⟩ : ∃ i : Nat, v = ((i + 1 : Nat) : Int) := ⟨v.toNat - 1, by omega⟩
      by_cases hi : i < arcs.length
      · rw [lift_get hi, Bool.and_eq_true] at hv
        have hlt := ix_lt hi hv.1
        have := hD.sub _ (down T).1 (down T).2 heq _ (by omega) (by rw [arcsM_len]; omega) hv.2
        rw [down_get hlt, get_ix hi hv.1] at this
        exact this
      · have : i = arcs.length := by omega
        subst this
        rw [hl] at hv; cases hv
end
end
end Go.OAI
