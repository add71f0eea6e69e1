/- Plain lemmas on loops over lists. -/
import Derived.Test.YtfkdmflcildgbaaDoorK3
namespace Go.OAI
set_option linter.unusedVariables false

theorem wr {n : Int} (h1 : -9223372036854775808 ≤ n) (h2 : n ≤ 9223372036854775807) : IntKind.i64.wrap n = n := by
  rw [IntKind.wrap_i64]; omega
section
variable {α β R S Y : Type}
theorem lat_nat {l : List α} {i : Nat} (h : i < l.length) : lat l (i : Int) = some l[i] := by
  simp [lat, h]
theorem lat_int {l : List α} {i : Int} (h0 : 0 ≤ i) (h : i.toNat < l.length) : lat l i = some (l[i.toNat]'h) := by
  simp [lat, h0, h]
theorem lat_none {l : List α} {i : Int} (h : ¬ (0 ≤ i ∧ i < (l.length : Int))) : lat l i = none := by
  unfold lat
  by_cases h0 : 0 ≤ i
  · have : l.length ≤ i.toNat := by omega
    simp only [h0, decide_true, cond_true]
    exact List.getElem?_eq_none this
  · simp [h0]
theorem lt_in {i n : Nat} {A F : Option R} (h : i < n) : cond (decide ((i : Int) < (n : Int))) A F = A := by
  have : (i : Int) < (n : Int) := by omega
  simp [this]
theorem lt_out {i n : Nat} {A F : Option R} (h : n ≤ i) : cond (decide ((i : Int) < (n : Int))) A F = F := by
  have : ¬ (i : Int) < (n : Int) := by omega
  simp [this]
theorem ck_in {i n : Nat} {A F : Option R} (h : i < n) : cond (decide ((0 : Int) ≤ (i : Int)) && decide ((i : Int) < (n : Int))) A F = A := by
  have : (i : Int) < (n : Int) := by omega
  simp [this]
theorem ck_int {i : Int} {n : Nat} {A F : Option R} (h0 : 0 ≤ i) (h : i < (n : Int)) : cond (decide ((0 : Int) ≤ i) && decide (i < (n : Int))) A F = A := by
  simp [h0, h]
theorem loop_step {l : List α} {i : Nat} {A : α → Option R} {F : Option R} (h : i < l.length) : cond (decide ((i : Int) < (l.length : Int))) ((lat l (i : Int)).bind A) F = A l[i] := by
  rw [lt_in h, lat_nat h]; rfl
theorem wr_succ {i n : Nat} (h : i < n) (hn : n ≤ 9223372036854775807) : IntKind.i64.wrap ((i : Int) + 1) = ((i + 1 : Nat) : Int) := by
  rw [wr (by omega) (by omega)]; simp
theorem down {n : Nat} {P : Nat → Prop} (h0 : P n) (hs : ∀ i, i < n → P (i + 1) → P i) : ∀ i, i ≤ n → P i := by
  have key : ∀ k i, i + k = n → P i := by
    intro k
    induction k with
    | zero => intro i hi; have : i = n := by omega
              subst this; exact h0
    | succ k ih => intro i hi; exact hs i (by omega) (ih (i + 1) (by omega))
  exact fun i hi => key (n - i) i (by omega)
theorem cap_ok {n : Nat} {A F : Option R} (h : n ≤ 1099511627776) : cond (decide ((0 : Int) ≤ (n : Int)) && (decide ((n : Int) ≤ (n : Int)) && decide ((n : Int) ≤ 1099511627776))) A F = A := by
  have : (n : Int) ≤ 1099511627776 := by omega
  simp [this]
theorem drop_cons {l : List α} {i : Nat} (h : i < l.length) : l.drop i = l[i] :: l.drop (i + 1) := List.drop_eq_getElem_cons h

/-- A loop that fills a list, place by place. -/
theorem fill_loop {f : Int → List β → Option Y} {l : List β} {r : Y} (hl : l.length ≤ 1099511627776) (hend : f (l.length : Int) l = some r)
    (hstep : ∀ (i : Nat) (r : List β) (hi : i < l.length), r.length = l.length → f (i : Int) r = f ((i + 1 : Nat) : Int) (r.set i l[i])) (r0 : List β) (h0 : r0.length = l.length) : f 0 r0 = some r := by
  have key : ∀ i, i ≤ l.length → ∀ r1 : List β, r1.length = l.length → (∀ j, j < i → r1[j]? = l[j]?) → f (i : Int) r1 = some r := by
    refine down (fun r1 h1 h2 => ?_) fun i hi ih r1 h1 h2 => ?_
    · have : r1 = l := by
        apply List.ext_getElem? 
        intro j
        by_cases hj : j < l.length
        · exact h2 j hj
        · rw [List.getElem?_eq_none (by omega), List.getElem?_eq_none (by omega)]
      rw [this]; exact hend
    · rw [hstep i r1 hi h1]
      refine ih _ (by simpa using h1) fun j hj => ?_
      by_cases e : j = i
      · subst e; rw [List.getElem?_set_self (by omega), List.getElem?_eq_getElem hi]
      · rw [List.getElem?_set_ne (Ne.symm e)]; exact h2 j (by omega)
  exact key 0 (Nat.zero_le _) r0 h0 (fun j hj => absurd hj (Nat.not_lt_zero _))

/-- A loop that looks at each element until one is bad. -/
theorem all_loop {f : Int → Option Y} {l : List α} {good : Nat → α → Bool} {y n : Y} (hend : f (l.length : Int) = some y)
    (hstep : ∀ (i : Nat) (hi : i < l.length), f (i : Int) = if good i l[i] then f ((i + 1 : Nat) : Int) else some n) :
    f 0 = some (if ∀ i (hi : i < l.length), good i l[i] = true then y else n) := by
  have key : ∀ i, i ≤ l.length → f (i : Int) = some (if ∀ j (hj : j < l.length), i ≤ j → good j l[j] = true then y else n) := by
    refine down ?_ fun i hi ih => ?_
    · rw [hend, if_pos fun j hj h => by omega]
    · rw [hstep i hi]
      by_cases hg : good i l[i] = true
      · rw [if_pos hg, ih]
        congr 1
        by_cases ha : ∀ j (hj : j < l.length), i + 1 ≤ j → good j l[j] = true
        · rw [if_pos ha, if_pos fun j hj h => by
            by_cases e : j = i
            · subst e; exact hg
            · exact ha j hj (by omega)]
        · rw [if_neg ha, if_neg fun h => ha fun j hj hij => h j hj (by omega)]
      · rw [if_neg hg, if_neg fun h => hg (h i hi (Nat.le_refl _))]
  have := key 0 (Nat.zero_le _)
  simpa using this

theorem dec_lt (a b : Int) : decide (a < b) = !decide (b ≤ a) := by
  by_cases h : b ≤ a
  · have : ¬ a < b := by omega
    simp [h, this]
  · have : a < b := by omega
    simp [h, this]
theorem dec_gt (a b : Int) : decide (a > b) = !decide (a ≤ b) := dec_lt b a
theorem dec_ge (a b : Int) : decide (a ≥ b) = decide (b ≤ a) := rfl
theorem beq_dec (a b : Int) : (a == b) = decide (a = b) := by
  by_cases h : a = b <;> simp [h]
theorem bne_dec (a b : Int) : (a != b) = !decide (a = b) := by
  by_cases h : a = b <;> simp [h]

def allI (g : Nat → α → Bool) (l : List α) : Bool := (List.range l.length).all fun i => match l[i]? with
  | some x => g i x
  | none => true
theorem allI_iff {g : Nat → α → Bool} {l : List α} : allI g l = true ↔ ∀ i (h : i < l.length), g i l[i] = true := by
  unfold allI
  rw [List.all_eq_true]
  constructor
  · intro h i hi
    have := h i (by simpa using hi)
    simpa [hi] using this
  · intro h i hi
    have hi : i < l.length := by simpa using hi
    simpa [hi] using h i hi
theorem allI_loop {f : Int → Option Y} {l : List α} {good : Nat → α → Bool} {y n : Y} (hend : f (l.length : Int) = some y)
    (hstep : ∀ (i : Nat) (hi : i < l.length), f (i : Int) = if good i l[i] then f ((i + 1 : Nat) : Int) else some n) :
    f 0 = some (if allI good l then y else n) := by
  rw [all_loop hend hstep]
  congr 1
  by_cases h : allI good l = true
  · rw [if_pos h, if_pos (allI_iff.1 h)]
  · rw [if_neg h, if_neg fun e => h (allI_iff.2 e)]
theorem allL_loop {f : Int → Option Y} {l : List α} {good : α → Bool} {y n : Y} (hend : f (l.length : Int) = some y)
    (hstep : ∀ (i : Nat) (hi : i < l.length), f (i : Int) = if good l[i] then f ((i + 1 : Nat) : Int) else some n) :
    f 0 = some (if l.all good then y else n) := by
  rw [all_loop (good := fun _ x => good x) hend hstep]
  congr 1
  by_cases ha : l.all good = true
  · rw [if_pos ha, if_pos fun i hi => List.all_eq_true.1 ha _ (List.getElem_mem hi)]
  · rw [if_neg ha, if_neg fun hh => ha (List.all_eq_true.2 fun x hx => by
      obtain ⟨i, hi, rfl⟩ := List.getElem_of_mem hx
      exact hh i hi)]
end
end Go.OAI
