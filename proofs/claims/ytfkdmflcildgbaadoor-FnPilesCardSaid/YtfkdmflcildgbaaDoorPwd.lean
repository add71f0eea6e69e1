/- Words and digits: a text cut at its blanks; a number and its decimal digits. -/
import Derived.Lib.ItoaNum
import Derived.Lib.Split
import Derived.Lib.IndexBytes
namespace Go.OAI
set_option linter.unusedVariables false

/-- The words between the blanks. -/
def spl : List UInt8 → List (List UInt8)
  | [] => [[]]
  | c :: r => if c = 32 then [] :: spl r else (c :: (spl r).headD []) :: (spl r).tail
def jn : List (List UInt8) → List UInt8
  | [] => []
  | w :: ws => w ++ ws.flatMap fun x => 32 :: x
theorem spl_ne : ∀ l, spl l ≠ []
  | [] => by simp [spl]
  | c :: r => by unfold spl; split <;> simp
theorem spl_ht (l : List UInt8) : ∃ w ws, spl l = w :: ws := by
  cases h : spl l with
  | nil => exact absurd h (spl_ne l)
  | cons w ws => exact ⟨w, ws, rfl⟩
theorem spl_one : ∀ a : List UInt8, 32 ∉ a → spl a = [a]
  | [], _ => rfl
  | c :: r, h => by
    simp only [List.mem_cons, not_or] at h
    unfold spl
    rw [if_neg (fun e => h.1 e.symm), spl_one r h.2]
    rfl
theorem spl_cut (b : List UInt8) : ∀ a : List UInt8, 32 ∉ a → spl (a ++ 32 :: b) = a :: spl b
  | [], _ => by simp [spl]
  | c :: r, h => by
    simp only [List.mem_cons, not_or] at h
    rw [List.cons_append, spl, if_neg (fun e => h.1 e.symm), spl_cut b r h.2]
    rfl
theorem jn_spl : ∀ l, jn (spl l) = l
  | [] => rfl
  | c :: r => by
    have ih := jn_spl r
    obtain ⟨w, ws, e⟩ := spl_ht r
    rw [e] at ih
    unfold spl
    split
    · rename_i h
      rw [e, h]
      simpa [jn] using ih
    · rw [e]
      simpa [jn] using ih
theorem spl_jn : ∀ ws : List (List UInt8), (∀ w ∈ ws, 32 ∉ w) → ws ≠ [] → spl (jn ws) = ws
  | [], _, h => absurd rfl h
  | [w], h, _ => by simp [jn, spl_one w (h w (by simp))]
  | w :: v :: ws, h, _ => by
    have ih := spl_jn (v :: ws) (fun x hx => h x (by simp [hx])) (by simp)
    have : jn (w :: v :: ws) = w ++ 32 :: jn (v :: ws) := by simp [jn]
    rw [this, spl_cut _ _ (h w (by simp)), ih]
theorem spl_mem : ∀ l, ∀ w ∈ spl l, 32 ∉ w ∧ w.length ≤ l.length
  | [], w, h => by simp [spl] at h; subst h; simp
  | c :: r, w, h => by
    have ih := spl_mem r
    obtain ⟨v, vs, e⟩ := spl_ht r
    rw [e] at ih
    unfold spl at h
    split at h
    · rw [e] at h
      rcases List.mem_cons.1 h with rfl | h
      · simp
      · have := ih w h; exact ⟨this.1, by simp; omega⟩
    · rename_i hc
      rw [e] at h
      rcases List.mem_cons.1 h with rfl | h
      · have := ih v (by simp)
        exact ⟨by simp [this.1]; exact fun e => hc e.symm, by simp; exact this.2⟩
      · have := ih w (by simp at h; simp [h]); exact ⟨this.1, by simp; omega⟩
theorem spl_len : ∀ l : List UInt8, (spl l).length = l.count 32 + 1
  | [] => rfl
  | c :: r => by
    have ih := spl_len r
    unfold spl
    split
    · rename_i h; simp [h, ih]
    · rename_i h
      rw [List.count_cons_of_ne h]
      simp only [List.length_cons, List.length_tail]
      omega
theorem idx_spl : ∀ l : List UInt8, (Lib.index l [32] = -1 ∧ 32 ∉ l) ∨ ∃ i : Nat, Lib.index l [32] = i ∧ 32 ∉ l.take i ∧ l = l.take i ++ 32 :: l.drop (i + 1) := by
  intro l
  rw [Lib.index_one]
  induction l with
  | nil => exact .inl ⟨rfl, by simp⟩
  | cons b l ih =>
    unfold Lib.indexByte
    by_cases hb : b = 32
    · subst hb
      exact .inr ⟨0, by simp, by simp, by simp⟩
    · rw [if_neg (by simpa using hb)]
      rcases ih with ⟨h1, h2⟩ | ⟨i, h1, h2, h3⟩
      · rw [h1]
        exact .inl ⟨by simp, by simp [h2]; exact fun e => hb e.symm⟩
      · rw [h1]
        refine .inr ⟨i + 1, ?_, ?_, ?_⟩
        · rw [if_neg (by simp)]; rfl
        · simp only [List.take_succ_cons, List.mem_cons, not_or]
          exact ⟨fun e => hb e.symm, h2⟩
        · rw [List.take_succ_cons, List.drop_succ_cons, List.cons_append, ← h3]
theorem splitK_spl : ∀ (n : Nat) (l : List UInt8), l.length ≤ n → Lib.splitK [32] 0 (Lib.count l [32]) l = spl l
  | n, l, hn => by
    rcases idx_spl l with ⟨h1, h2⟩ | ⟨i, h1, h2, h3⟩
    · rw [Lib.count_miss h1, spl_one l h2]; rfl
    · have hl : (l.drop (i + 1)).length < l.length := by
        have := congrArg List.length h3
        simp only [List.length_append, List.length_cons] at this
        omega
      match n, hn with
      | 0, hn => omega
      | n + 1, hn =>
        have ih := splitK_spl n (l.drop (i + 1)) (by omega)
        rw [Lib.count_hit (by simp) h1, Nat.add_comm]
        unfold Lib.splitK
        rw [h1, if_neg (by simp)]
        simp only [Int.toNat_natCast, Nat.add_zero, List.length_singleton]
        rw [ih]
        conv => rhs; rw [h3]
        rw [spl_cut _ _ h2]

/-- Digits and their number. -/
def isDg (c : UInt8) : Bool := decide (48 ≤ c.toNat) && decide (c.toNat ≤ 57)
def dval (w : List UInt8) : Nat := w.foldl (fun n c => 10 * n + (c.toNat - 48)) 0
theorem dval_snoc (w : List UInt8) (c : UInt8) : dval (w ++ [c]) = 10 * dval w + (c.toNat - 48) := by simp [dval]
theorem isDg_le {c : UInt8} (h : isDg c = true) : 48 ≤ c.toNat ∧ c.toNat ≤ 57 := by simpa [isDg] using h
theorem snoc_ind {P : List UInt8 → Prop} (h0 : P []) (hs : ∀ w c, P w → P (w ++ [c])) : ∀ w, P w := by
  have : ∀ n (w : List UInt8), w.length = n → P w := by
    intro n
    induction n with
    | zero => intro w hw; rw [List.eq_nil_of_length_eq_zero hw]; exact h0
    | succ n ih =>
      intro w hw
      rcases List.eq_nil_or_concat w with e | ⟨v, c, e⟩
      · subst e; simp at hw
      · subst e
        simp at hw
        rw [List.concat_eq_append]
        exact hs v c (ih v hw)
  exact fun w => this _ w rfl
theorem dval_lt : ∀ w : List UInt8, w.all isDg = true → dval w < 10 ^ w.length := by
  refine snoc_ind (by simp [dval]) fun w c ih h => ?_
  simp only [List.all_append, List.all_cons, List.all_nil, Bool.and_true, Bool.and_eq_true] at h
  have := ih h.1
  have hc := isDg_le h.2
  rw [dval_snoc, List.length_append, List.length_singleton, Nat.pow_succ]
  omega
/-- A number as it is written: no leading zero. -/
def canon (w : List UInt8) : Prop := w.all isDg = true ∧ w ≠ [] ∧ (w.head? = some 48 → w.length = 1)
theorem dval_pos : ∀ w : List UInt8, w.all isDg = true → w ≠ [] → w.head? ≠ some 48 → 1 ≤ dval w := by
  refine snoc_ind (fun _ h => absurd rfl h) fun w c ih h _ h0 => ?_
  simp only [List.all_append, List.all_cons, List.all_nil, Bool.and_true, Bool.and_eq_true] at h
  have hc := isDg_le h.2
  rw [dval_snoc]
  cases w with
  | nil =>
    have : c.toNat ≠ 48 := fun e => h0 (by
      have : c = 48 := UInt8.toNat_inj.1 e
      subst this; rfl)
    simp [dval]; omega
  | cons d w =>
    have := ih h.1 (by simp) (by simpa using h0)
    omega
theorem digits_val : ∀ w : List UInt8, canon w → Lib.decDigits (dval w) = w := by
  refine snoc_ind (fun h => absurd rfl h.2.1) fun w c ih h => ?_
  obtain ⟨h1, h2, h3⟩ := h
  simp only [List.all_append, List.all_cons, List.all_nil, Bool.and_true, Bool.and_eq_true] at h1
  have hc := isDg_le h1.2
  rw [dval_snoc]
  have ec : UInt8.ofNat (48 + (c.toNat - 48)) = c := by
    rw [show 48 + (c.toNat - 48) = c.toNat by omega]; simp
  cases w with
  | nil =>
    rw [Lib.decDigits, dif_pos (by simp [dval]; omega)]
    simp [dval, ec]
  | cons d w =>
    have hd : (d :: w).head? ≠ some 48 := fun e => by
      have := h3 (by simpa using e)
      simp at this
    have hp := dval_pos (d :: w) h1.1 (by simp) hd
    rw [Lib.decDigits, dif_neg (by omega)]
    have e1 : (10 * dval (d :: w) + (c.toNat - 48)) / 10 = dval (d :: w) := by omega
    have e2 : (10 * dval (d :: w) + (c.toNat - 48)) % 10 = c.toNat - 48 := by omega
    rw [e1, e2, ih ⟨h1.1, by simp, fun e => absurd e hd⟩, ec]
theorem digit_of (n : Nat) (h : n < 10) : isDg (UInt8.ofNat (48 + n)) = true ∧ (UInt8.ofNat (48 + n)).toNat - 48 = n := by
  have : (UInt8.ofNat (48 + n)).toNat = 48 + n := by
    rw [UInt8.toNat_ofNat']
    omega
  unfold isDg
  rw [this]
  simp; omega
theorem val_digits : ∀ (m n : Nat), n ≤ m → dval (Lib.decDigits n) = n ∧ canon (Lib.decDigits n) ∧ (n ≠ 0 → (Lib.decDigits n).head? ≠ some 48) := by
  intro m
  induction m with
  | zero =>
    intro n hn
    obtain rfl : n = 0 := by omega
    rw [Lib.decDigits]
    exact ⟨rfl, ⟨rfl, by simp, fun _ => rfl⟩, fun h => absurd rfl h⟩
  | succ m ih =>
    intro n hn
    rw [Lib.decDigits]
    by_cases h : n < 10
    · rw [dif_pos h]
      obtain ⟨d1, d2⟩ := digit_of n h
      generalize UInt8.ofNat (48 + n) = c at *
      refine ⟨by simp [dval, d2], ⟨by simp [d1], by simp, fun _ => rfl⟩, fun h0 e => ?_⟩
      simp only [List.head?_cons, Option.some.injEq] at e
      rw [e] at d2
      exact h0 d2.symm
    · rw [dif_neg h]
      obtain ⟨i1, ⟨i2, i3, i4⟩, i5⟩ := ih (n / 10) (by omega)
      obtain ⟨d1, d2⟩ := digit_of (n % 10) (by omega)
      have hne : (Lib.decDigits (n / 10)).head? ≠ some 48 := i5 (by omega)
      have hh : (Lib.decDigits (n / 10) ++ [UInt8.ofNat (48 + n % 10)]).head? = (Lib.decDigits (n / 10)).head? := by
        cases e : Lib.decDigits (n / 10) with
        | nil => exact absurd e i3
        | cons a b => rfl
      generalize UInt8.ofNat (48 + n % 10) = c at *
      refine ⟨by rw [dval_snoc, i1, d2]; omega, ⟨by simp [i2, d1], by simp, fun e => ?_⟩, fun _ => ?_⟩
      · rw [hh] at e; exact absurd e hne
      · rw [hh]; exact hne
theorem digits_short : ∀ (k n : Nat), 1 ≤ k → n < 10 ^ k → (Lib.decDigits n).length ≤ k
  | 0, _, h, _ => by omega
  | k + 1, n, _, h => by
    rw [Lib.decDigits]
    split
    · simp
    · rename_i h'
      match k, h with
      | 0, h => simp at h; omega
      | k + 1, h =>
        have := digits_short (k + 1) (n / 10) (by omega) (by rw [Nat.pow_succ] at h; omega)
        simp only [List.length_append, List.length_singleton]
        omega
theorem digits_no32 (n : Nat) : 32 ∉ Lib.decDigits n := by
  intro h
  have := List.all_eq_true.1 (val_digits n n (Nat.le_refl _)).2.1.1 32 h
  simp [isDg] at this
end Go.OAI
