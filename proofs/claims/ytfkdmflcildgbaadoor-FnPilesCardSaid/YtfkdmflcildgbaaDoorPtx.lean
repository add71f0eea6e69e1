/- Texts: decimal numbers; the text of a pile. -/
import Derived.Test.YtfkdmflcildgbaaDoorPa
import Derived.Lib.ItoaNum
namespace Go.OAI
set_option linter.unusedVariables false
noncomputable section

/-- A text out of its bytes. -/
def BA (l : List UInt8) : ByteArray := ⟨l.toArray⟩
theorem BA_size (l : List UInt8) : (BA l).size = l.length := by simp [BA, ByteArray.size]
theorem BA_data (l : List UInt8) : (BA l).data.toList = l := by simp [BA]
theorem BA_of (s : ByteArray) : BA s.data.toList = s := by cases s; simp [BA]
theorem BA_app (a b : List UInt8) : BA a ++ BA b = BA (a ++ b) := by
  apply ByteArray.ext
  simp [BA, ByteArray.data_append]
theorem eqS_refl (s : ByteArray) : eqS s s = true := by simp [eqS]
/-- The decimal digits of a number. -/
def dd (n : Int) : List UInt8 := Lib.decDigits n.toNat
theorem digits_le : ∀ (m n : Nat), n ≤ m → (Lib.decDigits n).length ≤ n + 1
  | 0, n, h => by
    obtain rfl : n = 0 := by omega
    rw [Lib.decDigits]; simp
  | m + 1, n, h => by
    rw [Lib.decDigits]
    split
    · simp
    · have := digits_le m (n / 10) (by omega)
      simp only [List.length_append, List.length_singleton]
      omega
theorem dd_len {n : Int} (h0 : 0 ≤ n) (h : n ≤ 1000000000) : (dd n).length ≤ 1000000001 := by
  have := digits_le n.toNat n.toNat (Nat.le_refl _)
  unfold dd; omega
theorem digit_byte (n : Nat) (h : n < 10) : strOfNums [IntKind.u8.wrap (IntKind.i64.wrap (48 + (n : Int)))] = BA [UInt8.ofNat (48 + n)] := by
  have h1 : IntKind.i64.wrap (48 + (n : Int)) = 48 + n := wr (by omega) (by omega)
  have h2 : IntKind.u8.wrap (48 + (n : Int)) = 48 + n := by
    unfold IntKind.wrap
    simp [IntKind.bits, IntKind.signed]
    omega
  rw [h1, h2]
  have h3 : (48 + (n : Int)).toNat = 48 + n := by omega
  simp [strOfNums, BA, h3]
theorem l1Num_nat : ∀ (m n : Nat), n ≤ m → n ≤ 1000000000 → spec_l1Num (n : Int) = some (BA (Lib.decDigits n))
  | m, n, hm, hn => by
    rw [spec_l1Num_eq, Lib.decDigits]
    unfold spec_l1NumK
    by_cases h : n < 10
    · have h1 : ((n : Int) < 10) := by omega
      simp only [h1, h, decide_true, cond_true, dif_pos, digit_byte n h, Option.bind_some]
    · have h1 : ¬ ((n : Int) < 10) := by omega
      have e1 : IntKind.i64.wrap ((n : Int).tdiv 10) = ((n / 10 : Nat) : Int) := by
        rw [Int.tdiv_eq_ediv_of_nonneg (by omega)]
        rw [wr (by omega) (by omega)]; omega
      have e2 : (n : Int).tmod 10 = ((n % 10 : Nat) : Int) := by
        rw [Int.tmod_eq_emod_of_nonneg (by omega)]; omega
      match m, hm with
      | 0, hm => omega
      | m + 1, hm =>
        have ih := l1Num_nat m (n / 10) (by omega) (by omega)
        have hl := digits_le (n / 10) (n / 10) (Nat.le_refl _)
        simp only [h1, h, decide_false, cond_false, dif_neg, e1, e2, ih, digit_byte (n % 10) (by omega), Option.bind_some, BA_size, BA_app, not_false_eq_true]
        rw [decide_eq_true (by simp only [List.length_singleton]; omega)]
        rfl
theorem l1Num_ok {n : Int} (h0 : 0 ≤ n) (h : n ≤ 1000000000) : spec_l1Num n = some (BA (dd n)) := by
  have := l1Num_nat n.toNat n.toNat (Nat.le_refl _) (by omega)
  rw [Int.toNat_of_nonneg h0] at this
  exact this

/-- The text of lots; of a pile. -/
def txL (l : List DLot) : List UInt8 := l.flatMap fun x => (32 :: dd x.1) ++ (32 :: dd x.2.1)
def txP (p : DPile) : List UInt8 := (if p.1 then [109, 105, 120, 101, 100, 32] else [111, 114, 100, 101, 114, 32]) ++ (dd p.2.1 ++ txL p.2.2.1)
theorem spText_loop (L : List DLot) (h : L.all lotB = true) (hn : L.length ≤ 40) : ∀ i, i ≤ L.length → ∀ t : List UInt8, t.length ≤ 10000000000 + 2000000004 * i →
    spec_spText_l0 L (L.length : Int) (BA t) (i : Int) = some (BA (t ++ txL (L.drop i))) := by
  refine down ?_ ?_
  · intro t _
    rw [spec_spText_l0_eq]
    unfold spec_spText_l0K
    rw [lt_out (Nat.le_refl _), List.drop_length]
    simp [txL]
  · intro i hi ih t ht
    have hx := lotB_spec (List.all_eq_true.1 h L[i] (List.getElem_mem hi))
    rw [spec_spText_l0_eq]
    unfold spec_spText_l0K
    rw [loop_step hi]
    have q1 := dd_len (n := L[i].1) (by omega) (by omega)
    have q2 := dd_len (n := L[i].2.1) (by omega) (by omega)
    have e32 : (⟨#[32]⟩ : ByteArray) = BA [32] := rfl
    simp only [l1Num_ok (n := L[i].1) (by omega) (by omega), l1Num_ok (n := L[i].2.1) (by omega) (by omega), Option.bind_some, e32, BA_app, BA_size, List.length_append, List.length_singleton]
    rw [decide_eq_true (by omega), decide_eq_true (by omega), decide_eq_true (by omega), decide_eq_true (by omega)]
    simp only [cond_true]
    rw [wr_succ hi (by omega), ih _ (by simp only [List.length_append, List.length_singleton]; omega), drop_cons hi]
    simp only [txL, List.flatMap_cons, List.append_assoc, List.cons_append, List.nil_append]
theorem spText_ok (p : DPile) (h : pileB p = true) : spec_spText p = some (BA (txP p)) := by
  obtain ⟨b, c, l, ⟨⟩⟩ := p
  obtain ⟨g1, g2, g3, g4, g5, g6⟩ := pileB_spec h
  dsimp only at *
  have q := dd_len (n := c) (by omega) (by omega)
  unfold spec_spText spec_spTextK
  have em : (⟨#[109, 105, 120, 101, 100, 32]⟩ : ByteArray) = BA [109, 105, 120, 101, 100, 32] := rfl
  have eo : (⟨#[111, 114, 100, 101, 114, 32]⟩ : ByteArray) = BA [111, 114, 100, 101, 114, 32] := rfl
  simp only [l1Num_ok g2 (by omega : c ≤ 1000000000), Option.bind_some, em, eo, BA_size, BA_app]
  rw [decide_eq_true (by simp; omega), decide_eq_true (by simp; omega)]
  have key : ∀ t : List UInt8, t.length = 6 → spec_spText_l0 l (l.length : Int) (BA (t ++ dd c)) 0 = some (BA (t ++ (dd c ++ txL l))) := fun t ht => by
    have := spText_loop l g1 g4 0 (by omega) (t ++ dd c) (by simp [ht]; omega)
    simpa using this
  cases b with
  | false => have := key [111, 114, 100, 101, 114, 32] rfl; simpa [txP] using this
  | true => have := key [109, 105, 120, 101, 100, 32] rfl; simpa [txP] using this
end
end Go.OAI
