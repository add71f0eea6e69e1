/- PileText: the law in plain words. -/
import Derived.Test.YtfkdmflcildgbaaDoorPtx
namespace Go.OAI
set_option linter.unusedVariables false
noncomputable section

theorem Itoa_ok {n : Int} (h0 : 0 ≤ n) (h : n ≤ 1000000000) : lib_Itoa n = some (BA (dd n)) := by
  unfold lib_Itoa
  rw [decide_eq_true (by omega), decide_eq_true (by omega)]
  have : ¬ n < 0 := by omega
  simp [Lib.itoa, this, dd, BA]
theorem words_loop (L : List Int) (h : ∀ n ∈ L, 0 ≤ n ∧ n ≤ 1000000000) (hn : L.length ≤ 81) : ∀ i, i ≤ L.length → ∀ ws : List ByteArray, ws.length = i →
    impl_numbersText_l0 L (L.length : Int) (i : Int) ws = some (ws ++ (L.drop i).map fun n => BA (dd n)) := by
  refine down ?_ ?_
  · intro ws _
    rw [impl_numbersText_l0_eq]
    unfold impl_numbersText_l0K
    rw [lt_out (Nat.le_refl _), List.drop_length]
    simp
  · intro i hi ih ws hw
    have hx := h L[i] (List.getElem_mem hi)
    rw [impl_numbersText_l0_eq]
    unfold impl_numbersText_l0K
    rw [loop_step hi]
    simp only [Itoa_ok hx.1 hx.2, Option.bind_some, List.length_singleton]
    rw [decide_eq_true (by omega)]
    simp only [cond_true]
    rw [wr_succ hi (by omega), ih _ (by simp [hw]), drop_cons hi]
    simp only [List.map_cons, List.append_assoc, List.singleton_append]
theorem numbersText_ok (a : Int) (L : List Int) (h : ∀ n ∈ a :: L, 0 ≤ n ∧ n ≤ 1000000000) (hn : L.length ≤ 80) : impl_numbersText (a :: L) = some (BA (dd a ++ L.flatMap fun n => 32 :: dd n)) := by
  unfold impl_numbersText impl_numbersTextK
  have := words_loop (a :: L) h (by simp; omega) 0 (by omega) [] rfl
  simp only [Int.ofNat_zero, List.drop_zero, List.nil_append] at this
  rw [this]
  simp only [Option.bind_some, List.map_cons]
  have e : Lib.join ((BA (dd a) :: L.map fun n => BA (dd n)).map (·.data.toList)) (⟨#[32]⟩ : ByteArray).data.toList = dd a ++ L.flatMap fun n => 32 :: dd n := by
    have e2 : (⟨#[32]⟩ : ByteArray).data.toList = [32] := rfl
    rw [List.map_cons, Lib.join_cons, BA_data, e2]
    simp only [Lib.joinTail, List.map_map, List.flatMap_def]
    congr 2
  have hl : (dd a ++ L.flatMap fun n => 32 :: dd n).length ≤ 140737488355328 := by
    have h1 := dd_len (h a (by simp)).1 (h a (by simp)).2
    have h2 : ∀ M : List Int, (∀ n ∈ M, 0 ≤ n ∧ n ≤ 1000000000) → (M.flatMap fun n => 32 :: dd n).length ≤ 1000000002 * M.length := by
      intro M hM
      induction M with
      | nil => simp
      | cons m M ih =>
        have q := dd_len (hM m (by simp)).1 (hM m (by simp)).2
        have ih := ih fun n hn => hM n (by simp [hn])
        simp only [List.flatMap_cons, List.length_append, List.length_cons] at ih ⊢
        omega
    have h3 := h2 L fun n hn => h n (by simp [hn])
    rw [List.length_append]
    omega
  unfold lib_Join
  rw [e, decide_eq_true hl, decide_eq_true (by simp; omega)]
  rfl
theorem numbers_loop (L : List DLot) (hn : L.length ≤ 40) : ∀ i, i ≤ L.length → ∀ ns : List Int, ns.length = 1 + 2 * i →
    impl_PileText_l0 L (L.length : Int) (i : Int) ns = some (ns ++ (L.drop i).flatMap fun x => [x.1, x.2.1]) := by
  refine down ?_ ?_
  · intro ws _
    rw [impl_PileText_l0_eq]
    unfold impl_PileText_l0K
    rw [lt_out (Nat.le_refl _), List.drop_length]
    simp
  · intro i hi ih ws hw
    rw [impl_PileText_l0_eq]
    unfold impl_PileText_l0K
    rw [loop_step hi]
    simp only [Option.bind_some, List.length_cons, List.length_nil]
    rw [decide_eq_true (by omega)]
    simp only [cond_true]
    rw [wr_succ hi (by omega), ih _ (by simp [hw]; omega), drop_cons hi]
    simp only [List.flatMap_cons, List.append_assoc]
theorem impl_PileText_ok (p : DPile) (h : pileB p = true) : impl_PileText p = some (BA (txP p), true) := by
  obtain ⟨b, c, l, ⟨⟩⟩ := p
  have hp := h
  obtain ⟨g1, g2, g3, g4, g5, g6⟩ := pileB_spec h
  dsimp only at *
  have hl := numbers_loop l g4 0 (by omega) [c] rfl
  rw [show ((0 : Nat) : Int) = 0 from rfl, List.drop_zero, List.singleton_append] at hl
  have hx : ∀ n ∈ c :: l.flatMap (fun x => [x.1, x.2.1]), 0 ≤ n ∧ n ≤ 1000000000 := by
    intro n hn
    rcases List.mem_cons.1 hn with rfl | hn
    · omega
    · obtain ⟨x, hx, hn⟩ := List.mem_flatMap.1 hn
      have := lotB_spec (List.all_eq_true.1 g1 x hx)
      simp only [List.mem_cons, List.mem_nil_iff, or_false] at hn
      rcases hn with rfl | rfl <;> omega
  have hlen : (l.flatMap fun x => [x.1, x.2.1]).length = 2 * l.length := by
    clear hl hx hp h g1 g4 g5 g6
    induction l with
    | nil => rfl
    | cons x l ih => simp only [List.flatMap_cons, List.length_append, ih, List.length_cons, List.length_nil]; omega
  have hnt := numbersText_ok c (l.flatMap fun x => [x.1, x.2.1]) hx (by omega)
  have ht : (dd c ++ (l.flatMap fun x => [x.1, x.2.1]).flatMap fun n => 32 :: dd n) = dd c ++ txL l := by
    congr 1
    unfold txL
    rw [List.flatMap_assoc]
    congr 1
    funext x
    simp
  rw [ht] at hnt
  have hsz : (dd c ++ txL l).length ≤ 9000000000000000000 := by
    have q := dd_len (n := c) (by omega) (by omega)
    have : ∀ M : List DLot, M.all lotB = true → (txL M).length ≤ 2000000004 * M.length := by
      intro M hM
      induction M with
      | nil => simp [txL]
      | cons m M ih =>
        simp only [List.all_cons, Bool.and_eq_true] at hM
        have hm := lotB_spec hM.1
        have q1 := dd_len (n := m.1) (by omega) (by omega)
        have q2 := dd_len (n := m.2.1) (by omega) (by omega)
        have ih := ih hM.2
        simp only [txL, List.flatMap_cons, List.length_append, List.length_cons] at ih ⊢
        omega
    have := this l g1
    rw [List.length_append]; omega
  have em : (⟨#[109, 105, 120, 101, 100]⟩ : ByteArray) = BA [109, 105, 120, 101, 100] := rfl
  have eo : (⟨#[111, 114, 100, 101, 114]⟩ : ByteArray) = BA [111, 114, 100, 101, 114] := rfl
  have e32 : (⟨#[32]⟩ : ByteArray) = BA [32] := rfl
  unfold impl_PileText impl_PileTextK
  rw [IsPile_ok, h]
  cases b <;> simp only [Option.bind_some, Bool.not_true, cond_false, cond_true, hl, hnt, em, eo, e32, BA_app, BA_size] <;>
    rw [decide_eq_true (by simp only [List.length_append, List.length_cons, List.length_nil] at hsz ⊢; omega), decide_eq_true (by simp only [List.length_append, List.length_cons, List.length_nil] at hsz ⊢; omega)] <;> simp [txP]
end
end Go.OAI
