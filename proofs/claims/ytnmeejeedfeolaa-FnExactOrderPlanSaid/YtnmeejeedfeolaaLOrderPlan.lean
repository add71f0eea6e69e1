/- OrderPlan: the law in plain words. -/
import Derived.Test.YtnmeejeedfeolaaPfi
import Derived.Test.YtnmeejeedfeolaaGOrderPlan
namespace Go.OAI
set_option linter.unusedVariables false
noncomputable section

theorem l1Has_ok (l : List Int) (x : Int) (hl : l.length ≤ 1099511627776) : spec_l1Has l x = some (decide (x ∈ l)) := by
  have h1 : spec_l1Has_l0 x l (l.length : Int) 0 = some (if l.all (fun y => !(y == x)) then .inr () else .inl true) := by
    refine allL_loop (f := fun k => spec_l1Has_l0 x l (l.length : Int) k) ?_ fun k hk => ?_
    · show spec_l1Has_l0 _ _ _ _ = _
      rw [spec_l1Has_l0_eq]; unfold spec_l1Has_l0K
      rw [lt_out (Nat.le_refl _)]
    · show spec_l1Has_l0 _ _ _ _ = _
      rw [spec_l1Has_l0_eq]; unfold spec_l1Has_l0K
      rw [loop_step hk, wr_succ hk (by omega)]
      cases (l[k] == x) <;> simp
  unfold spec_l1Has spec_l1HasK
  rw [h1]
  by_cases c : x ∈ l
  · have : l.all (fun y => !(y == x)) = false := by
      rw [← Bool.not_eq_true, List.all_eq_true]
      intro h
      have := h x c
      simp at this
    simp [this, c, sumO]
  · have : l.all (fun y => !(y == x)) = true := by
      rw [List.all_eq_true]
      intro y hy
      have : y ≠ x := fun e => c (e ▸ hy)
      simp [this]
    simp [this, c, sumO]
theorem pigeon : ∀ (n : Nat) (L : List Int), L.Nodup → (∀ x ∈ L, 0 ≤ x ∧ x < (n : Int)) → L.length ≤ n
  | 0, [], _, _ => Nat.le_refl _
  | 0, x :: L, _, h => by have := h x (List.mem_cons_self ..); omega
  | n + 1, L, hd, h => by
    have ih := pigeon n (L.erase (n : Int)) (hd.erase _) fun x hx => by
      have h1 := (hd.mem_erase_iff).1 hx
      have h2 := h x h1.2
      have h3 := h1.1
      omega
    rw [List.length_erase] at ih
    split at ih <;> omega
/-- No block is told twice. -/
def fresh (L : List Int) (i : Nat) : Prop := ∀ k (h : k < L.length), i ≤ k → L[k] ∉ L.take k
theorem fresh_nodup {L : List Int} (h : fresh L 0) : L.Nodup := by
  unfold List.Nodup
  rw [List.pairwise_iff_getElem]
  intro i k hi hk hik e
  refine h k hk (Nat.zero_le _) ?_
  rw [← e]
  exact List.mem_take_iff_getElem.2 ⟨i, by omega, rfl⟩
theorem take_mem {L : List Int} {i k : Nat} (hi : i < L.length) (hik : i < k) : L[i] ∈ L.take k :=
  List.mem_take_iff_getElem.2 ⟨i, by omega, rfl⟩
theorem placed (j : DJob) (c : Int) (w : List Int) (b : Nat) (hb : b < w.length) (hw : 0 ≤ w.getD b 0) (t : Int) :
    spec_OrderPlan_l1 (b : Int) j.1 j.2.1 j.2.2.1 j.2.2.2.1.1 j.2.2.2.1.2.1 j.2.2.2.2.1 j.2.2.2.2.2.1 j.2.2.2.2.2.2.1 c t w = some w := by
  rw [spec_OrderPlan_l1_eq]; unfold spec_OrderPlan_l1K
  have hg : w.getD b 0 = w[b] := by simp [hb]
  rw [hg] at hw
  have c2 : ¬ w[b] < 0 := by omega
  rw [ck_in hb, getD_nat hb]
  simp only [c2, decide_false, cond_false]
  cases decide (t < j.2.2.2.2.1) <;> rfl
theorem place_both (j : DJob) (s : JobSm j) (J : JobOk j) (c : Int) (w : List Int) (Q : PlanOk j (c, w, ())) (b : Nat) (hb : b < w.length) (hn : w.getD b 0 < 0) : ∀ t, t ≤ j.2.2.2.2.1.toNat → ∃ w',
    impl_OrderPlan_l2 (b : Int) j.1 j.2.1 j.2.2.1 j.2.2.2.1.1 j.2.2.2.1.2.1 j.2.2.2.2.1 j.2.2.2.2.2.1 j.2.2.2.2.2.2.1 c w (t : Int) = some w' ∧ spec_OrderPlan_l1 (b : Int) j.1 j.2.1 j.2.2.1 j.2.2.2.1.1 j.2.2.2.1.2.1 j.2.2.2.2.1 j.2.2.2.2.2.1 j.2.2.2.2.2.2.1 c (t : Int) w = some w' ∧ PlanOk j (c, w', ()) ∧ w'.length = w.length ∧ ∀ m, m ≠ b → w'.getD m 0 = w.getD m 0 := by
  have hlen : w.length = j.1.length := Q.len
  have hper := J.per
  have hg : w.getD b 0 = w[b] := by simp [hb]
  have hn2 : w[b] < 0 := by rw [← hg]; exact hn
  refine down ?_ fun t ht ih => ?_
  · rw [impl_OrderPlan_l2_eq, spec_OrderPlan_l1_eq]; unfold impl_OrderPlan_l2K spec_OrderPlan_l1K
    have c1 : ¬ ((j.2.2.2.2.1.toNat : Nat) : Int) < j.2.2.2.2.1 := by omega
    simp only [c1, decide_false, cond_false]
    exact ⟨w, rfl, rfl, Q, rfl, fun _ _ => rfl⟩
  · have c1 : (t : Int) < j.2.2.2.2.1 := by omega
    have f1 := fitsIn_ok j s J c w [(b : Int)] t Q (by simp) (by simp; omega) ht
    have f2 := wiOpen_ok j s J c w b (t : Int) (by omega) hlen
    have f3 := wiRoom_ok j s J c w [(b : Int)] t Q (by simp) (by simp; omega) ht
    rw [fit_one j J w b (t : Int) (by omega) hlen hn (by omega)] at f1
    have e : (0 : Nat) + ((b : Int)).toNat = b := by omega
    rw [impl_OrderPlan_l2_eq, spec_OrderPlan_l1_eq]; unfold impl_OrderPlan_l2K spec_OrderPlan_l1K
    rw [jobEta, ck_in hb, ck_in hb, ck_in hb, getD_nat hb, wr_succ ht (by omega)]
    simp only [c1, hn2, decide_true, cond_true, f1, f2, f3, Option.bind_some]
    cases openB j w (b : Int) (t : Int) with
    | false => exact ih
    | true =>
      cases roomB j w (t : Int) [(b : Int)] with
      | false => exact ih
      | true =>
        simp only [Bool.and_self, cond_true]
        rw [e]
        have hb' : b < (w.set b (t : Int)).length := by simp; exact hb
        rw [placed j c (w.set b (t : Int)) b hb' (by simp [hb]) ((t + 1 : Nat) : Int)]
        refine ⟨w.set b (t : Int), rfl, rfl, Q.set (p := (c, w, ())) (i := b) (by omega) c1, by simp, fun m hm => ?_⟩
        have : b ≠ m := fun e => hm e.symm
        simp [this]
theorem place_any (j : DJob) (s : JobSm j) (J : JobOk j) (c : Int) (w : List Int) (Q : PlanOk j (c, w, ())) (b : Nat) (hb : b < w.length) : ∃ w',
    spec_OrderPlan_l1 (b : Int) j.1 j.2.1 j.2.2.1 j.2.2.2.1.1 j.2.2.2.1.2.1 j.2.2.2.2.1 j.2.2.2.2.2.1 j.2.2.2.2.2.2.1 c 0 w = some w' ∧ PlanOk j (c, w', ()) := by
  by_cases h : w.getD b 0 < 0
  · obtain ⟨w', g1, g2, g3, g4, g5⟩ := place_both j s J c w Q b hb h 0 (Nat.zero_le _)
    exact ⟨w', g2, g3⟩
  · exact ⟨w, placed j c w b hb (by omega) 0, Q⟩
theorem order_fresh (j : DJob) (s : JobSm j) (J : JobOk j) (c : Int) (L : List Int) (hL : L.length ≤ 1048576) (hr : ∀ b ∈ L, 0 ≤ b ∧ b < (j.1.length : Int)) (hf : fresh L 0) : ∀ i, i ≤ L.length → ∀ w : List Int, PlanOk j (c, w, ()) →
    (∀ k (h : k < L.length), i ≤ k → w.getD L[k].toNat 0 < 0) → ∃ w',
      impl_OrderPlan_l1 L (L.length : Int) j.1 j.2.1 j.2.2.1 j.2.2.2.1.1 j.2.2.2.1.2.1 j.2.2.2.2.1 j.2.2.2.2.2.1 j.2.2.2.2.2.2.1 c (i : Int) w = some w' ∧ spec_OrderPlan_l0 L (L.length : Int) j.1 j.2.1 j.2.2.1 j.2.2.2.1.1 j.2.2.2.1.2.1 j.2.2.2.2.1 j.2.2.2.2.2.1 j.2.2.2.2.2.2.1 c (i : Int) w (L.take i) = some (.inr w') ∧ w'.length ≤ 1048576 := by
  have hn2 := J.n2
  refine down (fun w Q hw => ?_) fun i hi ih w Q hw => ?_
  · have hlen : w.length = j.1.length := Q.len
    rw [impl_OrderPlan_l1_eq, spec_OrderPlan_l0_eq]; unfold impl_OrderPlan_l1K spec_OrderPlan_l0K
    rw [lt_out (Nat.le_refl _), lt_out (Nat.le_refl _)]
    exact ⟨w, rfl, rfl, by omega⟩
  · have hlen : w.length = j.1.length := Q.len
    have hx := hr _ (List.getElem_mem hi)
    obtain ⟨b, hb⟩ := Int.eq_ofNat_of_zero_le hx.1
    have hbl : b < w.length := by omega
    have hwi := hw i hi (Nat.le_refl _)
    have hbt : L[i].toNat = b := by omega
    rw [hbt] at hwi
    obtain ⟨w1, g1, g2, g3, g4, g5⟩ := place_both j s J c w Q b hbl hwi 0 (Nat.zero_le _)
    have g1 : impl_OrderPlan_l2 (b : Int) j.1 j.2.1 j.2.2.1 j.2.2.2.1.1 j.2.2.2.1.2.1 j.2.2.2.2.1 j.2.2.2.2.2.1 j.2.2.2.2.2.2.1 c w 0 = some w1 := g1
    have g2 : spec_OrderPlan_l1 (b : Int) j.1 j.2.1 j.2.2.1 j.2.2.2.1.1 j.2.2.2.1.2.1 j.2.2.2.2.1 j.2.2.2.2.2.1 j.2.2.2.2.2.2.1 c 0 w = some w1 := g2
    have nf := hf i hi (Nat.zero_le _)
    have tl : (L.take i).length ≤ 1048576 := by rw [List.length_take]; omega
    have hcap : (L.take i).length + [L[i]].length ≤ 1099511627776 := by simp only [List.length_singleton]; omega
    rw [impl_OrderPlan_l1_eq, spec_OrderPlan_l0_eq]; unfold impl_OrderPlan_l1K spec_OrderPlan_l0K
    rw [loop_step hi, loop_step hi, wr_succ hi (by omega), l1Has_ok _ _ (by omega)]
    simp only [nf, decide_false, Option.bind_some, cond_false, hcap, decide_true, cond_true]
    rw [hb]
    simp only [g1, g2, Option.bind_some]
    rw [← hb, ← List.take_succ_eq_append_getElem hi]
    refine ih w1 g3 fun k hk hik => ?_
    have hne : L[k].toNat ≠ b := fun e => by
      have hk2 := hr _ (List.getElem_mem hk)
      have : L[k] = L[i] := by omega
      refine hf k hk (Nat.zero_le _) ?_
      rw [this]; exact take_mem hi (by omega)
    rw [g5 _ hne]; exact hw k hk (by omega)
theorem order_dup (j : DJob) (s : JobSm j) (J : JobOk j) (c : Int) (L : List Int) (hL : L.length ≤ 1048576) (hr : ∀ b ∈ L, 0 ≤ b ∧ b < (j.1.length : Int)) : ∀ i, i ≤ L.length → ∀ w : List Int, PlanOk j (c, w, ()) →
    ¬ fresh L i → spec_OrderPlan_l0 L (L.length : Int) j.1 j.2.1 j.2.2.1 j.2.2.2.1.1 j.2.2.2.1.2.1 j.2.2.2.2.1 j.2.2.2.2.2.1 j.2.2.2.2.2.2.1 c (i : Int) w (L.take i) = some (.inl (false, 0)) := by
  refine down (fun w Q hf => ?_) fun i hi ih w Q hf => ?_
  · exact absurd (fun k hk h => by omega) hf
  · have hlen : w.length = j.1.length := Q.len
    have hx := hr _ (List.getElem_mem hi)
    obtain ⟨b, hb⟩ := Int.eq_ofNat_of_zero_le hx.1
    obtain ⟨w1, g2, g3⟩ := place_any j s J c w Q b (by omega)
    have tl : (L.take i).length ≤ 1048576 := by rw [List.length_take]; omega
    have hcap : (L.take i).length + [L[i]].length ≤ 1099511627776 := by simp only [List.length_singleton]; omega
    rw [spec_OrderPlan_l0_eq]; unfold spec_OrderPlan_l0K
    rw [loop_step hi, wr_succ hi (by omega), l1Has_ok _ _ (by omega)]
    by_cases nf : L[i] ∈ L.take i
    · simp only [nf, decide_true, Option.bind_some, cond_true]
    · simp only [nf, decide_false, Option.bind_some, cond_false, hcap, decide_true, cond_true]
      rw [hb]
      simp only [g2, Option.bind_some]
      rw [← hb, ← List.take_succ_eq_append_getElem hi]
      refine ih w1 g3 fun h => hf fun k hk hik => ?_
      by_cases e : k = i
      · subst e; exact nf
      · exact h k hk (by omega)
theorem marks_loop (L : List Int) (hL : L.length ≤ 1048576) (n : Nat) (hn : n ≤ 1048576) : ∀ i, i ≤ L.length → ∀ M : List Bool, M.length = n → (∀ b : Nat, b < n → M.getD b false = decide ((b : Int) ∈ L.take i)) →
    ((∀ k (h : k < L.length), i ≤ k → (0 ≤ L[k] ∧ L[k] < (n : Int)) ∧ L[k] ∉ L.take k) → impl_OrderPlan_l0 L (L.length : Int) (i : Int) M = some (.inr ())) ∧
    (¬ (∀ k (h : k < L.length), i ≤ k → (0 ≤ L[k] ∧ L[k] < (n : Int)) ∧ L[k] ∉ L.take k) → impl_OrderPlan_l0 L (L.length : Int) (i : Int) M = some (.inl (false, 0))) := by
  refine down (fun M hM hm => ?_) fun i hi ih M hM hm => ?_
  · refine ⟨fun _ => ?_, fun h => absurd (fun k hk h => by omega) h⟩
    rw [impl_OrderPlan_l0_eq]; unfold impl_OrderPlan_l0K
    rw [lt_out (Nat.le_refl _)]
  · rw [impl_OrderPlan_l0_eq]; unfold impl_OrderPlan_l0K
    rw [loop_step hi, wr_succ hi (by omega)]
    by_cases c1 : L[i] < 0
    · simp only [c1, decide_true, cond_true]
      exact ⟨fun h => by have := (h i hi (Nat.le_refl _)).1; omega, fun _ => by trivial⟩
    by_cases c2 : L[i] ≥ (M.length : Int)
    · simp only [c1, c2, decide_true, decide_false, cond_true, cond_false]
      exact ⟨fun h => by have := (h i hi (Nat.le_refl _)).1; omega, fun _ => by trivial⟩
    obtain ⟨b, hb⟩ := Int.eq_ofNat_of_zero_le (Int.not_lt.1 c1)
    have hbl : b < M.length := by omega
    have e : (0 : Nat) + ((b : Int)).toNat = b := by omega
    simp only [c1, c2, decide_false, cond_false]
    rw [hb, ck_in hbl, ck_in hbl, e, hm b (by omega), ← hb]
    by_cases nf : L[i] ∈ L.take i
    · simp only [nf, decide_true, cond_true]
      exact ⟨fun h => absurd nf (h i hi (Nat.le_refl _)).2, fun _ => by trivial⟩
    · simp only [nf, decide_false, cond_false, Option.bind_some]
      have ih' := ih (M.set b true) (by simp [hM]) fun x hx => by
        rw [List.take_succ_eq_append_getElem hi]
        by_cases ex : x = b
        · subst ex
          have : x < M.length := hbl
          simp [this, hb]
        · have ex' : b ≠ x := fun e => ex e.symm
          have e1 : (M.set b true).getD x false = M.getD x false := by simp [ex']
          rw [e1, hm x hx]
          have ne : ¬ (x : Int) = L[i] := by omega
          simp only [List.mem_append, List.mem_singleton, ne, or_false]
      have key : (∀ k (h : k < L.length), i ≤ k → (0 ≤ L[k] ∧ L[k] < (n : Int)) ∧ L[k] ∉ L.take k) ↔ (∀ k (h : k < L.length), i + 1 ≤ k → (0 ≤ L[k] ∧ L[k] < (n : Int)) ∧ L[k] ∉ L.take k) := by
        refine ⟨fun h k hk hik => h k hk (by omega), fun h k hk hik => ?_⟩
        by_cases ek : k = i
        · subst ek; exact ⟨⟨by omega, by omega⟩, nf⟩
        · exact h k hk (by omega)
      rw [key]
      exact ih'
theorem OrderPlan_law (x0 : DJob) (x1 : List Int) (w0 : TJob.wf x0) (w1 : (Ty.slice (.int .i64)).wf x1) : laws_FnExactOrderPlan x0 x1 = some true := by
  unfold laws_FnExactOrderPlan laws_FnExactOrderPlanK
  by_cases hb : (x1.length : Int) > 1048576
  · simp [hb]
  have hl : x1.length ≤ 1048576 := by omega
  simp only [hb, decide_false, cond_false]
  refine job_head x0 w0 fun s y1 hy0 hy1 => ?_
  obtain ⟨v, h1, h2, h3⟩ : ∃ v, impl_OrderPlan x0 x1 = some v ∧ spec_OrderPlan x0 x1 = some v ∧ v.1.2.length ≤ 1048576 := by
    unfold impl_OrderPlan impl_OrderPlanK spec_OrderPlan spec_OrderPlanK
    rw [IsJob_ok x0 s, plJob_ok x0 s, l1All_ok _ _ _ (by omega)]
    cases hk : jobB x0 with
    | false => exact ⟨_, rfl, rfl, by simp⟩
    | true =>
      have J := jobB_spec hk
      have hn2 := J.n2
      have Q0 := emptyOk x0 J
      obtain ⟨e1, e2⟩ := emptyPlan_ok x0 J
      rw [wr (n := (x0.1.length : Int) - 1) (by omega) (by omega)]
      simp only [Bool.not_true, cond_false, Option.bind_some, e1, e2]
      have hml := marks_loop x1 hl x0.1.length (by omega) 0 (Nat.zero_le _) (List.replicate x0.1.length false) (by simp) (fun b hb => by simp [hb])
      have hm0 : ∀ r, impl_OrderPlan_l0 x1 (x1.length : Int) ((0 : Nat) : Int) (List.replicate x0.1.length false) = some r → impl_OrderPlan_l0 x1 (x1.length : Int) 0 (List.replicate x0.1.length false) = some r := fun _ h => h
      rw [cap_ok (by omega)]
      simp only [Option.bind_some, Int.toNat_natCast]
      by_cases hr : ∀ b ∈ x1, 0 ≤ b ∧ b < (x0.1.length : Int)
      · have hr2 : inB 0 ((x0.1.length : Int) - 1) x1 = true := by
          unfold inB
          rw [List.all_eq_true]
          intro b hb
          have := hr b hb
          simp; omega
        simp only [hr2, Bool.not_true, cond_false]
        by_cases hf : fresh x1 0
        · have hp := pigeon x0.1.length x1 (fresh_nodup hf) hr
          have c1 : ¬ (x1.length : Int) > (x0.1.length : Int) := by omega
          obtain ⟨w', g1, g2, g3⟩ := order_fresh x0 s J x0.2.2.2.2.1 x1 hl hr hf 0 (Nat.zero_le _) _ Q0 fun k hk _ => by
            have := hr _ (List.getElem_mem hk)
            have : x1[k].toNat < x0.1.length := by omega
            simp [this]
          have g1 : impl_OrderPlan_l1 x1 (x1.length : Int) x0.1 x0.2.1 x0.2.2.1 x0.2.2.2.1.1 x0.2.2.2.1.2.1 x0.2.2.2.2.1 x0.2.2.2.2.2.1 x0.2.2.2.2.2.2.1 x0.2.2.2.2.1 0 (List.replicate x0.1.length (-1)) = some w' := g1
          have g2 : spec_OrderPlan_l0 x1 (x1.length : Int) x0.1 x0.2.1 x0.2.2.1 x0.2.2.2.1.1 x0.2.2.2.1.2.1 x0.2.2.2.2.1 x0.2.2.2.2.2.1 x0.2.2.2.2.2.2.1 x0.2.2.2.2.1 0 (List.replicate x0.1.length (-1)) [] = some (.inr w') := g2
          have m1 := hm0 _ (hml.1 fun k hk hik => ⟨hr _ (List.getElem_mem hk), hf k hk hik⟩)
          simp only [c1, decide_false, cond_false, m1, g1, g2, Option.bind_some, sumO]
          exact ⟨_, rfl, rfl, g3⟩
        · have g2 := order_dup x0 s J x0.2.2.2.2.1 x1 hl hr 0 (Nat.zero_le _) _ Q0 hf
          have g2 : spec_OrderPlan_l0 x1 (x1.length : Int) x0.1 x0.2.1 x0.2.2.1 x0.2.2.2.1.1 x0.2.2.2.1.2.1 x0.2.2.2.2.1 x0.2.2.2.2.2.1 x0.2.2.2.2.2.2.1 x0.2.2.2.2.1 0 (List.replicate x0.1.length (-1)) [] = some (.inl (false, 0)) := g2
          have m1 := hm0 _ (hml.2 fun h => hf fun k hk hik => (h k hk hik).2)
          simp only [m1, g2, Option.bind_some, sumO]
          by_cases c1 : (x1.length : Int) > (x0.1.length : Int)
          · simp only [c1, decide_true, cond_true]
            exact ⟨_, rfl, rfl, by simp⟩
          · simp only [c1, decide_false, cond_false]
            exact ⟨_, rfl, rfl, by simp⟩
      · have hr2 : inB 0 ((x0.1.length : Int) - 1) x1 = false := by
          rw [← Bool.not_eq_true]
          intro h
          refine hr fun b hb => ?_
          have := inB_spec h b hb
          omega
        have m1 := hm0 _ (hml.2 fun h => hr fun b hb => by
          obtain ⟨k, hk, rfl⟩ := List.getElem_of_mem hb
          exact (h k hk (Nat.zero_le _)).1)
        simp only [hr2, Bool.not_false, cond_true, m1, Option.bind_some, sumO]
        by_cases c1 : (x1.length : Int) > (x0.1.length : Int)
        · simp only [c1, decide_true, cond_true]
          exact ⟨_, rfl, rfl, by simp⟩
        · simp only [c1, decide_false, cond_false]
          exact ⟨_, rfl, rfl, by simp⟩
  obtain ⟨⟨c, w⟩, ok⟩ := v
  dsimp only at h3
  obtain ⟨k', m1, m2, m3⟩ := markJob_ok x0 s 1 (by omega) (by omega)
  obtain ⟨l', n1, n2, n3⟩ := markIntS_ok x1 (by omega) k' (by omega) (by omega)
  obtain ⟨l2, o1, o2, o3⟩ := markPlan_ok c w h3 1 (by omega) (by omega)
  have c1 : ¬ k' + (x1.length : Int) < 0 := by omega
  have c2 : ¬ 1 + (w.length : Int) < 0 := by omega
  have er := eqPlan_refl (c, w, ()) h3
  simp only [toJob_ok x0 s, toIntS_ok x1 (by omega), Option.bind_some, jobEta, planEta, h1, h2, er, eqJob_refl x0 s, eqIntS_refl x1 (by omega), m1, n1, o1, o3, c1, c2]
  simp
end
end Go.OAI
