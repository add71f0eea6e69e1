/- Tonnes a period. -/
import Derived.Test.YtokaffjipngphaaPw
import Derived.Test.YtokaffjipngphaaGT
namespace Go.OAI
set_option linter.unusedVariables false
noncomputable section

/-- Tonnes and good tonnes of the blocks that are mined in period t. -/
def ton : List (Int × Int × Int) → Int → Int × Int
  | [], _ => (0, 0)
  | (w, x, v) :: r, t => if w = t then (x + (ton r t).1, (if v > 0 then x else 0) + (ton r t).2) else ton r t
def zip3 (w x v : List Int) : List (Int × Int × Int) := w.zip (x.zip v)
def tab (n : Nat) (f : Nat → Int × Int) : List (List Int) := (List.range n).map fun t => [(f t).1, (f t).2]
theorem tab_len (n : Nat) (f : Nat → Int × Int) : (tab n f).length = n := by simp [tab]
theorem tab_get {n : Nat} {f : Nat → Int × Int} {t : Nat} (h : t < n) : (tab n f).getD (0 + ((t : Nat) : Int).toNat) [] = [(f t).1, (f t).2] := by
  simp [tab, h]
theorem tab_set {n : Nat} {f g : Nat → Int × Int} {t : Nat} (hg : ∀ k, k ≠ t → g k = f k) : (tab n f).set (0 + ((t : Nat) : Int).toNat) [(g t).1, (g t).2] = tab n g := by
  refine List.ext_getElem (by simp [tab]) fun i h1 h2 => ?_
  simp only [tab, List.getElem_set, Nat.zero_add, Int.toNat_natCast, List.getElem_map, List.getElem_range]
  by_cases c : t = i
  · subst c; simp
  · rw [if_neg c, hg i (Ne.symm c)]
def tonnes (j : DJob) (p : DPlan) : List (List Int) := tab j.2.2.2.2.1.toNat fun t => ton (zip3 p.2.1 j.2.1 j.2.2.1) (t : Int)
theorem ton_bound : ∀ (L : List (Int × Int × Int)) (t : Int), (∀ y ∈ L, 0 ≤ y.2.1 ∧ y.2.1 ≤ 10000) → 0 ≤ (ton L t).2 ∧ (ton L t).2 ≤ (ton L t).1 ∧ (ton L t).1 ≤ 10000 * (L.length : Int)
  | [], _, _ => by simp [ton]
  | (w, x, v) :: r, t, h => by
    have ih := ton_bound r t fun y hy => h y (List.mem_cons_of_mem _ hy)
    have hx := h (w, x, v) (List.mem_cons_self ..)
    dsimp only at hx
    unfold ton
    simp only [List.length_cons]
    by_cases c : w = t
    · rw [if_pos c]
      dsimp only
      split <;> omega
    · rw [if_neg c]
      omega
theorem zip3_drop {w x v : List Int} {i : Nat} (hw : i < w.length) (hx : i < x.length) (hv : i < v.length) :
    zip3 (w.drop i) (x.drop i) (v.drop i) = (w[i], x[i], v[i]) :: zip3 (w.drop (i + 1)) (x.drop (i + 1)) (v.drop (i + 1)) := by
  rw [drop_cons hw, drop_cons hx, drop_cons hv]; rfl
theorem tonnesIn_loop (j : DJob) (p : DPlan) (J : JobOk j) (Q : PlanOk j p) : ∀ i, i ≤ p.2.1.length → ∀ f : Nat → Int × Int, (∀ t, 0 ≤ (f t).1 ∧ (f t).1 ≤ 10000 * (i : Int) ∧ 0 ≤ (f t).2 ∧ (f t).2 ≤ 10000 * (i : Int)) →
    impl_tonnesIn_l1 p.2.1 (p.2.1.length : Int) j.2.1 j.2.2.1 (i : Int) (tab j.2.2.2.2.1.toNat f) =
      some (tab j.2.2.2.2.1.toNat fun t => ((f t).1 + (ton (zip3 (p.2.1.drop i) (j.2.1.drop i) (j.2.2.1.drop i)) (t : Int)).1, (f t).2 + (ton (zip3 (p.2.1.drop i) (j.2.1.drop i) (j.2.2.1.drop i)) (t : Int)).2)) := by
  have hlen := Q.len
  have hn := J.n2
  refine down (fun f hf => ?_) fun i hi ih f hf => ?_
  · rw [impl_tonnesIn_l1_eq]; unfold impl_tonnesIn_l1K
    rw [lt_out (Nat.le_refl _), List.drop_length]
    have e : ∀ a b, zip3 [] a b = [] := fun a b => by simp [zip3]
    simp [e, ton]
  · have hx : i < j.2.1.length := by have := J.lt; omega
    have hv : i < j.2.2.1.length := by have := J.lv; omega
    have hw := Q.w _ (List.getElem_mem hi)
    have hxb := J.t _ (List.getElem_mem hx)
    rw [impl_tonnesIn_l1_eq]; unfold impl_tonnesIn_l1K
    rw [loop_step hi, wr_succ hi (by omega), zip3_drop hi hx hv]
    simp only [lat_nat hx, lat_nat hv, Option.bind_some]
    by_cases c : p.2.1[i] < 0
    · simp only [c, decide_true, cond_true]
      rw [ih f fun t => by have := hf t; omega]
      congr 2
      funext t
      have ct : ¬ p.2.1[i] = (t : Int) := by omega
      simp only [ton, if_neg ct]
    · obtain ⟨k, hk⟩ := Int.eq_ofNat_of_zero_le (Int.not_lt.1 c)
      have hkn : k < j.2.2.2.2.1.toNat := by omega
      have c0 : ¬ (k : Int) < 0 := by omega
      have l0 : (0 : Int) < (([((f k).1), (f k).2] : List Int).length : Int) := by simp
      have hfk := hf k
      rw [hk]
      simp only [c0, decide_false, cond_false]
      rw [ck_in (by rw [tab_len]; exact hkn)]
      simp only [tab_get hkn]
      simp only [l0, decide_true, cond_true, Option.bind_some]
      have s1 : (([((f k).1), (f k).2] : List Int).set (0 + 0) (IntKind.i64.wrap ((([((f k).1), (f k).2] : List Int).getD (0 + 0) 0) + j.2.1[i]))) = [(f k).1 + j.2.1[i], (f k).2] := by
        show [IntKind.i64.wrap ((f k).1 + j.2.1[i]), (f k).2] = _
        rw [wr (by omega) (by omega)]
      rw [s1]
      let g1 : Nat → Int × Int := fun t => if t = k then ((f k).1 + j.2.1[i], (f k).2) else f t
      have g1k : g1 k = ((f k).1 + j.2.1[i], (f k).2) := if_pos rfl
      have t1 := tab_set (n := j.2.2.2.2.1.toNat) (f := f) (g := g1) (t := k) fun t ht => if_neg ht
      rw [g1k] at t1
      rw [t1]
      by_cases c2 : j.2.2.1[i] > 0
      · simp only [c2, decide_true, cond_true]
        rw [ck_in (by rw [tab_len]; exact hkn)]
        simp only [tab_get hkn, g1k]
        have l1 : (1 : Int) < (([((f k).1 + j.2.1[i]), (f k).2] : List Int).length : Int) := by simp
        simp only [l1, decide_true, cond_true]
        have s2 : (([((f k).1 + j.2.1[i]), (f k).2] : List Int).set (0 + 1) (IntKind.i64.wrap ((([((f k).1 + j.2.1[i]), (f k).2] : List Int).getD (0 + 1) 0) + j.2.1[i]))) = [(f k).1 + j.2.1[i], (f k).2 + j.2.1[i]] := by
          show [(f k).1 + j.2.1[i], IntKind.i64.wrap ((f k).2 + j.2.1[i])] = _
          rw [wr (by omega) (by omega)]
        rw [s2]
        let g2 : Nat → Int × Int := fun t => if t = k then ((f k).1 + j.2.1[i], (f k).2 + j.2.1[i]) else f t
        have g2k : g2 k = ((f k).1 + j.2.1[i], (f k).2 + j.2.1[i]) := if_pos rfl
        have t2 := tab_set (n := j.2.2.2.2.1.toNat) (f := g1) (g := g2) (t := k) fun t ht => by simp [g1, g2, ht]
        rw [g2k] at t2
        rw [t2, ih g2 fun t => by
          by_cases ht : t = k
          · subst ht; rw [g2k]; dsimp only; omega
          · have e : g2 t = f t := if_neg ht
            rw [e]; have := hf t; omega]
        congr 2
        funext t
        by_cases ht : t = k
        · subst ht
          simp only [g2k, ton, if_true, c2]
          exact Prod.ext (by dsimp only; omega) (by dsimp only; omega)
        · have e : g2 t = f t := if_neg ht
          have ct : ¬ (k : Int) = (t : Int) := by omega
          simp only [e, ton, if_neg ct]
      · simp only [c2, decide_false, cond_false]
        rw [ih g1 fun t => by
          by_cases ht : t = k
          · subst ht; rw [g1k]; dsimp only; omega
          · have e : g1 t = f t := if_neg ht
            rw [e]; have := hf t; omega]
        congr 2
        funext t
        by_cases ht : t = k
        · subst ht
          simp only [g1k, ton, if_true, c2, if_false]
          exact Prod.ext (by dsimp only; omega) (by dsimp only; omega)
        · have e : g1 t = f t := if_neg ht
          have ct : ¬ (k : Int) = (t : Int) := by omega
          simp only [e, ton, if_neg ct]
theorem tonnesIn_ok (j : DJob) (p : DPlan) (J : JobOk j) (Q : PlanOk j p) : impl_tonnesIn j p = some (tonnes j p) := by
  have hper := J.per
  have hc : (decide ((0 : Int) ≤ j.2.2.2.2.1) && (decide (j.2.2.2.2.1 ≤ j.2.2.2.2.1) && decide (j.2.2.2.2.1 ≤ 1099511627776))) = true := by
    simp only [Bool.and_eq_true, decide_eq_true_eq]; omega
  unfold impl_tonnesIn impl_tonnesInK
  simp only [hc, cond_true, Option.bind_some]
  have h0 : impl_tonnesIn_l0 (((List.replicate j.2.2.2.2.1.toNat [] : List (List Int)).length : Nat) : Int) 0 (List.replicate j.2.2.2.2.1.toNat []) = some (tab j.2.2.2.2.1.toNat fun _ => (0, 0)) := by
    refine fill_loop (f := fun i r => impl_tonnesIn_l0 (((List.replicate j.2.2.2.2.1.toNat [] : List (List Int)).length : Nat) : Int) i r) (l := tab j.2.2.2.2.1.toNat fun _ => (0, 0)) (by rw [tab_len]; omega) ?_ ?_ _ (by simp [tab_len])
    · show impl_tonnesIn_l0 _ _ _ = _
      rw [impl_tonnesIn_l0_eq]; unfold impl_tonnesIn_l0K
      rw [lt_out (by simp [tab_len])]
    · intro i r hi hr
      show impl_tonnesIn_l0 _ _ _ = impl_tonnesIn_l0 _ _ _
      rw [tab_len] at hi hr
      rw [impl_tonnesIn_l0_eq]; unfold impl_tonnesIn_l0K
      rw [lt_in (by simp; omega)]
      simp only [Option.bind_some]
      rw [ck_in (by omega), wr_succ hi (by omega)]
      simp [tab, List.replicate]
  rw [h0]
  have := tonnesIn_loop j p J Q 0 (Nat.zero_le _) (fun _ => (0, 0)) (by simp)
  simp only [Option.bind_some]
  have this : impl_tonnesIn_l1 p.2.1 (p.2.1.length : Int) j.2.1 j.2.2.1 0 (tab j.2.2.2.2.1.toNat fun _ => (0, 0)) = _ := this
  rw [this]
  simp [tonnes]
theorem plTonnes_inner (j : DJob) (p : DPlan) (J : JobOk j) (Q : PlanOk j p) (t : Int) : ∀ i, i ≤ p.2.1.length → ∀ a b : Int, 0 ≤ a → a ≤ 10000 * (i : Int) → 0 ≤ b → b ≤ 10000 * (i : Int) →
    spec_plTonnes_l1 t p.2.1 (p.2.1.length : Int) j.2.1 j.2.2.1 a b (i : Int) =
      some (a + (ton (zip3 (p.2.1.drop i) (j.2.1.drop i) (j.2.2.1.drop i)) t).1, b + (ton (zip3 (p.2.1.drop i) (j.2.1.drop i) (j.2.2.1.drop i)) t).2) := by
  have hlen := Q.len
  have hn := J.n2
  refine down (fun a b h1 h2 h3 h4 => ?_) fun i hi ih a b h1 h2 h3 h4 => ?_
  · rw [spec_plTonnes_l1_eq]; unfold spec_plTonnes_l1K
    rw [lt_out (Nat.le_refl _), List.drop_length]
    have e : ∀ a b, zip3 [] a b = [] := fun a b => by simp [zip3]
    simp [e, ton]
  · have hx : i < j.2.1.length := by have := J.lt; omega
    have hv : i < j.2.2.1.length := by have := J.lv; omega
    have hxb := J.t _ (List.getElem_mem hx)
    rw [spec_plTonnes_l1_eq]; unfold spec_plTonnes_l1K
    rw [loop_step hi, wr_succ hi (by omega), zip3_drop hi hx hv]
    simp only [lat_nat hx, lat_nat hv, Option.bind_some, ton]
    rw [wr (n := a + j.2.1[i]) (by omega) (by omega), wr (n := b + j.2.1[i]) (by omega) (by omega)]
    by_cases c : p.2.1[i] = t
    · simp only [c, beq_self_eq_true, cond_true, if_true]
      by_cases c2 : j.2.2.1[i] > 0
      · simp only [c2, decide_true, cond_true, if_true]
        rw [ih _ _ (by omega) (by omega) (by omega) (by omega)]
        simp only [Option.some.injEq, Prod.mk.injEq]
        constructor <;> omega
      · simp only [c2, decide_false, cond_false, if_false]
        rw [ih _ _ (by omega) (by omega) (by omega) (by omega)]
        simp only [Option.some.injEq, Prod.mk.injEq]
        constructor <;> omega
    · have c' : (p.2.1[i] == t) = false := by simp [c]
      simp only [c', cond_false, if_neg c]
      exact ih _ _ (by omega) (by omega) (by omega) (by omega)
theorem tab_succ (n : Nat) (f : Nat → Int × Int) : tab (n + 1) f = tab n f ++ [[(f n).1, (f n).2]] := by simp [tab, List.range_succ]
theorem plTonnes_ok (j : DJob) (p : DPlan) (J : JobOk j) (Q : PlanOk j p) : spec_plTonnes j p = some (tonnes j p) := by
  have hper := J.per
  have e2 : j.2.2.2.2.1 = ((j.2.2.2.2.1.toNat : Nat) : Int) := by omega
  have key : ∀ i, i ≤ j.2.2.2.2.1.toNat → spec_plTonnes_l0 j.2.1 j.2.2.1 j.2.2.2.2.1 p.2.1 (i : Int) (tab i fun t => ton (zip3 p.2.1 j.2.1 j.2.2.1) (t : Int)) = some (tonnes j p) := by
    refine down ?_ fun i hi ih => ?_
    · rw [spec_plTonnes_l0_eq]; unfold spec_plTonnes_l0K
      have c : ¬ ((j.2.2.2.2.1.toNat : Nat) : Int) < j.2.2.2.2.1 := by omega
      simp only [c, decide_false, cond_false]; rfl
    · rw [spec_plTonnes_l0_eq]; unfold spec_plTonnes_l0K
      have c : (i : Int) < j.2.2.2.2.1 := by omega
      have hin := plTonnes_inner j p J Q (i : Int) 0 (Nat.zero_le _) 0 0 (by omega) (by omega) (by omega) (by omega)
      have hin : spec_plTonnes_l1 (i : Int) p.2.1 (p.2.1.length : Int) j.2.1 j.2.2.1 0 0 0 = _ := hin
      simp only [List.drop_zero, Int.zero_add] at hin
      simp only [c, decide_true, cond_true, hin, Option.bind_some]
      rw [wr_succ hi (by omega), ← tab_succ i fun t => ton (zip3 p.2.1 j.2.1 j.2.2.1) (t : Int), ih]
      have hl : (tab i fun t => ton (zip3 p.2.1 j.2.1 j.2.2.1) (t : Int)).length + [[(ton (zip3 p.2.1 j.2.1 j.2.2.1) (i : Int)).1, (ton (zip3 p.2.1 j.2.1 j.2.2.1) (i : Int)).2]].length ≤ 1099511627776 := by
        rw [tab_len]; simp; omega
      simp only [hl, decide_true, cond_true]
  unfold spec_plTonnes spec_plTonnesK
  have := key 0 (Nat.zero_le _)
  have this : spec_plTonnes_l0 j.2.1 j.2.2.1 j.2.2.2.2.1 p.2.1 0 [] = some (tonnes j p) := this
  rw [this]; rfl
end
end Go.OAI
