/- The networks of the relaxed plan, edge by edge. -/
import Derived.Test.YtokaffjipngphaaPgrid
import Derived.Test.YtokaffjipngphaaGRe
import Derived.Test.YtokaffjipngphaaPM
import Derived.Test.YtokaffjipngphaaPem
import Derived.Test.YtokaffjipngphaaPs
namespace Go.OAI
set_option linter.unusedVariables false
noncomputable section

def nP (j : DJob) : Nat := j.2.2.2.2.1.toNat
def Wt (j : DJob) (l : List Int) (i t : Nat) : Int := if t = nP j then 0 else j.2.2.1.getD i 0 * fac j (t : Int) - l.getD t 0 * j.2.1.getD i 0
def gr (j : DJob) (l : List Int) : Gr := ⟨j.1.length, nP j, fun i => (j.1.getD i []).map Int.toNat, fun i t => Wt j l i t - Wt j l i (t + 1)⟩
abbrev bx (j : DJob) : (List (List Int)) × (List Int) × (List Int) × Int × Int × Int × Int × Int := (j.1, (j.2.1, (j.2.2.1, (j.2.2.2.1.1, (j.2.2.2.1.2.1, (j.2.2.2.2.1, (j.2.2.2.2.2.1, j.2.2.2.2.2.2.1)))))))
variable {j : DJob} {l : List Int} {i t : Nat}
theorem nP_int (J : JobOk j) : j.2.2.2.2.1 = (nP j : Int) ∧ 1 ≤ nP j ∧ nP j ≤ 6 := by
  have := J.per
  unfold nP; omega
theorem gd {α : Type} {a : List α} {k : Nat} {d : α} (h : k < a.length) : a.getD k d = a[k] := by simp [h]
theorem Wt_bound (J : JobOk j) (M : MulOk j l) (hi : i < j.1.length) (ht : t ≤ nP j) : -13200000000000 ≤ Wt j l i t ∧ Wt j l i t ≤ 13200000000000 := by
  obtain ⟨p1, p2, p3⟩ := nP_int J
  unfold Wt
  split
  · omega
  · rename_i c
    have hlv := J.lv
    have hlt := J.lt
    have hml := M.len
    rw [gd (by omega), gd (a := l) (by omega), gd (a := j.2.1) (by omega)]
    have h1 := mul_bound (J.v _ (List.getElem_mem (by omega : i < j.2.2.1.length))) (fac_bound J (t := (t : Int)) (by omega))
    have hm := M.x _ (List.getElem_mem (by omega : t < l.length))
    have hT := J.t _ (List.getElem_mem (by omega : i < j.2.1.length))
    generalize l[t]'(by omega) = m at *
    generalize j.2.1[i]'(by omega) = q at *
    have h2 : 0 ≤ m * q := Int.mul_nonneg hm.1 hT.1
    have h3 : m * q ≤ 1000000000 * q := Int.mul_le_mul_of_nonneg_right hm.2 hT.1
    omega
theorem node_i (J : JobOk j) (hi : i ≤ 200) (ht : t ≤ 10) : impl_relaxedPlan_1 (i : Int) (t : Int) (bx j) = some (nI (gr j l) i t, bx j) := by
  obtain ⟨p1, p2, p3⟩ := nP_int J
  unfold impl_relaxedPlan_1 impl_relaxedPlan_1K
  have h1 : i * nP j ≤ 200 * 6 := Nat.mul_le_mul hi p3
  have e1 : (i : Int) * (nP j : Int) = ((i * nP j : Nat) : Int) := by simp
  show (some (IntKind.i64.wrap (IntKind.i64.wrap (IntKind.i64.wrap ((i : Int) * j.2.2.2.2.1) + (t : Int)) + 1))).bind _ = _
  rw [p1, e1, wr (n := ((i * nP j : Nat) : Int)) (by omega) (by omega), wr (n := ((i * nP j : Nat) : Int) + (t : Int)) (by omega) (by omega), wr (by omega) (by omega)]
  simp only [Option.bind_some, nI, gr]
  congr 2
theorem worth_i (J : JobOk j) (M : MulOk j l) (hi : i < j.1.length) (ht : t ≤ nP j) : impl_relaxedPlan_2 (i : Int) (t : Int) (bx j) l = some (Wt j l i t, (bx j, l)) := by
  obtain ⟨p1, p2, p3⟩ := nP_int J
  have hb := Wt_bound J M hi ht
  unfold impl_relaxedPlan_2 impl_relaxedPlan_2K
  by_cases c : t = nP j
  · have : ((t : Int) == j.2.2.2.2.1) = true := by rw [p1]; simp [c]
    simp only [this, cond_true]
    unfold Wt; rw [if_pos c]
  · have h1 : ((t : Int) == j.2.2.2.2.1) = false := by rw [p1]; simp; omega
    have hlv := J.lv
    have hlt := J.lt
    have hml := M.len
    have e1 : lat j.2.2.1 (i : Int) = some (j.2.2.1.getD i 0) := by rw [lat_nat (by omega), gd (by omega)]
    have e2 : lat l (t : Int) = some (l.getD t 0) := by rw [lat_nat (by omega), gd (by omega)]
    have e3 : lat j.2.1 (i : Int) = some (j.2.1.getD i 0) := by rw [lat_nat (by omega), gd (by omega)]
    have e4 := scaledFactor_ok j J (t : Int) (by omega)
    have hf := fac_bound J (t := (t : Int)) (by omega)
    have h1' := mul_bound (J.v _ (List.getElem_mem (by omega : i < j.2.2.1.length))) hf
    rw [← gd (d := 0)] at h1'
    have hm := M.x _ (List.getElem_mem (by omega : t < l.length))
    have hT := J.t _ (List.getElem_mem (by omega : i < j.2.1.length))
    rw [← gd (d := 0)] at hm hT
    have h2 : 0 ≤ l.getD t 0 * j.2.1.getD i 0 := Int.mul_nonneg hm.1 hT.1
    have h3 : l.getD t 0 * j.2.1.getD i 0 ≤ 1000000000 * j.2.1.getD i 0 := Int.mul_le_mul_of_nonneg_right hm.2 hT.1
    simp only [h1, cond_false, e1, e2, e3, Option.bind_some]
    rw [jobEta, e4]
    simp only [Option.bind_some]
    unfold Wt
    rw [if_neg c, wr (n := j.2.2.1.getD i 0 * fac j (t : Int)) (by omega) (by omega), wr (n := l.getD t 0 * j.2.1.getD i 0) (by omega) (by omega), wr (by omega) (by omega)]
theorem worth_s (J : JobOk j) (M : MulOk j l) (hi : i < j.1.length) (ht : t ≤ nP j) : spec_reWorth j l (i : Int) (t : Int) = some (Wt j l i t) := by
  obtain ⟨p1, p2, p3⟩ := nP_int J
  unfold spec_reWorth spec_reWorthK
  by_cases c : t = nP j
  · have : ((t : Int) == j.2.2.2.2.1) = true := by rw [p1]; simp [c]
    simp only [this, cond_true]
    unfold Wt; rw [if_pos c]
  · have h1 : ((t : Int) == j.2.2.2.2.1) = false := by rw [p1]; simp; omega
    have hlv := J.lv
    have hlt := J.lt
    have hml := M.len
    have e1 : lat j.2.2.1 (i : Int) = some (j.2.2.1.getD i 0) := by rw [lat_nat (by omega), gd (by omega)]
    have e2 : lat l (t : Int) = some (l.getD t 0) := by rw [lat_nat (by omega), gd (by omega)]
    have e3 : lat j.2.1 (i : Int) = some (j.2.1.getD i 0) := by rw [lat_nat (by omega), gd (by omega)]
    have e4 := srFactor_ok j J (t : Int) (by omega) (by omega)
    have hf := fac_bound J (t := (t : Int)) (by omega)
    have h1' := mul_bound (J.v _ (List.getElem_mem (by omega : i < j.2.2.1.length))) hf
    rw [← gd (d := 0)] at h1'
    have hm := M.x _ (List.getElem_mem (by omega : t < l.length))
    have hT := J.t _ (List.getElem_mem (by omega : i < j.2.1.length))
    rw [← gd (d := 0)] at hm hT
    have h2 : 0 ≤ l.getD t 0 * j.2.1.getD i 0 := Int.mul_nonneg hm.1 hT.1
    have h3 : l.getD t 0 * j.2.1.getD i 0 ≤ 1000000000 * j.2.1.getD i 0 := Int.mul_le_mul_of_nonneg_right hm.2 hT.1
    simp only [h1, cond_false, e1, e2, e3, e4, Option.bind_some]
    unfold Wt
    rw [if_neg c, wr (n := j.2.2.1.getD i 0 * fac j (t : Int)) (by omega) (by omega), wr (n := l.getD t 0 * j.2.1.getD i 0) (by omega) (by omega), wr (by omega) (by omega)]
theorem arcs_ok (J : JobOk j) (hi : i < j.1.length) : (∀ x ∈ j.1.getD i [], 0 ≤ x ∧ x < (i : Int)) ∧ (j.1.getD i []).length ≤ 120 := by
  have hn := J.n2
  rw [gd hi]
  obtain ⟨h1, h2⟩ := J.arc i hi
  refine ⟨h1, ?_⟩
  have := rise_len _ 0 (i : Int) h1 h2 (by omega)
  omega
theorem gr_ok (J : JobOk j) : (gr j l).Ok := by
  obtain ⟨p1, p2, p3⟩ := nP_int J
  refine ⟨J.n1, p2, fun i hi k hk => ?_⟩
  obtain ⟨x, hx, rfl⟩ := List.mem_map.1 hk
  have := (arcs_ok J hi).1 x hx
  show x.toNat < j.1.length
  have hi : i < j.1.length := hi
  omega
def cE (n : Nat) : Nat := n
theorem l2_i (J : JobOk j) (hi : i < j.1.length) (ht : t < nP j) (es : List Int) (hel : es.length ≤ 120) (hes : ∀ x ∈ es, 0 ≤ x ∧ x < (i : Int)) : ∀ (r k : Nat) (E : List DEdge), k + r = es.length → E.length + r ≤ 549755813888 →
    impl_relaxedPlan_l2 (i : Int) (t : Int) es (es.length : Int) (k : Int) j.1 j.2.1 j.2.2.1 j.2.2.2.1.1 j.2.2.2.1.2.1 j.2.2.2.2.1 j.2.2.2.2.2.1 j.2.2.2.2.2.2.1 E =
      some (j.1, (j.2.1, (j.2.2.1, (j.2.2.2.1.1, (j.2.2.2.1.2.1, (j.2.2.2.2.1, (j.2.2.2.2.2.1, (j.2.2.2.2.2.2.1, E ++ (es.drop k).map fun x => ((nI (gr j l) i t, nI (gr j l) x.toNat t, 1152921504606846976, ()) : DEdge))))))))) := by
  have hn := J.n2
  obtain ⟨p1, p2, p3⟩ := nP_int J
  intro r
  induction r with
  | zero =>
    intro k E hk hE
    have hd : es.drop k = [] := List.drop_eq_nil_of_le (by omega)
    rw [impl_relaxedPlan_l2_eq]
    unfold impl_relaxedPlan_l2K
    have : decide ((k : Int) < (es.length : Int)) = false := by simp; omega
    rw [this, hd]; simp
  | succ r ih =>
    intro k E hk hE
    have hkl : k < es.length := by omega
    have hx := hes _ (List.getElem_mem hkl)
    have e0 : es[k] = ((es[k].toNat : Nat) : Int) := by omega
    have wk : IntKind.i64.wrap ((k : Int) + 1) = ((k + 1 : Nat) : Int) := by rw [wr (by omega) (by omega)]; omega
    have n1 := node_i (l := l) (i := i) (t := t) J (by omega) (by omega)
    have n2 := node_i (l := l) (i := es[k].toNat) (t := t) J (by omega) (by omega)
    rw [← e0] at n2
    have c0 : ∀ {α : Type} (x : α), decide (E.length + [x].length ≤ 1099511627776) = true := fun x => decide_eq_true (by simp only [List.length_singleton]; omega)
    rw [impl_relaxedPlan_l2_eq]
    unfold impl_relaxedPlan_l2K
    simp only [dl hkl, cond_true, lat_nat hkl, Option.bind_some, n1, n2, c0, wk]
    rw [ih (k + 1) _ (by omega) (by simp only [List.length_append, List.length_singleton]; omega), List.drop_eq_getElem_cons hkl]
    simp only [List.map_cons, List.append_assoc, List.singleton_append]
def RI (j : DJob) (l : List Int) (i t : Nat) : List DEdge := eV (gr j l) (nI (gr j l)) (zN (gr j l)) i t ++ eT (gr j l) (nI (gr j l)) 1152921504606846976 i t ++ eA (gr j l) (nI (gr j l)) 1152921504606846976 i t
theorem RI_len (J : JobOk j) (hi : i < j.1.length) : (RI j l i t).length ≤ 122 := by
  have := (arcs_ok J hi).2
  unfold RI eV eT eA
  simp only [List.length_append, List.length_map]
  have h : ((gr j l).arcs i).length ≤ 120 := by show ((j.1.getD i []).map Int.toNat).length ≤ 120; simpa using this
  split
  · split <;> simp <;> omega
  · split
    · split <;> simp <;> omega
    · split <;> simp <;> omega
theorem l1_i (J : JobOk j) (M : MulOk j l) (hi : i < j.1.length) : ∀ (r t : Nat) (E : List DEdge), t + r = nP j → E.length + r * 122 ≤ 274877906944 →
    impl_relaxedPlan_l1 ((j.1.length * nP j + 2 : Nat) : Int) (i : Int) (t : Int) j.1 j.2.1 j.2.2.1 j.2.2.2.1.1 j.2.2.2.1.2.1 j.2.2.2.2.1 j.2.2.2.2.2.1 j.2.2.2.2.2.2.1 l E =
      some (j.1, (j.2.1, (j.2.2.1, (j.2.2.2.1.1, (j.2.2.2.1.2.1, (j.2.2.2.2.1, (j.2.2.2.2.2.1, (j.2.2.2.2.2.2.1, (l, E ++ (List.range' t r).flatMap fun t => RI j l i t))))))))) := by
  have hn := J.n2
  obtain ⟨p1, p2, p3⟩ := nP_int J
  have hnP : j.1.length * nP j ≤ 120 * 6 := Nat.mul_le_mul hn p3
  obtain ⟨ha1, ha2⟩ := arcs_ok J hi
  intro r
  induction r with
  | zero =>
    intro t E ht hE
    rw [impl_relaxedPlan_l1_eq]
    unfold impl_relaxedPlan_l1K
    have : decide ((t : Int) < j.2.2.2.2.1) = false := by rw [p1]; simp; omega
    rw [this]; simp
  | succ r ih =>
    intro t E ht hE
    have htl : t < nP j := by omega
    have f1 : decide ((t : Int) < j.2.2.2.2.1) = true := by rw [p1]; exact dl htl
    have wk : IntKind.i64.wrap ((t : Int) + 1) = ((t + 1 : Nat) : Int) := by rw [wr (by omega) (by omega)]; omega
    have b1 := Wt_bound (t := t) J M hi (by omega)
    have b2 := Wt_bound (t := t + 1) J M hi (by omega)
    have w1 := worth_i (t := t) J M hi (by omega)
    have w2 := worth_i (t := t + 1) J M hi (by omega)
    have n1 := node_i (l := l) (i := i) (t := t) J (by omega) (by omega)
    have n2 := node_i (l := l) (i := i) (t := t + 1) J (by omega) (by omega)
    have wv : IntKind.i64.wrap (Wt j l i t - Wt j l i (t + 1)) = (gr j l).v i t := by rw [wr (by omega) (by omega)]; rfl
    have wz : IntKind.i64.wrap (((j.1.length * nP j + 2 : Nat) : Int) - 1) = zN (gr j l) := by rw [wr (by omega) (by omega)]; unfold zN; show _ = ((j.1.length * nP j + 1 : Nat) : Int); omega
    have bv : -26400000000000 ≤ (gr j l).v i t ∧ (gr j l).v i t ≤ 26400000000000 := by
      have : (gr j l).v i t = Wt j l i t - Wt j l i (t + 1) := rfl
      omega
    have wn : IntKind.i64.wrap (0 - (gr j l).v i t) = - (gr j l).v i t := by rw [wr (by omega) (by omega)]; omega
    have la : lat j.1 (i : Int) = some (j.1.getD i []) := by rw [lat_nat hi, gd hi]
    have e1 : decide (((t + 1 : Nat) : Int) < j.2.2.2.2.1) = decide (t + 1 < nP j) := by rw [p1]; exact decide_eq_decide.2 (by omega)
    have c0 : ∀ {α : Type} (x : α), decide (E.length + [x].length ≤ 1099511627776) = true := fun x => decide_eq_true (by simp only [List.length_singleton]; omega)
    have c1 : ∀ {α : Type} (x : DEdge) (y : α), decide ((E ++ [x]).length + [y].length ≤ 1099511627776) = true := fun x y => decide_eq_true (by simp only [List.length_singleton, List.length_append]; omega)
    have l2 : ∀ E' : List DEdge, E'.length ≤ E.length + 2 → impl_relaxedPlan_l2 (i : Int) (t : Int) (j.1.getD i []) ((j.1.getD i []).length : Int) 0 j.1 j.2.1 j.2.2.1 j.2.2.2.1.1 j.2.2.2.1.2.1 j.2.2.2.2.1 j.2.2.2.2.2.1 j.2.2.2.2.2.2.1 E' =
        some (j.1, (j.2.1, (j.2.2.1, (j.2.2.2.1.1, (j.2.2.2.1.2.1, (j.2.2.2.2.1, (j.2.2.2.2.2.1, (j.2.2.2.2.2.2.1, E' ++ eA (gr j l) (nI (gr j l)) 1152921504606846976 i t)))))))) := fun E' hE' => by
      have := l2_i (l := l) J hi htl (j.1.getD i []) ha2 ha1 (j.1.getD i []).length 0 E' (by omega) (by omega)
      have this : impl_relaxedPlan_l2 (i : Int) (t : Int) (j.1.getD i []) ((j.1.getD i []).length : Int) 0 j.1 j.2.1 j.2.2.1 j.2.2.2.1.1 j.2.2.2.1.2.1 j.2.2.2.2.1 j.2.2.2.2.2.1 j.2.2.2.2.2.2.1 E' = _ := this
      rw [this, List.drop_zero]
      have : eA (gr j l) (nI (gr j l)) 1152921504606846976 i t = (j.1.getD i []).map fun x => ((nI (gr j l) i t, nI (gr j l) x.toNat t, 1152921504606846976, ()) : DEdge) := by
        unfold eA; show ((j.1.getD i []).map Int.toNat).map _ = _
        rw [List.map_map]; rfl
      rw [this]
    have hI : ∀ E' : List DEdge, E' = E ++ RI j l i t → impl_relaxedPlan_l1 ((j.1.length * nP j + 2 : Nat) : Int) (i : Int) ((t + 1 : Nat) : Int) j.1 j.2.1 j.2.2.1 j.2.2.2.1.1 j.2.2.2.1.2.1 j.2.2.2.2.1 j.2.2.2.2.2.1 j.2.2.2.2.2.2.1 l E' =
        some (j.1, (j.2.1, (j.2.2.1, (j.2.2.2.1.1, (j.2.2.2.1.2.1, (j.2.2.2.2.1, (j.2.2.2.2.2.1, (j.2.2.2.2.2.2.1, (l, E ++ (List.range' t (r + 1)).flatMap fun t => RI j l i t))))))))) := fun E' hE' => by
      have hl := RI_len (l := l) (t := t) J hi
      rw [hE', ih (t + 1) _ (by omega) (by rw [List.length_append]; omega), List.range'_succ, List.flatMap_cons, List.append_assoc]
    rw [impl_relaxedPlan_l1_eq]
    unfold impl_relaxedPlan_l1K
    simp only [f1, cond_true, w1, Option.bind_some, wk, w2, wv, n1, n2, wz, wn, c0, c1, e1, la]
    rcases Int.lt_trichotomy 0 ((gr j l).v i t) with h | h | h
    · have q1 : decide ((gr j l).v i t > 0) = true := decide_eq_true h
      have q2 : decide ((gr j l).v i t < 0) = false := decide_eq_false (by omega)
      simp only [q1, q2, cond_true, cond_false]
      by_cases c : t + 1 < nP j
      · simp only [decide_eq_true c, cond_true]
        rw [l2 _ (by simp)]
        simp only [Option.bind_some]
        refine hI _ ?_
        have c' : t + 1 < (gr j l).P := c
        simp [RI, eV, eT, h, c', List.append_assoc]
      · simp only [decide_eq_false c, cond_false]
        rw [l2 _ (by simp)]
        simp only [Option.bind_some]
        refine hI _ ?_
        have c' : ¬ t + 1 < (gr j l).P := c
        simp [RI, eV, eT, h, c', List.append_assoc]
    · have q1 : decide ((gr j l).v i t > 0) = false := decide_eq_false (by omega)
      have q2 : decide ((gr j l).v i t < 0) = false := decide_eq_false (by omega)
      simp only [q1, q2, cond_false]
      by_cases c : t + 1 < nP j
      · simp only [decide_eq_true c, cond_true]
        rw [l2 _ (by simp)]
        simp only [Option.bind_some]
        refine hI _ ?_
        have c' : t + 1 < (gr j l).P := c
        simp [RI, eV, eT, ← h, c', List.append_assoc]
      · simp only [decide_eq_false c, cond_false]
        rw [l2 _ (by simp)]
        simp only [Option.bind_some]
        refine hI _ ?_
        have c' : ¬ t + 1 < (gr j l).P := c
        simp [RI, eV, eT, ← h, c', List.append_assoc]
    · have q1 : decide ((gr j l).v i t > 0) = false := decide_eq_false (by omega)
      have q2 : decide ((gr j l).v i t < 0) = true := decide_eq_true h
      have h0 : ¬ 0 < (gr j l).v i t := by omega
      simp only [q1, q2, cond_true, cond_false]
      by_cases c : t + 1 < nP j
      · simp only [decide_eq_true c, cond_true]
        rw [l2 _ (by simp)]
        simp only [Option.bind_some]
        refine hI _ ?_
        have c' : t + 1 < (gr j l).P := c
        simp [RI, eV, eT, h, h0, c', List.append_assoc]
      · simp only [decide_eq_false c, cond_false]
        rw [l2 _ (by simp)]
        simp only [Option.bind_some]
        refine hI _ ?_
        have c' : ¬ t + 1 < (gr j l).P := c
        simp [RI, eV, eT, h, h0, c', List.append_assoc]
end
end Go.OAI
