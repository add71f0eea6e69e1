/- The search: what it comes to, and the reference's side of it. -/
import Derived.Test.YtaiopbdbnellhaaLRootBound
import Derived.Test.YtaiopbdbnellhaaPfe
import Derived.Test.YtaiopbdbnellhaaGSearchPlan
namespace Go.OAI
set_option linter.unusedVariables false
noncomputable section

/-! ### The search in plain words -/
structure AS where
  best : List Int
  worth : Int
  opn : Int
  nodes : Int
  stop : Bool
def dpow (j : DJob) : Int := j.2.2.2.2.2.2.1 ^ (j.2.2.2.2.1 - 1).toNat
def bnd (j : DJob) (w : List Int) : Int := worth j w j.2.2.1 + top (dpow j) (j.2.2.1.drop w.length)
def us (j : DJob) (w : List Int) (t : Int) : Int × Int := ton (zip3 w j.2.1 j.2.2.1) t
def arcT (w : List Int) (t a : Int) : Bool := decide (0 ≤ w.getD a.toNat 0) && decide (w.getD a.toNat 0 ≤ t)
def fitB (j : DJob) (w : List Int) (t : Int) : Bool :=
  (j.1.getD w.length []).all (arcT w t) && (decide ((us j (w ++ [t]) t).1 ≤ j.2.2.2.1.1) && decide ((us j (w ++ [t]) t).2 ≤ j.2.2.2.1.2.1))
def pers (j : DJob) : List Int := (List.range j.2.2.2.2.1.toNat).map fun t : Nat => (t : Int)
def kidsT (j : DJob) (w : List Int) : List Int := (pers j).filter (fitB j w) ++ [-1]
def stopAt (j : DJob) (w : List Int) (s : AS) : AS := { s with opn := if bnd j w > s.opn then bnd j w else s.opn, stop := true }
def AS.up (s : AS) : AS := { s with nodes := s.nodes + 1 }
def go (j : DJob) (most : Int) : Nat → List Int → AS → AS
  | 0, w, s => if s.nodes = most then stopAt j w s else if bnd j w ≤ s.worth then s.up else { s.up with best := w, worth := bnd j w }
  | m + 1, w, s => if s.nodes = most then stopAt j w s else if bnd j w ≤ s.worth then s.up else
      (kidsT j w).foldl (fun s t => go j most m (w ++ [t]) s) s.up
structure NOk (most : Int) (s : AS) : Prop where
  n0 : 0 ≤ s.nodes
  n1 : s.nodes ≤ most
theorem NOk.stop {most : Int} {s : AS} (h : NOk most s) (j : DJob) (w : List Int) : NOk most (stopAt j w s) := ⟨h.n0, h.n1⟩
theorem NOk.up {most : Int} {s : AS} (h : NOk most s) (hn : ¬ s.nodes = most) : NOk most s.up := ⟨by have := h.n0; show 0 ≤ s.nodes + 1; omega, by have := h.n1; show s.nodes + 1 ≤ most; omega⟩
theorem go_nodes (j : DJob) (most : Int) : ∀ m w s, NOk most s → NOk most (go j most m w s)
  | 0, w, s, h => by
    unfold go
    by_cases c : s.nodes = most
    · rw [if_pos c]; exact h.stop j w
    · rw [if_neg c]
      split
      · exact h.up c
      · exact ⟨(h.up c).n0, (h.up c).n1⟩
  | m + 1, w, s, h => by
    unfold go
    by_cases c : s.nodes = most
    · rw [if_pos c]; exact h.stop j w
    · rw [if_neg c]
      split
      · exact h.up c
      · have key : ∀ (K : List Int) (s : AS), NOk most s → NOk most (K.foldl (fun s t => go j most m (w ++ [t]) s) s) := by
          intro K
          induction K with
          | nil => exact fun s h => h
          | cons t K ih => exact fun s h => ih _ (go_nodes j most m _ s h)
        exact key _ _ (h.up c)
structure WOk (j : DJob) (w : List Int) : Prop where
  len : w.length ≤ j.1.length
  w : ∀ x ∈ w, -1 ≤ x ∧ x < j.2.2.2.2.1
theorem WOk.snoc {j : DJob} {w : List Int} (W : WOk j w) (h : w.length < j.1.length) {t : Int} (ht : -1 ≤ t ∧ t < j.2.2.2.2.1) : WOk j (w ++ [t]) :=
  ⟨by simp; omega, fun x hx => by
    rcases List.mem_append.1 hx with h | h
    · exact W.w x h
    · have := List.mem_singleton.1 h; subst this; exact ht⟩
theorem pers_len (j : DJob) : (pers j).length = j.2.2.2.2.1.toNat := by simp [pers]
theorem pers_get {j : DJob} {i : Nat} (h : i < (pers j).length) : (pers j)[i] = (i : Int) := by simp [pers]
theorem pers_mem {j : DJob} {t : Int} (h : t ∈ pers j) : 0 ≤ t ∧ t < j.2.2.2.2.1 := by
  obtain ⟨i, hi, rfl⟩ := List.getElem_of_mem h
  rw [pers_get hi]; rw [pers_len] at hi; omega
theorem kids_mem {j : DJob} {w : List Int} {t : Int} (hp : 1 ≤ j.2.2.2.2.1) (h : t ∈ kidsT j w) : -1 ≤ t ∧ t < j.2.2.2.2.1 := by
  rcases List.mem_append.1 h with h | h
  · have := pers_mem (List.mem_filter.1 h).1; omega
  · have := List.mem_singleton.1 h; omega

/-! ### The reference -/
theorem dpow_bound {j : DJob} (J : JobOk j) : 0 ≤ dpow j ∧ dpow j ≤ 3200000 := by
  have hper := J.per
  have hden := J.den
  have hnum := J.num
  have hp := pow_le20 (b := j.2.2.2.2.2.2.1) (by omega) (by omega) (j.2.2.2.2.1 - 1).toNat
  have hp20 := pow20 (n := (j.2.2.2.2.1 - 1).toNat) (by omega)
  unfold dpow
  omega
theorem bound_loop' (j : DJob) (S : SearchOk j) (L : List Int) (hL : L.length ≤ 12) (hv : ∀ v ∈ L, -1000000 ≤ v ∧ v ≤ 1000000) : ∀ i, i ≤ L.length → ∀ a : Int, -100000000000000 ≤ a → a ≤ 100000000000000 + 3200000000000 * (i : Int) →
    spec_srBound_l0 L (L.length : Int) j.2.2.2.2.1 j.2.2.2.2.2.2.1 a (i : Int) = some (a + top (dpow j) (L.drop i)) := by
  have hper := S.per
  have hden := S.den
  have hnum := S.num
  obtain ⟨h0, h1⟩ := dpow_bound S.toJobOk
  refine down (fun a h2 h3 => ?_) fun i hi ih a h2 h3 => ?_
  · rw [spec_srBound_l0_eq]; unfold spec_srBound_l0K
    rw [lt_out (Nat.le_refl _), List.drop_length]; simp [top]
  · have hv := hv _ (List.getElem_mem hi)
    have e : j.2.2.2.2.1 - 1 = (((j.2.2.2.2.1 - 1).toNat : Nat) : Int) := by omega
    have p2 : spec_srPower j.2.2.2.2.2.2.1 (j.2.2.2.2.1 - 1) = some (dpow j) := by
      have := spec_srPower_ok j.2.2.2.2.2.2.1 (by omega) (by omega) (j.2.2.2.2.1 - 1).toNat (by omega)
      rw [← e] at this; exact this
    have hm := mul_bound (v := if L[i] > 0 then L[i] else 0) (f := dpow j) (by split <;> omega) ⟨h0, h1⟩
    have h4 : 0 ≤ (if L[i] > 0 then L[i] else 0) * dpow j := Int.mul_nonneg (by split <;> omega) h0
    have hmost : spec_l1Most L[i] 0 = some (if L[i] > 0 then L[i] else 0) := by
      unfold spec_l1Most spec_l1MostK
      by_cases c : L[i] > 0 <;> simp [c]
    rw [spec_srBound_l0_eq]; unfold spec_srBound_l0K
    rw [loop_step hi, hmost, wr (n := j.2.2.2.2.1 - 1) (by omega) (by omega), p2, wr_succ hi (by omega)]
    simp only [Option.bind_some]
    rw [wr (n := (if L[i] > 0 then L[i] else 0) * dpow j) (by omega) (by omega), wr (by omega) (by omega), ih _ (by omega) (by omega), drop_cons hi]
    simp only [top, List.map_cons, List.sum_cons]
    congr 1
    omega
theorem worth_small {j : DJob} (S : SearchOk j) {w : List Int} (W : WOk j w) : -38400000000000 ≤ worth j w j.2.2.1 ∧ worth j w j.2.2.1 ≤ 38400000000000 := by
  have := worth_bound S.toJobOk w j.2.2.1 (fun t ht => (W.w t ht).2) S.v
  have h1 := W.len
  have h2 := S.n12
  omega
theorem top_small {j : DJob} (S : SearchOk j) (k : Nat) : 0 ≤ top (dpow j) (j.2.2.1.drop k) ∧ top (dpow j) (j.2.2.1.drop k) ≤ 38400000000000 := by
  obtain ⟨h0, h1⟩ := dpow_bound S.toJobOk
  have := top_bound h0 h1 (j.2.2.1.drop k) fun v hv => S.v v (List.mem_of_mem_drop hv)
  have h2 := S.n12
  have h3 := S.lv
  rw [List.length_drop] at this
  omega
theorem srBound_ok {j : DJob} (S : SearchOk j) {w : List Int} (W : WOk j w) : spec_srBound j w = some (bnd j w) := by
  have hlv := S.lv
  have hn := S.n12
  have hl := W.len
  have hw := worth_small S W
  unfold spec_srBound spec_srBoundK
  rw [srWorth_ok j w S.toJobOk hl fun t ht => (W.w t ht).2]
  have c : (decide ((0 : Int) ≤ (w.length : Int)) && (decide ((w.length : Int) ≤ (j.2.2.1.length : Int)) && decide ((j.2.2.1.length : Int) ≤ (j.2.2.1.length : Int)))) = true := by
    have : (w.length : Int) ≤ (j.2.2.1.length : Int) := by omega
    simp [this]
  have e5 : (j.2.2.1.drop ((w.length : Int).toNat)).take ((j.2.2.1.length : Int).toNat - (w.length : Int).toNat) = j.2.2.1.drop w.length := by
    simp only [Int.toNat_natCast]
    exact List.take_of_length_le (by simp)
  have k0 := bound_loop' j S (j.2.2.1.drop w.length) (by simp; omega) (fun v hv => S.v v (List.mem_of_mem_drop hv)) 0 (Nat.zero_le _) (worth j w j.2.2.1) (by omega) (by omega)
  have k0 : spec_srBound_l0 (j.2.2.1.drop w.length) ((j.2.2.1.drop w.length).length : Int) j.2.2.2.2.1 j.2.2.2.2.2.2.1 (worth j w j.2.2.1) 0 = some (worth j w j.2.2.1 + top (dpow j) (j.2.2.1.drop w.length)) := k0
  simp only [Option.bind_some, c, cond_true, e5, k0]
  rfl
theorem getD_snoc_lt {w : List Int} {t : Int} {k : Nat} (h : k < w.length) : (w ++ [t]).getD k 0 = w.getD k 0 := by
  simp [List.getElem?_append_left h]
theorem fits_sum (j : DJob) (S : SearchOk j) (w : List Int) (W : WOk j w) (t : Int) : ∀ i, i ≤ w.length → ∀ a b : Int, 0 ≤ a → a ≤ 10000 * (i : Int) → 0 ≤ b → b ≤ 10000 * (i : Int) →
    spec_srFits_l1 t w (w.length : Int) j.2.1 j.2.2.1 a b (i : Int) =
      some (a + (ton (zip3 (w.drop i) (j.2.1.drop i) (j.2.2.1.drop i)) t).1, b + (ton (zip3 (w.drop i) (j.2.1.drop i) (j.2.2.1.drop i)) t).2) := by
  have hlen := W.len
  have hn := S.n2
  refine down (fun a b h1 h2 h3 h4 => ?_) fun i hi ih a b h1 h2 h3 h4 => ?_
  · rw [spec_srFits_l1_eq]; unfold spec_srFits_l1K
    rw [lt_out (Nat.le_refl _), List.drop_length]
    have e : ∀ a b, zip3 [] a b = [] := fun a b => by simp [zip3]
    simp [e, ton]
  · have hx : i < j.2.1.length := by have := S.lt; omega
    have hv : i < j.2.2.1.length := by have := S.lv; omega
    have hxb := S.t _ (List.getElem_mem hx)
    rw [spec_srFits_l1_eq]; unfold spec_srFits_l1K
    rw [loop_step hi, wr_succ hi (by omega), zip3_drop hi hx hv]
    simp only [lat_nat hx, lat_nat hv, Option.bind_some, ton]
    rw [wr (n := a + j.2.1[i]) (by omega) (by omega), wr (n := b + j.2.1[i]) (by omega) (by omega)]
    by_cases c : w[i] = t
    · simp only [c, beq_self_eq_true, cond_true, if_true]
      by_cases c2 : j.2.2.1[i] > 0
      · simp only [c2, decide_true, cond_true, if_true]
        rw [ih _ _ (by omega) (by omega) (by omega) (by omega)]
        simp only [Option.some.injEq, Prod.mk.injEq]
        constructor <;> omega
      · simp only [c2, decide_false, cond_false, if_false]
        rw [ih _ _ (by omega) (by omega) (by omega) (by omega)]
        simp only [Option.some.injEq, Prod.mk.injEq]
        constructor <;> omega
    · have c' : (w[i] == t) = false := by simp [c]
      simp only [c', cond_false, if_neg c]
      exact ih _ _ (by omega) (by omega) (by omega) (by omega)
theorem srFits_ok {j : DJob} (s : JobSm j) (S : SearchOk j) {w : List Int} (W : WOk j w) (h : w.length < j.1.length) {t : Int} (ht : -1 ≤ t ∧ t < j.2.2.2.2.1) :
    spec_srFits j (w ++ [t]) = some (decide (t < 0) || fitB j w t) := by
  have hn := S.n12
  unfold spec_srFits spec_srFitsK
  have e1 : IntKind.i64.wrap (((w ++ [t]).length : Int) - 1) = (w.length : Int) := by
    rw [wr] <;> simp <;> omega
  have e2 : lat (w ++ [t]) (w.length : Int) = some t := by
    rw [lat_nat (by simp)]; simp
  rw [e1, e2]
  simp only [Option.bind_some]
  by_cases c : t < 0
  · simp [c]
  · have hr : j.1[w.length].length ≤ 1048576 := s.r _ (List.getElem_mem h)
    have hg : j.1.getD w.length [] = j.1[w.length] := by simp [h]
    have h1 : spec_srFits_l0 (w ++ [t]) t j.1[w.length] (j.1[w.length].length : Int) 0 = some (if j.1[w.length].all (arcT w t) then .inr () else .inl false) := by
      refine allL_loop (f := fun k => spec_srFits_l0 (w ++ [t]) t j.1[w.length] (j.1[w.length].length : Int) k) ?_ fun k hk => ?_
      · show spec_srFits_l0 _ _ _ _ _ = _
        rw [spec_srFits_l0_eq]; unfold spec_srFits_l0K
        rw [lt_out (Nat.le_refl _)]
      · show spec_srFits_l0 _ _ _ _ _ = _
        have ha := (S.arc w.length h).1 _ (List.getElem_mem hk)
        have haw : j.1[w.length][k].toNat < w.length := by omega
        have haw2 : j.1[w.length][k].toNat < (w ++ [t]).length := by simp; omega
        have hga : (w ++ [t])[j.1[w.length][k].toNat] = w.getD j.1[w.length][k].toNat 0 := by
          rw [List.getElem_append_left haw]; simp [haw]
        rw [spec_srFits_l0_eq]; unfold spec_srFits_l0K
        rw [loop_step hk, wr_succ hk (by omega)]
        simp only [lat_int ha.1 haw2, Option.bind_some, l1In_ok, hga]
        show cond (!arcT w t j.1[w.length][k]) _ _ = _
        cases arcT w t j.1[w.length][k] <;> rfl
    have h2 := fits_sum j S (w ++ [t]) (W.snoc h ht) t 0 (Nat.zero_le _) 0 0 (by omega) (by simp) (by omega) (by simp)
    have h2 : spec_srFits_l1 t (w ++ [t]) ((w ++ [t]).length : Int) j.2.1 j.2.2.1 0 0 0 = some ((0 : Int) + (us j (w ++ [t]) t).1, (0 : Int) + (us j (w ++ [t]) t).2) := h2
    simp only [Int.zero_add] at h2
    simp only [c, decide_false, cond_false, lat_nat h, Option.bind_some, h1, h2, Bool.false_or, fitB, hg]
    cases j.1[w.length].all (arcT w t)
    · simp [sumO]
    · by_cases c1 : (us j (w ++ [t]) t).1 ≤ j.2.2.2.1.1 <;> simp [sumO, c1]
theorem l1Own_ok (l : List Int) (h : l.length ≤ 1099511627776) : spec_l1Own l = some l := by
  unfold spec_l1Own spec_l1OwnK
  have hcap : ([] : List Int).length + l.length ≤ 1099511627776 := by simp; omega
  simp only [hcap, decide_true, cond_true, List.nil_append]
theorem srKids_loop {j : DJob} (s : JobSm j) (S : SearchOk j) {w : List Int} (W : WOk j w) (h : w.length < j.1.length) : ∀ i, i ≤ (pers j).length → ∀ acc : List (List Int), acc.length ≤ i →
    spec_srKids_l0 w j.1 j.2.1 j.2.2.1 j.2.2.2.1.1 j.2.2.2.1.2.1 j.2.2.2.2.1 j.2.2.2.2.2.1 j.2.2.2.2.2.2.1 (i : Int) acc = some (acc ++ (((pers j).drop i).filter (fitB j w) ++ [-1]).map fun t => w ++ [t]) := by
  have hper := S.per
  have h12 := S.n12
  have hpl := pers_len j
  refine down (fun acc ha => ?_) fun i hi ih acc ha => ?_
  · have e : ((pers j).length : Int) = j.2.2.2.2.1 := by omega
    rw [spec_srKids_l0_eq]; unfold spec_srKids_l0K
    have hcap : w.length + [(-1 : Int)].length ≤ 1099511627776 := by simp; omega
    have hcap2 : acc.length + [w ++ [(-1 : Int)]].length ≤ 1099511627776 := by simp; omega
    have hf := srFits_ok s S W h (t := -1) (by omega)
    rw [e, l1Own_ok w (by omega), wr (n := j.2.2.2.2.1 + 1) (by omega) (by omega)]
    simp only [jobEta, hf, Int.le_refl, decide_true, cond_true, beq_self_eq_true, Option.bind_some, hcap, hcap2, List.drop_length, List.filter_nil, List.nil_append, List.map_cons, List.map_nil]
    have c : decide ((-1 : Int) < 0) = true := by decide
    simp only [c, Bool.true_or, cond_true]
    rw [spec_srKids_l0_eq]; unfold spec_srKids_l0K
    have c2 : ¬ j.2.2.2.2.1 + 1 ≤ j.2.2.2.2.1 := by omega
    simp only [c2, decide_false, cond_false]
  · have hlt : (i : Int) < j.2.2.2.2.1 := by omega
    have c1 : (i : Int) ≤ j.2.2.2.2.1 := by omega
    have c2 : ((i : Int) == j.2.2.2.2.1) = false := by simp; omega
    have hcap : w.length + [(i : Int)].length ≤ 1099511627776 := by simp; omega
    have hcap2 : acc.length + [w ++ [(i : Int)]].length ≤ 1099511627776 := by simp; omega
    have hf := srFits_ok s S W h (t := (i : Int)) (by omega)
    have c3 : ¬ (i : Int) < 0 := by omega
    rw [spec_srKids_l0_eq]; unfold spec_srKids_l0K
    rw [l1Own_ok w (by omega), wr_succ hi (by omega)]
    simp only [jobEta, hf, c1, decide_true, cond_true, c2, cond_false, Option.bind_some, hcap, hcap2, c3, decide_false, Bool.false_or]
    rw [drop_cons hi, pers_get hi]
    cases hc : fitB j w (i : Int)
    · simp only [cond_false, List.filter_cons, hc, if_false, Bool.false_eq_true]
      exact ih acc (by omega)
    · simp only [cond_true, List.filter_cons, hc, if_true]
      rw [ih _ (by simp; omega)]
      simp
theorem srKids_ok {j : DJob} (s : JobSm j) (S : SearchOk j) {w : List Int} (W : WOk j w) (h : w.length < j.1.length) : spec_srKids j w = some ((kidsT j w).map fun t => w ++ [t]) := by
  unfold spec_srKids spec_srKidsK
  have k := srKids_loop s S W h 0 (Nat.zero_le _) [] (by simp)
  have k : spec_srKids_l0 w j.1 j.2.1 j.2.2.1 j.2.2.2.1.1 j.2.2.2.1.2.1 j.2.2.2.2.1 j.2.2.2.2.2.1 j.2.2.2.2.2.2.1 0 [] = some ((kidsT j w).map fun t => w ++ [t]) := k
  rw [k]; rfl
theorem l1Most_ok (a b : Int) : spec_l1Most a b = some (if b > a then b else a) := by
  unfold spec_l1Most spec_l1MostK
  by_cases c : a > b
  · have : ¬ b > a := by omega
    simp [c, this]
  · by_cases c2 : b > a
    · simp [c, c2]
    · have : a = b := by omega
      simp [this]
def spS (j : DJob) (most : Int) (s : AS) : (List (List Int)) × (List Int) × (List Int) × Int × Int × Int × Int × Int × Int × (List Int) × Int × Int × Int :=
  (j.1, j.2.1, j.2.2.1, j.2.2.2.1.1, j.2.2.2.1.2.1, j.2.2.2.2.1, j.2.2.2.2.2.1, j.2.2.2.2.2.2.1, most, s.best, s.worth, s.opn, s.nodes)
theorem refVisit_ok {j : DJob} (sm : JobSm j) (S : SearchOk j) {most : Int} (hmost : most ≤ 20001) : ∀ m w s, WOk j w → w.length + m = j.1.length → NOk most s →
    spec_srState_visit (spS j most s) w = some (spS j most (go j most m w s)) := by
  have h12 := S.n12
  intro m
  induction m with
  | zero =>
    intro w s W hl hs
    have h0 := hs.n0
    have h1 := hs.n1
    rw [spec_srState_visit_eq]; unfold spec_srState_visitK
    simp only [spS, jobEta]
    rw [srBound_ok S W]
    simp only [Option.bind_some, go]
    by_cases c : s.nodes = most
    · simp only [c, beq_self_eq_true, cond_true, if_true, l1Most_ok, Option.bind_some]; simp only [stopAt, c]
    · have c' : (s.nodes == most) = false := by simp [c]
      rw [wr (n := s.nodes + 1) (by omega) (by omega)]
      simp only [c', cond_false, if_neg c]
      by_cases c2 : bnd j w ≤ s.worth
      · simp only [c2, decide_true, cond_true, if_true]; rfl
      · have c3 : ((w.length : Int) == (j.1.length : Int)) = true := by simp; omega
        simp only [c2, decide_false, cond_false, if_false, c3, cond_true]; rfl
  | succ m ih =>
    intro w s W hl hs
    have h0 := hs.n0
    have h1 := hs.n1
    have hwl : w.length < j.1.length := by omega
    rw [spec_srState_visit_eq]; unfold spec_srState_visitK
    simp only [spS, jobEta]
    rw [srBound_ok S W]
    simp only [Option.bind_some, go]
    by_cases c : s.nodes = most
    · simp only [c, beq_self_eq_true, cond_true, if_true, l1Most_ok, Option.bind_some]; simp only [stopAt, c]
    · have c' : (s.nodes == most) = false := by simp [c]
      rw [wr (n := s.nodes + 1) (by omega) (by omega)]
      simp only [c', cond_false, if_neg c]
      by_cases c2 : bnd j w ≤ s.worth
      · simp only [c2, decide_true, cond_true, if_true]; rfl
      · have c3 : ((w.length : Int) == (j.1.length : Int)) = false := by simp; omega
        simp only [c2, decide_false, cond_false, if_false, c3, srKids_ok sm S W hwl, Option.bind_some]
        have hkl : (kidsT j w).length ≤ 1000 := by
          have := List.length_filter_le (fitB j w) (pers j)
          have h2 := pers_len j
          have h3 := S.per
          simp only [kidsT, List.length_append, List.length_singleton]; omega
        have key : ∀ i, i ≤ (kidsT j w).length → ∀ s : AS, NOk most s → spec_srState_visit_l0 (fun x => spec_srState_visit x.1 x.2) ((kidsT j w).map fun t => w ++ [t]) (((kidsT j w).map fun t => w ++ [t]).length : Int) (i : Int)
            j.1 j.2.1 j.2.2.1 j.2.2.2.1.1 j.2.2.2.1.2.1 j.2.2.2.2.1 j.2.2.2.2.2.1 j.2.2.2.2.2.2.1 most s.best s.worth s.opn s.nodes = some (spS j most (((kidsT j w).drop i).foldl (fun s t => go j most m (w ++ [t]) s) s)) := by
          refine down (fun s hs => ?_) fun i hi ihi s hs => ?_
          · rw [spec_srState_visit_l0_eq]; unfold spec_srState_visit_l0K
            rw [lt_out (by simp), List.drop_length]; rfl
          · have him : i < ((kidsT j w).map fun t => w ++ [t]).length := by simpa using hi
            have hk := kids_mem (j := j) (w := w) (by have := S.per; omega) (List.getElem_mem hi)
            rw [spec_srState_visit_l0_eq]; unfold spec_srState_visit_l0K
            rw [loop_step him, wr_succ hi (by omega), List.getElem_map]
            have := ih (w ++ [(kidsT j w)[i]]) s (W.snoc hwl hk) (by simp; omega) hs
            simp only [spS] at this
            simp only [this, Option.bind_some]
            rw [drop_cons hi, List.foldl_cons]
            exact ihi _ (go_nodes j most m _ s hs)
        have := key 0 (Nat.zero_le _) s.up (hs.up c)
        simp only [AS.up] at this
        rw [show ((0 : Nat) : Int) = 0 from rfl] at this
        rw [this]; rfl
end
end Go.OAI
