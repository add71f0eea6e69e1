/- The search, in plain words. -/
import Derived.Test.YtejiaikhdjanoaaGreatP1
import Derived.Test.YtejiaikhdjanoaaGreatGX
import Derived.Test.YtejiaikhdjanoaaGreatGP
import Derived.Test.YtejiaikhdjanoaaGreatGO
namespace Go.OAI
set_option linter.unusedVariables false
noncomputable section
structure AS where
  best : List Int
  worth : Int
  opn : Int
  nodes : Int
  stop : Bool
def dpow (j : DJob) : Int := j.2.2.2.2.2.2.1 ^ (j.2.2.2.2.1 - 1).toNat
def bnd (j : DJob) (w : List Int) : Int := worth j w j.2.2.1 + top (dpow j) (j.2.2.1.drop w.length)
def us (j : DJob) (w : List Int) (t : Int) : Int × Int := ton (zip3 w j.2.1 j.2.2.1) t
def arcT (w : List Int) (t a : Int) : Bool := decide (0 ≤ w.getD a.toNat 0) && decide (w.getD a.toNat 0 ≤ t)
def fitB (j : DJob) (w : List Int) (t : Int) : Bool :=
  (j.1.getD w.length []).all (arcT w t) && (decide ((us j (w ++ [t]) t).1 ≤ j.2.2.2.1.1) && decide ((us j (w ++ [t]) t).2 ≤ j.2.2.2.1.2.1))
def pers (j : DJob) : List Int := (List.range j.2.2.2.2.1.toNat).map fun t : Nat => (t : Int)
def kidsT (j : DJob) (w : List Int) : List Int := (pers j).filter (fitB j w) ++ [-1]
def stopAt (j : DJob) (w : List Int) (s : AS) : AS := { s with opn := if bnd j w > s.opn then bnd j w else s.opn, stop := true }
def AS.up (s : AS) : AS := { s with nodes := s.nodes + 1 }
def go (j : DJob) (most : Int) : Nat → List Int → AS → AS
  | 0, w, s => if s.nodes = most then stopAt j w s else if bnd j w ≤ s.worth then s.up else { s.up with best := w, worth := bnd j w }
  | m + 1, w, s => if s.nodes = most then stopAt j w s else if bnd j w ≤ s.worth then s.up else
      (kidsT j w).foldl (fun s t => go j most m (w ++ [t]) s) s.up
structure NOk (most : Int) (s : AS) : Prop where
  n0 : 0 ≤ s.nodes
  n1 : s.nodes ≤ most
theorem NOk.stop {most : Int} {s : AS} (h : NOk most s) (j : DJob) (w : List Int) : NOk most (stopAt j w s) := ⟨h.n0, h.n1⟩
theorem NOk.up {most : Int} {s : AS} (h : NOk most s) (hn : ¬ s.nodes = most) : NOk most s.up := ⟨by have := h.n0; show 0 ≤ s.nodes + 1; omega, by have := h.n1; show s.nodes + 1 ≤ most; omega⟩
theorem go_nodes (j : DJob) (most : Int) : ∀ m w s, NOk most s → NOk most (go j most m w s)
  | 0, w, s, h => by
    unfold go
    by_cases c : s.nodes = most
    · rw [if_pos c]; exact h.stop j w
    · rw [if_neg c]
      split
      · exact h.up c
      · exact ⟨(h.up c).n0, (h.up c).n1⟩
  | m + 1, w, s, h => by
    unfold go
    by_cases c : s.nodes = most
    · rw [if_pos c]; exact h.stop j w
    · rw [if_neg c]
      split
      · exact h.up c
      · have key : ∀ (K : List Int) (s : AS), NOk most s → NOk most (K.foldl (fun s t => go j most m (w ++ [t]) s) s) := by
          intro K
          induction K with
          | nil => exact fun s h => h
          | cons t K ih => exact fun s h => ih _ (go_nodes j most m _ s h)
        exact key _ _ (h.up c)
structure WOk (j : DJob) (w : List Int) : Prop where
  len : w.length ≤ j.1.length
  w : ∀ x ∈ w, -1 ≤ x ∧ x < j.2.2.2.2.1
theorem WOk.snoc {j : DJob} {w : List Int} (W : WOk j w) (h : w.length < j.1.length) {t : Int} (ht : -1 ≤ t ∧ t < j.2.2.2.2.1) : WOk j (w ++ [t]) :=
  ⟨by simp; omega, fun x hx => by
    rcases List.mem_append.1 hx with h | h
    · exact W.w x h
    · have := List.mem_singleton.1 h; subst this; exact ht⟩
theorem pers_len (j : DJob) : (pers j).length = j.2.2.2.2.1.toNat := by simp [pers]
theorem pers_get {j : DJob} {i : Nat} (h : i < (pers j).length) : (pers j)[i] = (i : Int) := by simp [pers]
theorem pers_mem {j : DJob} {t : Int} (h : t ∈ pers j) : 0 ≤ t ∧ t < j.2.2.2.2.1 := by
  obtain ⟨i, hi, rfl⟩ := List.getElem_of_mem h
  rw [pers_get hi]; rw [pers_len] at hi; omega
theorem kids_mem {j : DJob} {w : List Int} {t : Int} (hp : 1 ≤ j.2.2.2.2.1) (h : t ∈ kidsT j w) : -1 ≤ t ∧ t < j.2.2.2.2.1 := by
  rcases List.mem_append.1 h with h | h
  · have := pers_mem (List.mem_filter.1 h).1; omega
  · have := List.mem_singleton.1 h; omega
theorem dpow_bound {j : DJob} (J : JobOk j) : 0 ≤ dpow j ∧ dpow j ≤ 3200000 := by
  have hper := J.per
  have hden := J.den
  have hnum := J.num
  have hp := pow_le20 (b := j.2.2.2.2.2.2.1) (by omega) (by omega) (j.2.2.2.2.1 - 1).toNat
  have hp20 := pow20 (n := (j.2.2.2.2.1 - 1).toNat) (by omega)
  unfold dpow
  omega
theorem bound_loop' (j : DJob) (S : SearchOk j) (L : List Int) (hL : L.length ≤ 12) (hv : ∀ v ∈ L, -1000000 ≤ v ∧ v ≤ 1000000) : ∀ i, i ≤ L.length → ∀ a : Int, -100000000000000 ≤ a → a ≤ 100000000000000 + 3200000000000 * (i : Int) →
    spec_srBound_l0 L (L.length : Int) j.2.2.2.2.1 j.2.2.2.2.2.2.1 a (i : Int) = some (a + top (dpow j) (L.drop i)) := by
  have hper := S.per
  have hden := S.den
  have hnum := S.num
  obtain ⟨h0, h1⟩ := dpow_bound S.toJobOk
  refine down (fun a h2 h3 => ?_) fun i hi ih a h2 h3 => ?_
  · rw [spec_srBound_l0_eq]; unfold spec_srBound_l0K
    rw [lt_out (Nat.le_refl _), List.drop_length]; simp [top]
  · have hv := hv _ (List.getElem_mem hi)
    have e : j.2.2.2.2.1 - 1 = (((j.2.2.2.2.1 - 1).toNat : Nat) : Int) := by omega
    have p2 : spec_srPower j.2.2.2.2.2.2.1 (j.2.2.2.2.1 - 1) = some (dpow j) := by
      have := spec_srPower_ok j.2.2.2.2.2.2.1 (by omega) (by omega) (j.2.2.2.2.1 - 1).toNat (by omega)
      rw [← e] at this; exact this
    have hm := mul_bound (v := if L[i] > 0 then L[i] else 0) (f := dpow j) (by split <;> omega) ⟨h0, h1⟩
    have h4 : 0 ≤ (if L[i] > 0 then L[i] else 0) * dpow j := Int.mul_nonneg (by split <;> omega) h0
    have hmost : spec_l1Most L[i] 0 = some (if L[i] > 0 then L[i] else 0) := by
      unfold spec_l1Most spec_l1MostK
      by_cases c : L[i] > 0 <;> simp [c]
    rw [spec_srBound_l0_eq]; unfold spec_srBound_l0K
    rw [loop_step hi, hmost, wr (n := j.2.2.2.2.1 - 1) (by omega) (by omega), p2, wr_succ hi (by omega)]
    simp only [Option.bind_some]
    rw [wr (n := (if L[i] > 0 then L[i] else 0) * dpow j) (by omega) (by omega), wr (by omega) (by omega), ih _ (by omega) (by omega), drop_cons hi]
    simp only [top, List.map_cons, List.sum_cons]
    congr 1
    omega
theorem worth_small {j : DJob} (S : SearchOk j) {w : List Int} (W : WOk j w) : -38400000000000 ≤ worth j w j.2.2.1 ∧ worth j w j.2.2.1 ≤ 38400000000000 := by
  have := worth_bound S.toJobOk w j.2.2.1 (fun t ht => (W.w t ht).2) S.v
  have h1 := W.len
  have h2 := S.n12
  omega
theorem top_small {j : DJob} (S : SearchOk j) (k : Nat) : 0 ≤ top (dpow j) (j.2.2.1.drop k) ∧ top (dpow j) (j.2.2.1.drop k) ≤ 38400000000000 := by
  obtain ⟨h0, h1⟩ := dpow_bound S.toJobOk
  have := top_bound h0 h1 (j.2.2.1.drop k) fun v hv => S.v v (List.mem_of_mem_drop hv)
  have h2 := S.n12
  have h3 := S.lv
  rw [List.length_drop] at this
  omega
theorem srBound_ok {j : DJob} (S : SearchOk j) {w : List Int} (W : WOk j w) : spec_srBound j w = some (bnd j w) := by
  have hlv := S.lv
  have hn := S.n12
  have hl := W.len
  have hw := worth_small S W
  unfold spec_srBound spec_srBoundK
  rw [srWorth_ok j w S.toJobOk hl fun t ht => (W.w t ht).2]
  have c : (decide ((0 : Int) ≤ (w.length : Int)) && (decide ((w.length : Int) ≤ (j.2.2.1.length : Int)) && decide ((j.2.2.1.length : Int) ≤ (j.2.2.1.length : Int)))) = true := by
    have : (w.length : Int) ≤ (j.2.2.1.length : Int) := by omega
    simp [this]
  have e5 : (j.2.2.1.drop ((w.length : Int).toNat)).take ((j.2.2.1.length : Int).toNat - (w.length : Int).toNat) = j.2.2.1.drop w.length := by
    simp only [Int.toNat_natCast]
    exact List.take_of_length_le (by simp)
  have k0 := bound_loop' j S (j.2.2.1.drop w.length) (by simp; omega) (fun v hv => S.v v (List.mem_of_mem_drop hv)) 0 (Nat.zero_le _) (worth j w j.2.2.1) (by omega) (by omega)
  have k0 : spec_srBound_l0 (j.2.2.1.drop w.length) ((j.2.2.1.drop w.length).length : Int) j.2.2.2.2.1 j.2.2.2.2.2.2.1 (worth j w j.2.2.1) 0 = some (worth j w j.2.2.1 + top (dpow j) (j.2.2.1.drop w.length)) := k0
  simp only [Option.bind_some, c, cond_true, e5, k0]
  rfl
theorem fits_sum (j : DJob) (S : SearchOk j) (w : List Int) (W : WOk j w) (t : Int) : ∀ i, i ≤ w.length → ∀ a b : Int, 0 ≤ a → a ≤ 10000 * (i : Int) → 0 ≤ b → b ≤ 10000 * (i : Int) →
    spec_srFits_l1 t w (w.length : Int) j.2.1 j.2.2.1 a b (i : Int) =
      some (a + (ton (zip3 (w.drop i) (j.2.1.drop i) (j.2.2.1.drop i)) t).1, b + (ton (zip3 (w.drop i) (j.2.1.drop i) (j.2.2.1.drop i)) t).2) := by
  have hlen := W.len
  have hn := S.n2
  refine down (fun a b h1 h2 h3 h4 => ?_) fun i hi ih a b h1 h2 h3 h4 => ?_
  · rw [spec_srFits_l1_eq]; unfold spec_srFits_l1K
    rw [lt_out (Nat.le_refl _), List.drop_length]
    have e : ∀ a b, zip3 [] a b = [] := fun a b => by simp [zip3]
    simp [e, ton]
  · have hx : i < j.2.1.length := by have := S.lt; omega
    have hv : i < j.2.2.1.length := by have := S.lv; omega
    have hxb := S.t _ (List.getElem_mem hx)
    rw [spec_srFits_l1_eq]; unfold spec_srFits_l1K
    rw [loop_step hi, wr_succ hi (by omega), zip3_drop hi hx hv]
    simp only [lat_nat hx, lat_nat hv, Option.bind_some, ton]
    rw [wr (n := a + j.2.1[i]) (by omega) (by omega), wr (n := b + j.2.1[i]) (by omega) (by omega)]
    by_cases c : w[i] = t
    · simp only [c, beq_self_eq_true, cond_true, if_true]
      by_cases c2 : j.2.2.1[i] > 0
      · simp only [c2, decide_true, cond_true, if_true]
        rw [ih _ _ (by omega) (by omega) (by omega) (by omega)]
        simp only [Option.some.injEq, Prod.mk.injEq]
        constructor <;> omega
      · simp only [c2, decide_false, cond_false, if_false]
        rw [ih _ _ (by omega) (by omega) (by omega) (by omega)]
        simp only [Option.some.injEq, Prod.mk.injEq]
        constructor <;> omega
    · have c' : (w[i] == t) = false := by simp [c]
      simp only [c', cond_false, if_neg c]
      exact ih _ _ (by omega) (by omega) (by omega) (by omega)
theorem srFits_ok {j : DJob} (s : JobSm j) (S : SearchOk j) {w : List Int} (W : WOk j w) (h : w.length < j.1.length) {t : Int} (ht : -1 ≤ t ∧ t < j.2.2.2.2.1) :
    spec_srFits j (w ++ [t]) = some (decide (t < 0) || fitB j w t) := by
  have hn := S.n12
  unfold spec_srFits spec_srFitsK
  have e1 : IntKind.i64.wrap (((w ++ [t]).length : Int) - 1) = (w.length : Int) := by
    rw [wr] <;> simp <;> omega
  have e2 : lat (w ++ [t]) (w.length : Int) = some t := by
    rw [lat_nat (by simp)]; simp
  rw [e1, e2]
  simp only [Option.bind_some]
  by_cases c : t < 0
  · simp [c]
  · have hr : j.1[w.length].length ≤ 1048576 := s.r _ (List.getElem_mem h)
    have hg : j.1.getD w.length [] = j.1[w.length] := by simp [h]
    have h1 : spec_srFits_l0 (w ++ [t]) t j.1[w.length] (j.1[w.length].length : Int) 0 = some (if j.1[w.length].all (arcT w t) then .inr () else .inl false) := by
      refine allL_loop (f := fun k => spec_srFits_l0 (w ++ [t]) t j.1[w.length] (j.1[w.length].length : Int) k) ?_ fun k hk => ?_
      · show spec_srFits_l0 _ _ _ _ _ = _
        rw [spec_srFits_l0_eq]; unfold spec_srFits_l0K
        rw [lt_out (Nat.le_refl _)]
      · show spec_srFits_l0 _ _ _ _ _ = _
        have ha := (S.arc w.length h).1 _ (List.getElem_mem hk)
        have haw : j.1[w.length][k].toNat < w.length := by omega
        have haw2 : j.1[w.length][k].toNat < (w ++ [t]).length := by simp; omega
        have hga : (w ++ [t])[j.1[w.length][k].toNat] = w.getD j.1[w.length][k].toNat 0 := by
          rw [List.getElem_append_left haw]; simp [haw]
        rw [spec_srFits_l0_eq]; unfold spec_srFits_l0K
        rw [loop_step hk, wr_succ hk (by omega)]
        simp only [lat_int ha.1 haw2, Option.bind_some, l1In_ok, hga]
        show cond (!arcT w t j.1[w.length][k]) _ _ = _
        cases arcT w t j.1[w.length][k] <;> rfl
    have h2 := fits_sum j S (w ++ [t]) (W.snoc h ht) t 0 (Nat.zero_le _) 0 0 (by omega) (by simp) (by omega) (by simp)
    have h2 : spec_srFits_l1 t (w ++ [t]) ((w ++ [t]).length : Int) j.2.1 j.2.2.1 0 0 0 = some ((0 : Int) + (us j (w ++ [t]) t).1, (0 : Int) + (us j (w ++ [t]) t).2) := h2
    simp only [Int.zero_add] at h2
    simp only [c, decide_false, cond_false, lat_nat h, Option.bind_some, h1, h2, Bool.false_or, fitB, hg]
    cases j.1[w.length].all (arcT w t)
    · simp [sumO]
    · by_cases c1 : (us j (w ++ [t]) t).1 ≤ j.2.2.2.1.1 <;> simp [sumO, c1]
theorem l1Own_ok (l : List Int) (h : l.length ≤ 1099511627776) : spec_l1Own l = some l := by
  unfold spec_l1Own spec_l1OwnK
  have hcap : ([] : List Int).length + l.length ≤ 1099511627776 := by simp; omega
  simp only [hcap, decide_true, cond_true, List.nil_append]
theorem srKids_loop {j : DJob} (s : JobSm j) (S : SearchOk j) {w : List Int} (W : WOk j w) (h : w.length < j.1.length) : ∀ i, i ≤ (pers j).length → ∀ acc : List (List Int), acc.length ≤ i →
    spec_srKids_l0 w j.1 j.2.1 j.2.2.1 j.2.2.2.1.1 j.2.2.2.1.2.1 j.2.2.2.2.1 j.2.2.2.2.2.1 j.2.2.2.2.2.2.1 (i : Int) acc = some (acc ++ (((pers j).drop i).filter (fitB j w) ++ [-1]).map fun t => w ++ [t]) := by
  have hper := S.per
  have h12 := S.n12
  have hpl := pers_len j
  refine down (fun acc ha => ?_) fun i hi ih acc ha => ?_
  · have e : ((pers j).length : Int) = j.2.2.2.2.1 := by omega
    rw [spec_srKids_l0_eq]; unfold spec_srKids_l0K
    have hcap : w.length + [(-1 : Int)].length ≤ 1099511627776 := by simp; omega
    have hcap2 : acc.length + [w ++ [(-1 : Int)]].length ≤ 1099511627776 := by simp; omega
    have hf := srFits_ok s S W h (t := -1) (by omega)
    rw [e, l1Own_ok w (by omega), wr (n := j.2.2.2.2.1 + 1) (by omega) (by omega)]
    simp only [jobEta, hf, Int.le_refl, decide_true, cond_true, beq_self_eq_true, Option.bind_some, hcap, hcap2, List.drop_length, List.filter_nil, List.nil_append, List.map_cons, List.map_nil]
    have c : decide ((-1 : Int) < 0) = true := by decide
    simp only [c, Bool.true_or, cond_true]
    rw [spec_srKids_l0_eq]; unfold spec_srKids_l0K
    have c2 : ¬ j.2.2.2.2.1 + 1 ≤ j.2.2.2.2.1 := by omega
    simp only [c2, decide_false, cond_false]
  · have hlt : (i : Int) < j.2.2.2.2.1 := by omega
    have c1 : (i : Int) ≤ j.2.2.2.2.1 := by omega
    have c2 : ((i : Int) == j.2.2.2.2.1) = false := by simp; omega
    have hcap : w.length + [(i : Int)].length ≤ 1099511627776 := by simp; omega
    have hcap2 : acc.length + [w ++ [(i : Int)]].length ≤ 1099511627776 := by simp; omega
    have hf := srFits_ok s S W h (t := (i : Int)) (by omega)
    have c3 : ¬ (i : Int) < 0 := by omega
    rw [spec_srKids_l0_eq]; unfold spec_srKids_l0K
    rw [l1Own_ok w (by omega), wr_succ hi (by omega)]
    simp only [jobEta, hf, c1, decide_true, cond_true, c2, cond_false, Option.bind_some, hcap, hcap2, c3, decide_false, Bool.false_or]
    rw [drop_cons hi, pers_get hi]
    cases hc : fitB j w (i : Int)
    · simp only [cond_false, List.filter_cons, hc, if_false, Bool.false_eq_true]
      exact ih acc (by omega)
    · simp only [cond_true, List.filter_cons, hc, if_true]
      rw [ih _ (by simp; omega)]
      simp
theorem srKids_ok {j : DJob} (s : JobSm j) (S : SearchOk j) {w : List Int} (W : WOk j w) (h : w.length < j.1.length) : spec_srKids j w = some ((kidsT j w).map fun t => w ++ [t]) := by
  unfold spec_srKids spec_srKidsK
  have k := srKids_loop s S W h 0 (Nat.zero_le _) [] (by simp)
  have k : spec_srKids_l0 w j.1 j.2.1 j.2.2.1 j.2.2.2.1.1 j.2.2.2.1.2.1 j.2.2.2.2.1 j.2.2.2.2.2.1 j.2.2.2.2.2.2.1 0 [] = some ((kidsT j w).map fun t => w ++ [t]) := k
  rw [k]; rfl
theorem l1Most_ok (a b : Int) : spec_l1Most a b = some (if b > a then b else a) := by
  unfold spec_l1Most spec_l1MostK
  by_cases c : a > b
  · have : ¬ b > a := by omega
    simp [c, this]
  · by_cases c2 : b > a
    · simp [c, c2]
    · have : a = b := by omega
      simp [this]
def spS (j : DJob) (most : Int) (s : AS) : (List (List Int)) × (List Int) × (List Int) × Int × Int × Int × Int × Int × Int × (List Int) × Int × Int × Int :=
  (j.1, j.2.1, j.2.2.1, j.2.2.2.1.1, j.2.2.2.1.2.1, j.2.2.2.2.1, j.2.2.2.2.2.1, j.2.2.2.2.2.2.1, most, s.best, s.worth, s.opn, s.nodes)
theorem refVisit_ok {j : DJob} (sm : JobSm j) (S : SearchOk j) {most : Int} (hmost : most ≤ 20001) : ∀ m w s, WOk j w → w.length + m = j.1.length → NOk most s →
    spec_srState_visit (spS j most s) w = some (spS j most (go j most m w s)) := by
  have h12 := S.n12
  intro m
  induction m with
  | zero =>
    intro w s W hl hs
    have h0 := hs.n0
    have h1 := hs.n1
    rw [spec_srState_visit_eq]; unfold spec_srState_visitK
    simp only [spS, jobEta]
    rw [srBound_ok S W]
    simp only [Option.bind_some, go]
    by_cases c : s.nodes = most
    · simp only [c, beq_self_eq_true, cond_true, if_true, l1Most_ok, Option.bind_some]; simp only [stopAt, c]
    · have c' : (s.nodes == most) = false := by simp [c]
      rw [wr (n := s.nodes + 1) (by omega) (by omega)]
      simp only [c', cond_false, if_neg c]
      by_cases c2 : bnd j w ≤ s.worth
      · simp only [c2, decide_true, cond_true, if_true]; rfl
      · have c3 : ((w.length : Int) == (j.1.length : Int)) = true := by simp; omega
        simp only [c2, decide_false, cond_false, if_false, c3, cond_true]; rfl
  | succ m ih =>
    intro w s W hl hs
    have h0 := hs.n0
    have h1 := hs.n1
    have hwl : w.length < j.1.length := by omega
    rw [spec_srState_visit_eq]; unfold spec_srState_visitK
    simp only [spS, jobEta]
    rw [srBound_ok S W]
    simp only [Option.bind_some, go]
    by_cases c : s.nodes = most
    · simp only [c, beq_self_eq_true, cond_true, if_true, l1Most_ok, Option.bind_some]; simp only [stopAt, c]
    · have c' : (s.nodes == most) = false := by simp [c]
      rw [wr (n := s.nodes + 1) (by omega) (by omega)]
      simp only [c', cond_false, if_neg c]
      by_cases c2 : bnd j w ≤ s.worth
      · simp only [c2, decide_true, cond_true, if_true]; rfl
      · have c3 : ((w.length : Int) == (j.1.length : Int)) = false := by simp; omega
        simp only [c2, decide_false, cond_false, if_false, c3, srKids_ok sm S W hwl, Option.bind_some]
        have hkl : (kidsT j w).length ≤ 1000 := by
          have := List.length_filter_le (fitB j w) (pers j)
          have h2 := pers_len j
          have h3 := S.per
          simp only [kidsT, List.length_append, List.length_singleton]; omega
        have key : ∀ i, i ≤ (kidsT j w).length → ∀ s : AS, NOk most s → spec_srState_visit_l0 (fun x => spec_srState_visit x.1 x.2) ((kidsT j w).map fun t => w ++ [t]) (((kidsT j w).map fun t => w ++ [t]).length : Int) (i : Int)
            j.1 j.2.1 j.2.2.1 j.2.2.2.1.1 j.2.2.2.1.2.1 j.2.2.2.2.1 j.2.2.2.2.2.1 j.2.2.2.2.2.2.1 most s.best s.worth s.opn s.nodes = some (spS j most (((kidsT j w).drop i).foldl (fun s t => go j most m (w ++ [t]) s) s)) := by
          refine down (fun s hs => ?_) fun i hi ihi s hs => ?_
          · rw [spec_srState_visit_l0_eq]; unfold spec_srState_visit_l0K
            rw [lt_out (by simp), List.drop_length]; rfl
          · have him : i < ((kidsT j w).map fun t => w ++ [t]).length := by simpa using hi
            have hk := kids_mem (j := j) (w := w) (by have := S.per; omega) (List.getElem_mem hi)
            rw [spec_srState_visit_l0_eq]; unfold spec_srState_visit_l0K
            rw [loop_step him, wr_succ hi (by omega), List.getElem_map]
            have := ih (w ++ [(kidsT j w)[i]]) s (W.snoc hwl hk) (by simp; omega) hs
            simp only [spS] at this
            simp only [this, Option.bind_some]
            rw [drop_cons hi, List.foldl_cons]
            exact ihi _ (go_nodes j most m _ s hs)
        have := key 0 (Nat.zero_le _) s.up (hs.up c)
        simp only [AS.up] at this
        rw [show ((0 : Nat) : Int) = 0 from rfl] at this
        rw [this]; rfl
end
noncomputable section
def pad (n : Nat) (w : List Int) : List Int := w ++ List.replicate (n - w.length) (-1)
theorem pad_len {n : Nat} {w : List Int} (h : w.length ≤ n) : (pad n w).length = n := by simp [pad]; omega
theorem pad_set {n : Nat} {w : List Int} (h : w.length < n) (t : Int) : (pad n w).set w.length t = pad n (w ++ [t]) := by
  have e : n - w.length = (n - (w.length + 1)) + 1 := by omega
  unfold pad
  rw [e, List.replicate_succ, List.set_append_right _ _ (Nat.le_refl _)]
  simp
theorem pad_unset {n : Nat} {w : List Int} (h : w.length < n) (t : Int) : (pad n (w ++ [t])).set w.length (-1) = pad n w := by
  have e : n - w.length = (n - (w.length + 1)) + 1 := by omega
  unfold pad
  rw [e, List.replicate_succ, List.append_assoc, List.set_append_right _ _ (Nat.le_refl _)]
  simp
theorem pad_last {n : Nat} {w : List Int} {t : Int} : (pad n (w ++ [t])).getD w.length 0 = t := by
  simp [pad]
theorem pad_lt {n : Nat} {w : List Int} {t : Int} {a : Nat} (h : a < w.length) : (pad n (w ++ [t])).getD a 0 = w.getD a 0 := by
  simp [pad, List.getElem?_append_left h]
theorem pad_all {n : Nat} {w : List Int} (h : w.length = n) : pad n w = w := by simp [pad, h]
theorem pad_ok {j : DJob} {w : List Int} (hp : 1 ≤ j.2.2.2.2.1) (W : WOk j w) : PlanOk j (j.2.2.2.2.1, pad j.1.length w, ()) :=
  ⟨rfl, pad_len W.len, fun x hx => by
    rcases List.mem_append.1 hx with h | h
    · exact W.w x h
    · have := List.eq_of_mem_replicate h; omega⟩
theorem ton_snoc : ∀ (w x v : List Int) (t y : Int) (hx : w.length < x.length) (hv : w.length < v.length), ton (zip3 (w ++ [t]) x v) y =
    if t = y then ((ton (zip3 w x v) y).1 + x[w.length], (ton (zip3 w x v) y).2 + if v[w.length] > 0 then x[w.length] else 0) else ton (zip3 w x v) y
  | [], a :: x, b :: v, t, y, hx, hv => by
    by_cases c : t = y <;> simp [zip3, ton, c]
  | c :: w, a :: x, b :: v, t, y, hx, hv => by
    have hx' : w.length < x.length := by simpa using hx
    have hv' : w.length < v.length := by simpa using hv
    have ih := ton_snoc w x v t y hx' hv'
    have e1 : zip3 (c :: w ++ [t]) (a :: x) (b :: v) = (c, a, b) :: zip3 (w ++ [t]) x v := rfl
    have e2 : zip3 (c :: w) (a :: x) (b :: v) = (c, a, b) :: zip3 w x v := rfl
    rw [e1, e2]
    simp only [ton, ih, List.length_cons, List.getElem_cons_succ]
    by_cases c1 : c = y
    · by_cases c2 : t = y
      · simp only [c1, c2, if_true, Prod.mk.injEq]; constructor <;> omega
      · simp only [c1, c2, if_true, if_false]
    · simp only [c1, if_false]
  | [], [], _, _, _, hx, _ => absurd hx (by simp)
  | [], _ :: _, [], _, _, _, hv => absurd hv (by simp)
  | _ :: _, [], _, _, _, hx, _ => absurd hx (by simp)
  | _ :: _, _ :: _, [], _, _, _, hv => absurd hv (by simp)
theorem us_snoc {j : DJob} (J : JobOk j) {w : List Int} (h : w.length < j.1.length) (t y : Int) (hx : w.length < j.2.1.length) (hv : w.length < j.2.2.1.length) : us j (w ++ [t]) y =
    if t = y then ((us j w y).1 + j.2.1[w.length], (us j w y).2 + if j.2.2.1[w.length] > 0 then j.2.1[w.length] else 0) else us j w y := ton_snoc w j.2.1 j.2.2.1 t y hx hv
theorem us_bound {j : DJob} (S : SearchOk j) {w : List Int} (W : WOk j w) (t : Int) : 0 ≤ (us j w t).1 ∧ (us j w t).1 ≤ 120000 ∧ 0 ≤ (us j w t).2 ∧ (us j w t).2 ≤ 120000 := by
  have hb := ton_bound (zip3 w j.2.1 j.2.2.1) t fun y hy => S.t _ (by
    have := (List.of_mem_zip (a := y.1) (b := y.2) hy).2
    exact (List.of_mem_zip (a := y.2.1) (b := y.2.2) this).1)
  have hl : (zip3 w j.2.1 j.2.2.1).length ≤ w.length := by simp [zip3]; omega
  have h1 := W.len
  have h2 := S.n12
  unfold us
  omega
theorem worth_snoc {j : DJob} : ∀ (w v : List Int) (t : Int) (hv : w.length < v.length), worth j (w ++ [t]) v = worth j w v + v[w.length] * fac j t
  | [], b :: v, t, hv => by cases v <;> simp [worth]
  | c :: w, b :: v, t, hv => by
    have hv' : w.length < v.length := by simpa using hv
    have ih := worth_snoc (j := j) w v t hv'
    show b * fac j c + worth j (w ++ [t]) v = b * fac j c + worth j w v + _
    rw [ih]; simp only [List.length_cons, List.getElem_cons_succ]; omega
  | [], [], _, hv => absurd hv (by simp)
  | _ :: _, [], _, hv => absurd hv (by simp)
def usT (j : DJob) (w : List Int) : List (List Int) := tab j.2.2.2.2.1.toNat fun t : Nat => us j w (t : Int)
@[reducible] def imS (j : DJob) (most : Int) (A w : List Int) (s : AS) : (List (List Int)) × (List Int) × (List Int) × Int × Int × Int × Int × Int × Int × (List Int) × (List (List Int)) × (List Int) × Int × (List Int) × Int × Int × Int × Int × Bool :=
  (j.1, j.2.1, j.2.2.1, j.2.2.2.1.1, j.2.2.2.1.2.1, j.2.2.2.2.1, j.2.2.2.2.2.1, j.2.2.2.2.2.2.1, j.2.2.2.2.1, pad j.1.length w, usT j w, A, j.2.2.2.2.1, s.best, s.worth, most, s.nodes, s.opn, s.stop)
theorem usT_len (j : DJob) (w : List Int) : (usT j w).length = j.2.2.2.2.1.toNat := tab_len ..
theorem tab_congr {n : Nat} {f g : Nat → Int × Int} (h : ∀ k, k < n → f k = g k) : tab n f = tab n g := by
  unfold tab
  exact List.map_congr_left fun k hk => by rw [h k (by simpa using hk)]
theorem put_ok {j : DJob} (S : SearchOk j) (most : Int) (A : List Int) {w : List Int} (W : WOk j w) (s : AS) (h : w.length < j.1.length) {t : Int} (ht : -1 ≤ t ∧ t < j.2.2.2.2.1) :
    impl_planSearch_put (imS j most A w s) (w.length : Int) t = some (imS j most A (w ++ [t]) s) := by
  have hper := S.per
  have hx : w.length < j.2.1.length := by have := S.lt; omega
  have hv : w.length < j.2.2.1.length := by have := S.lv; omega
  have hpl := pad_len (n := j.1.length) (w := w) (Nat.le_of_lt h)
  have hxb := S.t _ (List.getElem_mem hx)
  have e0 : (0 : Nat) + ((w.length : Int)).toNat = w.length := by omega
  unfold impl_planSearch_put impl_planSearch_putK
  simp only [imS]
  rw [ck_in (by rw [hpl]; exact h)]
  simp only [e0, pad_set h, Option.bind_some]
  by_cases c : t < 0
  · have et : t = -1 := by omega
    have eu : usT j (w ++ [t]) = usT j w := tab_congr fun k _ => by rw [us_snoc S.toJobOk h t _ hx hv, if_neg (by omega)]
    simp only [c, decide_true, cond_true, eu]
  · obtain ⟨k, rfl⟩ : ∃ k : Nat, t = (k : Int) := ⟨t.toNat, by omega⟩
    have hk : k < j.2.2.2.2.1.toNat := by omega
    have hb := us_bound S W (k : Int)
    have hck : (decide ((0 : Int) ≤ (k : Int)) && decide ((k : Int) < ((usT j w).length : Int))) = true := by
      rw [usT_len]; simp; omega
    have hr : (usT j w).getD (0 + ((k : Int)).toNat) [] = [(us j w (k : Int)).1, (us j w (k : Int)).2] := tab_get hk
    simp only [c, decide_false, cond_false, hck, cond_true, hr, lat_nat hx, lat_nat hv, Option.bind_some]
    let f : Nat → Int × Int := fun i => us j w (i : Int)
    let g : Nat → Int × Int := fun i => if i = k then ((us j w (i : Int)).1 + j.2.1[w.length], (us j w (i : Int)).2) else us j w (i : Int)
    have hg : g k = ((us j w (k : Int)).1 + j.2.1[w.length], (us j w (k : Int)).2) := by simp [g]
    have s1 : (usT j w).set (0 + ((k : Int)).toNat) ([(us j w (k : Int)).1, (us j w (k : Int)).2].set (0 + 0) (IntKind.i64.wrap ([(us j w (k : Int)).1, (us j w (k : Int)).2].getD (0 + 0) 0 + j.2.1[w.length]))) = tab j.2.2.2.2.1.toNat g := by
      have := tab_set (n := j.2.2.2.2.1.toNat) (f := f) (g := g) (t := k) fun i hi => by simp [g, f, hi]
      rw [hg] at this
      show (usT j w).set _ [IntKind.i64.wrap ((us j w (k : Int)).1 + j.2.1[w.length]), (us j w (k : Int)).2] = _
      rw [wr (by omega) (by omega)]
      exact this
    have l2 : decide ((0 : Int) < (([(us j w (k : Int)).1, (us j w (k : Int)).2].length : Nat) : Int)) = true := by simp
    simp only [l2, cond_true, s1]
    have hck2 : (decide ((0 : Int) ≤ (k : Int)) && decide ((k : Int) < ((tab j.2.2.2.2.1.toNat g).length : Int))) = true := by
      rw [tab_len]; simp; omega
    have hr2 : (tab j.2.2.2.2.1.toNat g).getD (0 + ((k : Int)).toNat) [] = [(us j w (k : Int)).1 + j.2.1[w.length], (us j w (k : Int)).2] := by
      rw [tab_get hk, hg]
    by_cases c2 : j.2.2.1[w.length] > 0
    · have l3 : decide ((1 : Int) < (([(us j w (k : Int)).1 + j.2.1[w.length], (us j w (k : Int)).2].length : Nat) : Int)) = true := by simp
      have s2 : (tab j.2.2.2.2.1.toNat g).set (0 + ((k : Int)).toNat) ([(us j w (k : Int)).1 + j.2.1[w.length], (us j w (k : Int)).2].set (0 + 1) (IntKind.i64.wrap ([(us j w (k : Int)).1 + j.2.1[w.length], (us j w (k : Int)).2].getD (0 + 1) 0 + j.2.1[w.length]))) = usT j (w ++ [(k : Int)]) := by
        have := tab_set (n := j.2.2.2.2.1.toNat) (f := g) (g := fun i : Nat => us j (w ++ [(k : Int)]) (i : Int)) (t := k) fun i hi => by
          have : ¬ (k : Int) = (i : Int) := by omega
          simp [g, hi, us_snoc S.toJobOk h (k : Int) (i : Int) hx hv, this]
        simp only [us_snoc S.toJobOk h (k : Int) (k : Int) hx hv, if_true, c2] at this
        show (tab _ g).set _ [(us j w (k : Int)).1 + j.2.1[w.length], IntKind.i64.wrap ((us j w (k : Int)).2 + j.2.1[w.length])] = _
        rw [wr (by omega) (by omega)]
        exact this
      simp only [c2, decide_true, cond_true, hck2, hr2, l3, s2]
    · have s2 : tab j.2.2.2.2.1.toNat g = usT j (w ++ [(k : Int)]) := tab_congr fun i hi => by
        by_cases e : i = k
        · subst e; simp [g, us_snoc S.toJobOk h (i : Int) (i : Int) hx hv, c2]
        · have : ¬ (k : Int) = (i : Int) := by omega
          simp [g, e, us_snoc S.toJobOk h (k : Int) (i : Int) hx hv, this]
      simp only [c2, decide_false, cond_false, s2]
theorem remove_ok {j : DJob} (S : SearchOk j) (most : Int) (A : List Int) {w : List Int} (W : WOk j w) (s : AS) (h : w.length < j.1.length) {t : Int} (ht : -1 ≤ t ∧ t < j.2.2.2.2.1) :
    impl_planSearch_remove (imS j most A (w ++ [t]) s) (w.length : Int) = some (imS j most A w s) := by
  have hper := S.per
  have hx : w.length < j.2.1.length := by have := S.lt; omega
  have hv : w.length < j.2.2.1.length := by have := S.lv; omega
  have hpl := pad_len (n := j.1.length) (w := w ++ [t]) (by simp; omega)
  have hxb := S.t _ (List.getElem_mem hx)
  have e0 : (0 : Nat) + ((w.length : Int)).toNat = w.length := by omega
  unfold impl_planSearch_remove impl_planSearch_removeK
  simp only [imS]
  rw [ck_in (by rw [hpl]; exact h), ck_in (by rw [hpl]; exact h)]
  simp only [e0, pad_unset h, pad_last, Option.bind_some]
  by_cases c : t < 0
  · have et : t = -1 := by omega
    have eu : usT j (w ++ [t]) = usT j w := tab_congr fun k _ => by rw [us_snoc S.toJobOk h t _ hx hv, if_neg (by omega)]
    simp only [c, decide_true, cond_true, eu]
  · obtain ⟨k, rfl⟩ : ∃ k : Nat, t = (k : Int) := ⟨t.toNat, by omega⟩
    have hk : k < j.2.2.2.2.1.toNat := by omega
    have hb := us_bound S W (k : Int)
    have hck : (decide ((0 : Int) ≤ (k : Int)) && decide ((k : Int) < ((usT j (w ++ [(k : Int)])).length : Int))) = true := by
      rw [usT_len]; simp; omega
    let u := us j (w ++ [(k : Int)]) (k : Int)
    have hu : u = ((us j w (k : Int)).1 + j.2.1[w.length], (us j w (k : Int)).2 + if j.2.2.1[w.length] > 0 then j.2.1[w.length] else 0) := by
      show us j (w ++ [(k : Int)]) (k : Int) = _
      rw [us_snoc S.toJobOk h (k : Int) (k : Int) hx hv, if_pos rfl]
    have hr : (usT j (w ++ [(k : Int)])).getD (0 + ((k : Int)).toNat) [] = [u.1, u.2] := tab_get hk
    have hu1 : u.1 = (us j w (k : Int)).1 + j.2.1[w.length] := by rw [hu]
    have hu2 : u.2 = (us j w (k : Int)).2 + if j.2.2.1[w.length] > 0 then j.2.1[w.length] else 0 := by rw [hu]
    simp only [c, decide_false, cond_false, hck, cond_true, hr, lat_nat hx, lat_nat hv, Option.bind_some]
    let f : Nat → Int × Int := fun i => us j (w ++ [(k : Int)]) (i : Int)
    let g : Nat → Int × Int := fun i => if i = k then ((us j w (i : Int)).1, u.2) else us j w (i : Int)
    have hg : g k = ((us j w (k : Int)).1, u.2) := by simp [g]
    have s1 : (usT j (w ++ [(k : Int)])).set (0 + ((k : Int)).toNat) ([u.1, u.2].set (0 + 0) (IntKind.i64.wrap ([u.1, u.2].getD (0 + 0) 0 - j.2.1[w.length]))) = tab j.2.2.2.2.1.toNat g := by
      have := tab_set (n := j.2.2.2.2.1.toNat) (f := f) (g := g) (t := k) fun i hi => by
        have : ¬ (k : Int) = (i : Int) := by omega
        simp [g, f, hi, us_snoc S.toJobOk h (k : Int) (i : Int) hx hv, this]
      rw [hg] at this
      show (usT j (w ++ [(k : Int)])).set _ [IntKind.i64.wrap (u.1 - j.2.1[w.length]), u.2] = _
      have e1 : u.1 - j.2.1[w.length] = (us j w (k : Int)).1 := by omega
      rw [e1, wr (by omega) (by omega)]
      exact this
    have l2 : decide ((0 : Int) < (([u.1, u.2].length : Nat) : Int)) = true := by simp
    simp only [l2, cond_true, s1]
    have hck2 : (decide ((0 : Int) ≤ (k : Int)) && decide ((k : Int) < ((tab j.2.2.2.2.1.toNat g).length : Int))) = true := by
      rw [tab_len]; simp; omega
    have hr2 : (tab j.2.2.2.2.1.toNat g).getD (0 + ((k : Int)).toNat) [] = [(us j w (k : Int)).1, u.2] := by
      rw [tab_get hk, hg]
    by_cases c2 : j.2.2.1[w.length] > 0
    · have l3 : decide ((1 : Int) < (([(us j w (k : Int)).1, u.2].length : Nat) : Int)) = true := by simp
      rw [if_pos c2] at hu2
      have s2 : (tab j.2.2.2.2.1.toNat g).set (0 + ((k : Int)).toNat) ([(us j w (k : Int)).1, u.2].set (0 + 1) (IntKind.i64.wrap ([(us j w (k : Int)).1, u.2].getD (0 + 1) 0 - j.2.1[w.length]))) = usT j w := by
        have := tab_set (n := j.2.2.2.2.1.toNat) (f := g) (g := fun i : Nat => us j w (i : Int)) (t := k) fun i hi => by simp [g, hi]
        show (tab _ g).set _ [(us j w (k : Int)).1, IntKind.i64.wrap (u.2 - j.2.1[w.length])] = _
        have e1 : u.2 - j.2.1[w.length] = (us j w (k : Int)).2 := by omega
        rw [e1, wr (by omega) (by omega)]
        exact this
      simp only [c2, decide_true, cond_true, hck2, hr2, l3, s2]
    · rw [if_neg c2] at hu2
      have s2 : tab j.2.2.2.2.1.toNat g = usT j w := tab_congr fun i hi => by
        by_cases e : i = k
        · subst e; simp [g, hu2]
        · simp [g, e]
      simp only [c2, decide_false, cond_false, s2]
theorem all_same {f g : Int → Bool} : ∀ L : List Int, (∀ x ∈ L, f x = g x) → L.all f = L.all g
  | [], _ => rfl
  | x :: L, h => by
    rw [List.all_cons, List.all_cons, h x (List.mem_cons_self ..), all_same L fun y hy => h y (List.mem_cons_of_mem _ hy)]
theorem keeps_pad {j : DJob} (sm : JobSm j) (S : SearchOk j) {w : List Int} (W : WOk j w) (h : w.length < j.1.length) {t : Int} (h0 : 0 ≤ t) (ht : t < j.2.2.2.2.1) :
    impl_keepsOrder j (j.2.2.2.2.1, pad j.1.length (w ++ [t]), ()) (w.length : Int) = some ((j.1.getD w.length []).all (arcT w t)) := by
  have hg : j.1.getD w.length [] = j.1[w.length] := by simp [h]
  rw [keepsOrder_ok j _ sm S.toJobOk (pad_ok S.per.1 (W.snoc h ⟨by omega, ht⟩)) w.length h, hg]
  congr 1
  refine all_same _ fun a ha => ?_
  have hb := (S.arc w.length h).1 a ha
  have hal : a.toNat < w.length := by omega
  have c : ¬ t < 0 := by omega
  simp only [arcB, arcT, pad_last, pad_lt hal, c, decide_false, Bool.false_or]
theorem children_ok {j : DJob} (sm : JobSm j) (S : SearchOk j) (most : Int) (A : List Int) {w : List Int} (W : WOk j w) (s : AS) (h : w.length < j.1.length) :
    impl_planSearch_children (imS j most A w s) (w.length : Int) = some (kidsT j w, imS j most A w s) := by
  have hper := S.per
  have hpl := pers_len j
  have key : ∀ i, i ≤ (pers j).length → ∀ acc : List Int, acc.length ≤ i →
      impl_planSearch_children_l0 (w.length : Int) (i : Int) j.1 j.2.1 j.2.2.1 j.2.2.2.1.1 j.2.2.2.1.2.1 j.2.2.2.2.1 j.2.2.2.2.2.1 j.2.2.2.2.2.2.1 j.2.2.2.2.1 j.2.2.2.2.1 s.worth most s.nodes s.opn s.stop (pad j.1.length w) (usT j w) A s.best acc =
      some (j.1, j.2.1, j.2.2.1, j.2.2.2.1.1, j.2.2.2.1.2.1, j.2.2.2.2.1, j.2.2.2.2.2.1, j.2.2.2.2.2.2.1, j.2.2.2.2.1, j.2.2.2.2.1, s.worth, most, s.nodes, s.opn, s.stop, pad j.1.length w, usT j w, A, s.best, acc ++ ((pers j).drop i).filter (fitB j w)) ∧ acc.length ≤ 1000 := by
    refine down (fun acc ha => ?_) fun i hi ih acc ha => ?_
    · refine ⟨?_, by omega⟩
      have e : ((pers j).length : Int) = j.2.2.2.2.1 := by omega
      rw [impl_planSearch_children_l0_eq]; unfold impl_planSearch_children_l0K
      have c : ¬ j.2.2.2.2.1 < j.2.2.2.2.1 := by omega
      simp only [e, c, decide_false, cond_false, List.drop_length, List.filter_nil, List.append_nil]
    · refine ⟨?_, by omega⟩
      have hlt : (i : Int) < j.2.2.2.2.1 := by omega
      have hk : i < j.2.2.2.2.1.toNat := by omega
      have hput := put_ok S most A W s h (t := (i : Int)) (by omega)
      have hrem := remove_ok S most A W s h (t := (i : Int)) (by omega)
      have hke := keeps_pad sm S W h (t := (i : Int)) (by omega) hlt
      simp only [imS] at hput hrem
      have hck : (decide ((0 : Int) ≤ (i : Int)) && decide ((i : Int) < ((usT j (w ++ [(i : Int)])).length : Int))) = true := by
        rw [usT_len]; simp; omega
      have hr : (usT j (w ++ [(i : Int)])).getD (0 + ((i : Int)).toNat) [] = [(us j (w ++ [(i : Int)]) (i : Int)).1, (us j (w ++ [(i : Int)]) (i : Int)).2] := tab_get hk
      have hcap : acc.length + [(i : Int)].length ≤ 1099511627776 := by simp; omega
      rw [impl_planSearch_children_l0_eq]; unfold impl_planSearch_children_l0K
      simp only [hlt, decide_true, cond_true]
      rw [hput]
      simp only [Option.bind_some, jobEta]
      rw [hke]
      simp only [Option.bind_some]
      rw [drop_cons hi, pers_get hi, List.filter_cons]
      have hfit : fitB j w (i : Int) = ((j.1.getD w.length []).all (arcT w (i : Int)) && (decide ((us j (w ++ [(i : Int)]) (i : Int)).1 ≤ j.2.2.2.1.1) && decide ((us j (w ++ [(i : Int)]) (i : Int)).2 ≤ j.2.2.2.1.2.1))) := rfl
      cases hA : (j.1.getD w.length []).all (arcT w (i : Int))
      · rw [hA] at hfit
        simp only [Bool.false_and] at hfit
        simp only [cond_false, hrem, Option.bind_some, hfit, Bool.false_eq_true, if_false]
        rw [wr_succ hi (by omega)]
        exact (ih acc (by omega)).1
      · rw [hA] at hfit
        simp only [Bool.true_and] at hfit
        have l0 : decide ((0 : Int) < (([(us j (w ++ [(i : Int)]) (i : Int)).1, (us j (w ++ [(i : Int)]) (i : Int)).2].length : Nat) : Int)) = true := by simp
        have l1 : decide ((1 : Int) < (([(us j (w ++ [(i : Int)]) (i : Int)).1, (us j (w ++ [(i : Int)]) (i : Int)).2].length : Nat) : Int)) = true := by simp
        simp only [cond_true, hck, hr, l0, l1]
        show cond (decide ((us j (w ++ [(i : Int)]) (i : Int)).1 ≤ j.2.2.2.1.1)) _ _ = _
        by_cases c1 : (us j (w ++ [(i : Int)]) (i : Int)).1 ≤ j.2.2.2.1.1
        · simp only [c1, decide_true, cond_true, Bool.true_and] at hfit ⊢
          rw [hrem]
          simp only [Option.bind_some]
          show cond (decide ((us j (w ++ [(i : Int)]) (i : Int)).2 ≤ j.2.2.2.1.2.1)) _ _ = _
          by_cases c2 : (us j (w ++ [(i : Int)]) (i : Int)).2 ≤ j.2.2.2.1.2.1
          · simp only [c2, decide_true, cond_true] at hfit ⊢
            rw [wr_succ hi (by omega)]
            simp only [hfit, if_true, hcap, decide_true, cond_true]
            rw [(ih (acc ++ [(i : Int)]) (by simp; omega)).1]
            simp
          · simp only [c2, decide_false, cond_false] at hfit ⊢
            rw [wr_succ hi (by omega)]
            simp only [hfit, Bool.false_eq_true, if_false]
            exact (ih acc (by omega)).1
        · simp only [c1, decide_false, cond_false, Bool.false_and] at hfit ⊢
          rw [hrem]
          simp only [Option.bind_some]
          rw [wr_succ hi (by omega)]
          simp only [hfit, Bool.false_eq_true, if_false]
          exact (ih acc (by omega)).1
  have k0 := (key 0 (Nat.zero_le _) [] (by simp)).1
  simp only [List.drop_zero, List.nil_append, Int.natCast_zero] at k0
  have hl := List.length_filter_le (fitB j w) (pers j)
  have hcap : ((pers j).filter (fitB j w)).length + [(-1 : Int)].length ≤ 1099511627776 := by simp; omega
  unfold impl_planSearch_children impl_planSearch_childrenK
  simp only [imS]
  rw [k0]
  simp only [Option.bind_some, hcap, decide_true, cond_true]
  rfl
theorem proVisit_ok {j : DJob} (sm : JobSm j) (S : SearchOk j) {most : Int} (hmost : most ≤ 20001) (A : List Int) (hA : A.length = j.1.length + 1) (hA2 : ∀ k, k ≤ j.1.length → A.getD k 0 = top (dpow j) (j.2.2.1.drop k)) : ∀ m w s, WOk j w → w.length + m = j.1.length → NOk most s →
    impl_planSearch_visit (imS j most A w s) (w.length : Int) (worth j w j.2.2.1) = some (imS j most A w (go j most m w s)) := by
  have h12 := S.n12
  intro m
  induction m with
  | zero =>
    intro w s W hl hs
    have h0 := hs.n0
    have h1 := hs.n1
    have hw := worth_small S W
    have ht := top_small S w.length
    have e0 : (0 : Nat) + ((w.length : Int)).toNat = w.length := by omega
    have hb : IntKind.i64.wrap (worth j w j.2.2.1 + A.getD w.length 0) = bnd j w := by
      rw [hA2 _ W.len, wr (by omega) (by omega)]; rfl
    rw [impl_planSearch_visit_eq]; unfold impl_planSearch_visitK
    simp only [imS]
    rw [ck_in (by have := W.len; omega), ck_in (by have := W.len; omega), wr (n := s.nodes + 1) (by omega) (by omega)]
    simp only [e0, hb, Option.bind_some, go]
    by_cases c : s.nodes = most
    · simp only [c, beq_self_eq_true, cond_true, if_true]; simp only [stopAt, c]
    · have c' : (s.nodes == most) = false := by simp [c]
      simp only [c', cond_false, if_neg c]
      by_cases c2 : bnd j w ≤ s.worth
      · simp only [c2, decide_true, cond_true, if_true]; rfl
      · have c3 : ((w.length : Int) == (j.1.length : Int)) = true := by simp; omega
        have hwl : w.length = j.1.length := by omega
        have ht0 : top (dpow j) (j.2.2.1.drop w.length) = 0 := by
          rw [List.drop_eq_nil_of_le (by have := S.lv; omega)]; rfl
        have hbw : bnd j w = worth j w j.2.2.1 := by unfold bnd; omega
        have hcp := copyPlan_ok (j.2.2.2.2.1, pad j.1.length w, ()) (by show (pad j.1.length w).length ≤ _; rw [pad_len W.len]; omega)
        simp only [c2, decide_false, cond_false, if_false, c3, cond_true]
        rw [hcp]
        simp only [Option.bind_some, hbw, AS.up, pad_all hwl]
  | succ m ih =>
    intro w s W hl hs
    have h0 := hs.n0
    have h1 := hs.n1
    have hwl : w.length < j.1.length := by omega
    have hv : w.length < j.2.2.1.length := by have := S.lv; omega
    have hw := worth_small S W
    have ht := top_small S w.length
    have e0 : (0 : Nat) + ((w.length : Int)).toNat = w.length := by omega
    have hb : IntKind.i64.wrap (worth j w j.2.2.1 + A.getD w.length 0) = bnd j w := by
      rw [hA2 _ W.len, wr (by omega) (by omega)]; rfl
    rw [impl_planSearch_visit_eq]; unfold impl_planSearch_visitK
    simp only [imS]
    rw [ck_in (by omega), ck_in (by omega), wr (n := s.nodes + 1) (by omega) (by omega)]
    simp only [e0, hb, Option.bind_some, go]
    by_cases c : s.nodes = most
    · simp only [c, beq_self_eq_true, cond_true, if_true]; simp only [stopAt, c]
    · have c' : (s.nodes == most) = false := by simp [c]
      simp only [c', cond_false, if_neg c]
      by_cases c2 : bnd j w ≤ s.worth
      · simp only [c2, decide_true, cond_true, if_true]; rfl
      · have c3 : ((w.length : Int) == (j.1.length : Int)) = false := by simp; omega
        have hch := children_ok sm S most A W s.up hwl
        simp only [imS, AS.up] at hch
        simp only [c2, decide_false, cond_false, if_false, c3]
        rw [hch]
        simp only [Option.bind_some]
        have hkl : (kidsT j w).length ≤ 1000 := by
          have := List.length_filter_le (fitB j w) (pers j)
          have h2 := pers_len j
          have h3 := S.per
          simp only [kidsT, List.length_append, List.length_singleton]; omega
        have key : ∀ i, i ≤ (kidsT j w).length → ∀ s : AS, NOk most s → impl_planSearch_visit_l0 (fun x => impl_planSearch_visit x.1 x.2.1 x.2.2) (w.length : Int) (worth j w j.2.2.1) ((kidsT j w).length : Int) (kidsT j w) (i : Int)
            j.1 j.2.1 j.2.2.1 j.2.2.2.1.1 j.2.2.2.1.2.1 j.2.2.2.2.1 j.2.2.2.2.2.1 j.2.2.2.2.2.2.1 j.2.2.2.2.1 j.2.2.2.2.1 s.worth most s.nodes s.opn s.stop (pad j.1.length w) (usT j w) A s.best =
            (fun z : AS => some (j.1, j.2.1, j.2.2.1, j.2.2.2.1.1, j.2.2.2.1.2.1, j.2.2.2.2.1, j.2.2.2.2.2.1, j.2.2.2.2.2.2.1, j.2.2.2.2.1, j.2.2.2.2.1, z.worth, most, z.nodes, z.opn, z.stop, pad j.1.length w, usT j w, A, z.best)) (((kidsT j w).drop i).foldl (fun s t => go j most m (w ++ [t]) s) s) := by
          refine down (fun s hs => ?_) fun i hi ihi s hs => ?_
          · rw [impl_planSearch_visit_l0_eq]; unfold impl_planSearch_visit_l0K
            rw [lt_out (Nat.le_refl _), List.drop_length]; rfl
          · have hk := kids_mem (j := j) (w := w) (by have := S.per; omega) (List.getElem_mem hi)
            have hput := put_ok S most A W s hwl hk
            have hrem := remove_ok S most A W (go j most m (w ++ [(kidsT j w)[i]]) s) hwl hk
            have W' := W.snoc hwl hk
            have hw' := worth_small S W'
            have hf := scaledFactor_ok j S.toJobOk _ hk.2
            have hm := mul_bound (S.v _ (List.getElem_mem hv)) (fac_bound S.toJobOk hk.2)
            have hih := ih (w ++ [(kidsT j w)[i]]) s W' (by simp; omega) hs
            rw [worth_snoc w _ _ hv] at hih hw'
            simp only [imS] at hput hrem hih
            rw [impl_planSearch_visit_l0_eq]; unfold impl_planSearch_visit_l0K
            rw [lt_in hi, ck_in hi, getD_nat hi, wr_succ hi (by omega)]
            rw [hput]
            simp only [Option.bind_some, lat_nat hv, jobEta]
            rw [hf]
            simp only [Option.bind_some]
            have e4 : IntKind.i64.wrap ((w.length : Int) + 1) = ((w ++ [(kidsT j w)[i]]).length : Int) := by
              rw [wr (by omega) (by omega)]; simp
            rw [wr (n := j.2.2.1[w.length] * fac j (kidsT j w)[i]) (by omega) (by omega), wr (n := worth j w j.2.2.1 + j.2.2.1[w.length] * fac j (kidsT j w)[i]) (by omega) (by omega), e4]
            simp only [hih, Option.bind_some]
            rw [hrem]
            simp only [Option.bind_some]
            rw [drop_cons hi, List.foldl_cons]
            exact ihi _ (go_nodes j most m _ s hs)
        have := key 0 (Nat.zero_le _) s.up (hs.up c)
        simp only [AS.up, Int.natCast_zero, List.drop_zero] at this
        rw [this]; rfl
end
noncomputable section
theorem ton_none : ∀ (m : Nat) (x v : List Int) (t : Int), 0 ≤ t → ton (zip3 (List.replicate m (-1)) x v) t = (0, 0)
  | 0, x, v, t, _ => by simp [zip3, ton]
  | m + 1, [], v, t, _ => by simp [zip3, ton]
  | m + 1, _ :: x, [], t, _ => by simp [zip3, ton]
  | m + 1, a :: x, b :: v, t, h => by
    have ih := ton_none m x v t h
    have e : zip3 (List.replicate (m + 1) (-1)) (a :: x) (b :: v) = (-1, a, b) :: zip3 (List.replicate m (-1)) x v := by rw [List.replicate_succ]; rfl
    rw [e]; simp only [ton, ih]
    rw [if_neg (by omega)]
def s0 (j : DJob) : AS := ⟨List.replicate j.1.length (-1), 0, 0, 0, false⟩
def done (j : DJob) (most : Int) : AS := go j most j.1.length [] (s0 j)
theorem WOk.nil (j : DJob) : WOk j [] := ⟨Nat.zero_le _, fun x hx => absurd hx (by simp)⟩
theorem new_ok {j : DJob} (S : SearchOk j) (most : Int) : ∃ A : List Int, A.length = j.1.length + 1 ∧ (∀ k, k ≤ j.1.length → A.getD k 0 = top (dpow j) (j.2.2.1.drop k)) ∧
    impl_newSearch j most = some (imS j most A [] (s0 j)) := by
  have J := S.toJobOk
  have hlv := S.lv
  have hn := S.n12
  have hn1 := S.n1
  have hper := S.per
  obtain ⟨d0, d1⟩ := dpow_bound J
  have te := tonnesIn_ok j (j.2.2.2.2.1, List.replicate j.1.length (-1), ()) J (emptyPlanOk j J)
  have tu : tonnes j (j.2.2.2.2.1, List.replicate j.1.length (-1), ()) = usT j [] := tab_congr fun k _ => by
    rw [ton_none _ _ _ _ (by omega)]; simp [us, zip3, ton]
  rw [tu] at te
  have e1 : (j.1.length : Int) + 1 = ((j.1.length + 1 : Nat) : Int) := by omega
  obtain ⟨A, g1, g2, g3, g4, g5⟩ := rest_loop j S (dpow j) rfl d0 d1 j.2.2.1.length (Nat.le_refl _) (List.replicate (j.1.length + 1) 0) (by simp [hlv]) (by
    rw [List.drop_length]
    simp [hlv, top]) (fun m hm => by
    have : m < j.1.length + 1 := by omega
    simp [this])
  rw [hlv] at g1
  refine ⟨A, by omega, fun k hk => g5 k (by omega), ?_⟩
  unfold impl_newSearch impl_newSearchK
  rw [implEmpty_ok j J, wr (n := (j.1.length : Int) + 1) (by omega) (by omega), wr (n := (j.1.length : Int) - 1) (by omega) (by omega)]
  simp only [Option.bind_some, te]
  rw [e1, cap_ok (by omega)]
  simp only [Int.toNat_natCast, Option.bind_some, g1]
  simp [imS, s0, pad]
theorem proSearch_ok {j : DJob} (sm : JobSm j) (S : SearchOk j) {most : Int} (h0 : 0 ≤ most) (h1 : most ≤ 20001) : ∃ A : List Int, impl_newSearch j most = some (imS j most A [] (s0 j)) ∧
    impl_planSearch_visit (imS j most A [] (s0 j)) 0 0 = some (imS j most A [] (done j most)) := by
  obtain ⟨A, g1, g2, g3⟩ := new_ok S most
  have k := proVisit_ok sm S h1 A g1 g2 j.1.length [] (s0 j) (WOk.nil j) (by simp) ⟨by simp [s0], by simpa [s0] using h0⟩
  have ew : worth j [] j.2.2.1 = 0 := by cases j.2.2.1 <;> rfl
  rw [ew] at k
  exact ⟨A, g3, k⟩
theorem refSearch_ok {j : DJob} (sm : JobSm j) (S : SearchOk j) {most : Int} (h0 : 0 ≤ most) (h1 : most ≤ 20001) : spec_srSearch j most = some (spS j most (done j most)) := by
  have hn := S.n12
  have key : ∀ i, i ≤ j.1.length → spec_srSearch_l0 (j.1.length : Int) (i : Int) (List.replicate i (-1)) = some (List.replicate j.1.length (-1)) := by
    refine down ?_ fun i hi ih => ?_
    · rw [spec_srSearch_l0_eq]; unfold spec_srSearch_l0K
      rw [lt_out (Nat.le_refl _)]
    · rw [spec_srSearch_l0_eq]; unfold spec_srSearch_l0K
      have hcap : (List.replicate i (-1 : Int)).length + [(-1 : Int)].length ≤ 1099511627776 := by simp; omega
      have e : List.replicate i (-1 : Int) ++ [-1] = List.replicate (i + 1) (-1) := by rw [List.replicate_succ']
      rw [lt_in hi, wr_succ hi (by omega)]
      simp only [hcap, decide_true, cond_true, Option.bind_some, e]
      exact ih
  have k0 := key 0 (Nat.zero_le _)
  have k0 : spec_srSearch_l0 (j.1.length : Int) 0 [] = some (List.replicate j.1.length (-1)) := k0
  have k := refVisit_ok sm S h1 j.1.length [] (s0 j) (WOk.nil j) (by simp) ⟨by simp [s0], by simpa [s0] using h0⟩
  simp only [spS, s0] at k
  unfold spec_srSearch spec_srSearchK
  rw [k0]
  simp only [Option.bind_some]
  rw [k]; rfl
structure BOk (j : DJob) (s : AS) : Prop where
  w : WOk j s.best
  len : s.best.length = j.1.length
theorem go_best {j : DJob} (hp : 1 ≤ j.2.2.2.2.1) (most : Int) : ∀ m w s, WOk j w → w.length + m = j.1.length → BOk j s → BOk j (go j most m w s)
  | 0, w, s, W, hl, h => by
    unfold go
    split
    · exact ⟨h.w, h.len⟩
    · split
      · exact ⟨h.w, h.len⟩
      · exact ⟨W, by simpa using hl⟩
  | m + 1, w, s, W, hl, h => by
    unfold go
    split
    · exact ⟨h.w, h.len⟩
    · split
      · exact ⟨h.w, h.len⟩
      · have key : ∀ (K : List Int) (s : AS), (∀ t ∈ K, -1 ≤ t ∧ t < j.2.2.2.2.1) → BOk j s → BOk j (K.foldl (fun s t => go j most m (w ++ [t]) s) s) := by
          intro K
          induction K with
          | nil => exact fun s _ h => h
          | cons t K ih => exact fun s hK h => ih _ (fun x hx => hK x (List.mem_cons_of_mem _ hx)) (go_best hp most m _ s (W.snoc (by omega) (hK t (List.mem_cons_self ..))) (by simp; omega) h)
        exact key _ _ (fun t ht => kids_mem hp ht) ⟨h.w, h.len⟩
theorem done_best {j : DJob} (hp : 1 ≤ j.2.2.2.2.1) (most : Int) : BOk j (done j most) :=
  go_best hp most _ _ _ (WOk.nil j) (by simp) ⟨⟨by simp [s0], fun x hx => by have := List.eq_of_mem_replicate hx; omega⟩, by simp [s0]⟩
def planOut (j : DJob) (most : Int) : (Int × List Int) × Int × Int × Bool :=
  ((j.2.2.2.2.1, (done j most).best), (done j most).worth, (if (done j most).opn > (done j most).worth then (done j most).opn else (done j most).worth), true)
end
noncomputable section
def Okp (j : DJob) (w : List Int) : Prop := ∀ k (h : k < w.length), w[k] < 0 ∨ fitB j (w.take k) w[k] = true
theorem Okp.nil (j : DJob) : Okp j [] := fun k h => absurd h (by simp)
theorem Okp.snoc {j : DJob} {w : List Int} (h : Okp j w) {t : Int} (ht : t < 0 ∨ fitB j w t = true) : Okp j (w ++ [t]) := fun k hk => by
  by_cases c : k < w.length
  · rw [List.getElem_append_left c, List.take_append_of_le_length (by omega)]
    exact h k c
  · have e : k = w.length := by simp at hk; omega
    subst e
    rw [List.getElem_append_right (Nat.le_refl _), List.take_append_of_le_length (Nat.le_refl _), List.take_length]
    simpa using ht
theorem take_snoc {w : List Int} {k : Nat} (h : k < w.length) : w.take (k + 1) = w.take k ++ [w[k]] := by simp
theorem us_take {j : DJob} (J : JobOk j) {w : List Int} (hl : w.length ≤ j.1.length) {k : Nat} (h : k < w.length) (y : Int) :
    us j (w.take (k + 1)) y = if w[k] = y then ((us j (w.take k) y).1 + j.2.1[k]'(by have := J.lt; omega), (us j (w.take k) y).2 + if j.2.2.1[k]'(by have := J.lv; omega) > 0 then j.2.1[k]'(by have := J.lt; omega) else 0) else us j (w.take k) y := by
  have e : (w.take k).length = k := by simp; omega
  have hx : (w.take k).length < j.2.1.length := by have := J.lt; omega
  have hv : (w.take k).length < j.2.2.1.length := by have := J.lv; omega
  rw [take_snoc h, us_snoc J (by omega) w[k] y hx hv]
  simp only [e]
theorem caps_take {j : DJob} (J : JobOk j) {w : List Int} (hl : w.length ≤ j.1.length) (h : Okp j w) (y : Int) (hy : 0 ≤ y) : ∀ k, k ≤ w.length → (us j (w.take k) y).1 ≤ j.2.2.2.1.1 ∧ (us j (w.take k) y).2 ≤ j.2.2.2.1.2.1
  | 0, _ => by have := J.mine; have := J.mill; simp [us, zip3, ton]; omega
  | k + 1, hk => by
    have ih := caps_take J hl h y hy k (by omega)
    have hkl : k < w.length := hk
    by_cases c : w[k] = y
    · rcases h k hkl with h1 | h1
      · omega
      · rw [c] at h1
        simp only [fitB, Bool.and_eq_true, decide_eq_true_eq] at h1
        rw [take_snoc hkl, c]
        exact h1.2
    · rw [us_take J hl hkl, if_neg c]; exact ih
theorem us_mono {j : DJob} (J : JobOk j) {w : List Int} (hl : w.length ≤ j.1.length) (y : Int) : ∀ d k, k + d ≤ w.length → (us j (w.take k) y).1 ≤ (us j (w.take (k + d)) y).1 ∧ (us j (w.take k) y).2 ≤ (us j (w.take (k + d)) y).2
  | 0, k, _ => ⟨Int.le_refl _, Int.le_refl _⟩
  | d + 1, k, h => by
    have ih := us_mono J hl y d k (by omega)
    have hkl : k + d < w.length := by omega
    have ht := J.t _ (List.getElem_mem (l := j.2.1) (n := k + d) (by have := J.lt; omega))
    rw [← Nat.add_assoc, us_take J hl hkl]
    split
    · dsimp only
      split <;> omega
    · exact ih
theorem getD_take {w : List Int} {i k : Nat} (h : i < k) : (w.take k).getD i 0 = w.getD i 0 := by
  simp [List.getElem?_take, h]
theorem feas_okp {j : DJob} (J : JobOk j) {w : List Int} (W : WOk j w) (hn : w.length = j.1.length) : feasB j w = true ↔ Okp j w := by
  have key : ∀ k (h : k < w.length), j.1.getD (w.take k).length [] = j.1[k]'(by omega) := fun k h => by
    have : k < j.1.length := by omega
    have e : (w.take k).length = k := by simp; omega
    rw [e]; simp [this]
  have hgk : ∀ k (h : k < w.length), w.getD k 0 = w[k] := fun k h => by simp [h]
  constructor
  · intro hf k hk
    have hkj : k < j.1.length := by omega
    simp only [feasB, Bool.and_eq_true] at hf
    obtain ⟨h1, h2⟩ := hf
    by_cases c : w[k] < 0
    · exact .inl c
    · right
      have hwk := W.w _ (List.getElem_mem hk)
      have ho := allI_iff.1 h1 k hkj
      have hc := (List.all_eq_true.1 h2) (w[k].toNat) (List.mem_range.2 (by omega))
      have ew : ((w[k].toNat : Nat) : Int) = w[k] := by omega
      simp only [Bool.and_eq_true, decide_eq_true_eq, ew] at hc
      have hm := us_mono J W.len w[k] (w.length - (k + 1)) (k + 1) (by omega)
      rw [show k + 1 + (w.length - (k + 1)) = w.length by omega, List.take_length] at hm
      have hc1 : (us j w w[k]).1 ≤ j.2.2.2.1.1 := hc.1
      have hc2 : (us j w w[k]).2 ≤ j.2.2.2.1.2.1 := hc.2
      simp only [fitB, Bool.and_eq_true, decide_eq_true_eq, key k hk, ← take_snoc hk]
      refine ⟨?_, by omega, by omega⟩
      rw [List.all_eq_true] at ho ⊢
      intro a ha
      have hb := (J.arc k hkj).1 a ha
      have := ho a ha
      simp only [arcB, hgk k hk, c, decide_false, Bool.false_or] at this
      simp only [arcT, getD_take (show a.toNat < k by omega)]
      exact this
  · intro h
    simp only [feasB, Bool.and_eq_true]
    constructor
    · refine allI_iff.2 fun k hk => ?_
      have hkw : k < w.length := by omega
      rw [List.all_eq_true]
      intro a ha
      have hb := (J.arc k hk).1 a ha
      simp only [arcB, hgk k hkw]
      rcases h k hkw with h1 | h1
      · simp [h1]
      · simp only [fitB, Bool.and_eq_true, key k hkw, List.all_eq_true] at h1
        have := h1.1 a ha
        simp only [arcT, getD_take (show a.toNat < k by omega)] at this
        rw [this, Bool.or_true]
    · refine List.all_eq_true.2 fun t _ => ?_
      have := caps_take J W.len h (t : Int) (by omega) w.length (Nat.le_refl _)
      rw [List.take_length] at this
      simp only [Bool.and_eq_true, decide_eq_true_eq]
      exact this
structure FOk (j : DJob) (s : AS) : Prop extends BOk j s where
  okp : Okp j s.best
  val : s.worth = worth j s.best j.2.2.1
theorem kids_fit {j : DJob} {w : List Int} {t : Int} (h : t ∈ kidsT j w) : t < 0 ∨ fitB j w t = true := by
  rcases List.mem_append.1 h with h | h
  · exact .inr (List.mem_filter.1 h).2
  · have := List.mem_singleton.1 h; exact .inl (by omega)
theorem go_feas {j : DJob} (J : JobOk j) (most : Int) : ∀ m w s, WOk j w → Okp j w → w.length + m = j.1.length → FOk j s → FOk j (go j most m w s)
  | 0, w, s, W, O, hl, h => by
    unfold go
    split
    · exact ⟨⟨h.w, h.len⟩, h.okp, h.val⟩
    · split
      · exact ⟨⟨h.w, h.len⟩, h.okp, h.val⟩
      · refine ⟨⟨W, by simpa using hl⟩, O, ?_⟩
        have e : j.2.2.1.drop w.length = [] := List.drop_eq_nil_of_le (by have := J.lv; omega)
        show bnd j w = worth j w j.2.2.1
        unfold bnd
        rw [e]; simp [top]
  | m + 1, w, s, W, O, hl, h => by
    unfold go
    split
    · exact ⟨⟨h.w, h.len⟩, h.okp, h.val⟩
    · split
      · exact ⟨⟨h.w, h.len⟩, h.okp, h.val⟩
      · have key : ∀ (K : List Int) (s : AS), (∀ t ∈ K, t ∈ kidsT j w) → FOk j s → FOk j (K.foldl (fun s t => go j most m (w ++ [t]) s) s) := by
          intro K
          induction K with
          | nil => exact fun s _ h => h
          | cons t K ih =>
            intro s hK h
            have ht := hK t (List.mem_cons_self ..)
            exact ih _ (fun x hx => hK x (List.mem_cons_of_mem _ hx)) (go_feas J most m _ s (W.snoc (by omega) (kids_mem J.per.1 ht)) (O.snoc (kids_fit ht)) (by simp; omega) h)
        exact key _ _ (fun t ht => ht) ⟨⟨h.w, h.len⟩, h.okp, h.val⟩
theorem worth_none {j : DJob} : ∀ (m : Nat) (v : List Int), worth j (List.replicate m (-1)) v = 0
  | 0, v => by cases v <;> rfl
  | m + 1, [] => rfl
  | m + 1, a :: v => by
    rw [List.replicate_succ]
    show a * fac j (-1) + worth j (List.replicate m (-1)) v = 0
    rw [worth_none m v]; simp [fac]
theorem done_feas {j : DJob} (J : JobOk j) (most : Int) : FOk j (done j most) :=
  go_feas J most _ _ _ (WOk.nil j) (Okp.nil j) (by simp)
    ⟨⟨⟨by simp [s0], fun x hx => by have := List.eq_of_mem_replicate hx; have := J.per; omega⟩, by simp [s0]⟩, fun k hk => by simp [s0], by simp [s0, worth_none]⟩
theorem pFaults_inner (j : DJob) (p : DPlan) (s : JobSm j) (J : JobOk j) (Q : PlanOk j p) (i : Nat) (hi : i < j.1.length) (hi2 : i < p.2.1.length) :
    ∀ k, k ≤ j.1[i].length → ∀ acc : List (List Int), acc.length ≤ 1048576 * i + k → ∃ F, impl_OrderFaults_l1 (i : Int) p.2.1[i] j.1[i] (j.1[i].length : Int) p.2.1 (k : Int) acc = some F ∧ F.length ≤ 1048576 * i + j.1[i].length ∧
      (F = [] ↔ acc = [] ∧ ∀ x ∈ j.1[i].drop k, arcB p.2.1 i x = true) := by
  have hlen := Q.len
  have hn := J.n2
  have hr : j.1[i].length ≤ 1048576 := s.r _ (List.getElem_mem hi)
  have hgi : p.2.1.getD i 0 = p.2.1[i] := by simp [hi2]
  refine down (fun acc hacc => ?_) fun k hk ih acc hacc => ?_
  · rw [impl_OrderFaults_l1_eq]; unfold impl_OrderFaults_l1K
    rw [lt_out (Nat.le_refl _)]
    exact ⟨acc, rfl, hacc, by simp⟩
  · have ha := (J.arc i hi).1 _ (List.getElem_mem hk)
    have haw : j.1[i][k].toNat < p.2.1.length := by omega
    have hga : p.2.1.getD j.1[i][k].toNat 0 = p.2.1[j.1[i][k].toNat] := by simp [haw]
    have hl : acc.length + [[(i : Int), j.1[i][k]]].length ≤ 1099511627776 := by simp; omega
    have good : arcB p.2.1 i j.1[i][k] = true → ∃ F, impl_OrderFaults_l1 (i : Int) p.2.1[i] j.1[i] (j.1[i].length : Int) p.2.1 ((k + 1 : Nat) : Int) acc = some F ∧ F.length ≤ 1048576 * i + j.1[i].length ∧
        (F = [] ↔ acc = [] ∧ ∀ x ∈ j.1[i].drop k, arcB p.2.1 i x = true) := fun hb => by
      obtain ⟨F, g1, g2, g3⟩ := ih acc (by omega)
      rw [drop_cons hk]
      refine ⟨F, g1, g2, g3.trans ⟨fun ⟨h1, h2⟩ => ⟨h1, fun x hx => ?_⟩, fun ⟨h1, h2⟩ => ⟨h1, fun x hx => h2 x (List.mem_cons_of_mem _ hx)⟩⟩⟩
      rcases List.mem_cons.1 hx with h | h
      · rw [h]; exact hb
      · exact h2 x h
    have bad : arcB p.2.1 i j.1[i][k] = false → ∃ F, impl_OrderFaults_l1 (i : Int) p.2.1[i] j.1[i] (j.1[i].length : Int) p.2.1 ((k + 1 : Nat) : Int) (acc ++ [[(i : Int), j.1[i][k]]]) = some F ∧ F.length ≤ 1048576 * i + j.1[i].length ∧
        (F = [] ↔ acc = [] ∧ ∀ x ∈ j.1[i].drop k, arcB p.2.1 i x = true) := fun hb => by
      obtain ⟨F, g1, g2, g3⟩ := ih (acc ++ [[(i : Int), j.1[i][k]]]) (by simp; omega)
      rw [drop_cons hk]
      refine ⟨F, g1, g2, g3.trans ⟨fun ⟨h1, h2⟩ => absurd h1 (by simp), fun ⟨h1, h2⟩ => ?_⟩⟩
      have := h2 _ (List.mem_cons_self ..)
      rw [hb] at this; exact absurd this (by simp)
    rw [impl_OrderFaults_l1_eq]; unfold impl_OrderFaults_l1K
    rw [loop_step hk, wr_succ hk (by omega)]
    by_cases c1 : p.2.1[i] < 0
    · have c1' : ¬ p.2.1[i] ≥ 0 := by omega
      simp only [c1', decide_false, cond_false]
      exact good (by simp only [arcB, hgi, c1, decide_true, Bool.true_or])
    · have c1' : p.2.1[i] ≥ 0 := by omega
      simp only [c1', decide_true, cond_true, lat_int ha.1 haw, Option.bind_some]
      by_cases c2 : p.2.1[j.1[i][k].toNat] < 0
      · have c2' : ¬ 0 ≤ p.2.1[j.1[i][k].toNat] := by omega
        simp only [c2, decide_true, cond_true, hl]
        exact bad (by simp only [arcB, hgi, hga, c1, c2', decide_false, Bool.false_or, Bool.false_and])
      · have c2' : 0 ≤ p.2.1[j.1[i][k].toNat] := by omega
        simp only [c2, decide_false, cond_false]
        by_cases c3 : p.2.1[j.1[i][k].toNat] > p.2.1[i]
        · have c3' : ¬ p.2.1[j.1[i][k].toNat] ≤ p.2.1[i] := by omega
          simp only [c3, decide_true, cond_true, hl]
          exact bad (by simp only [arcB, hgi, hga, c1, c2', c3', decide_false, decide_true, Bool.false_or, Bool.and_false])
        · have c3' : p.2.1[j.1[i][k].toNat] ≤ p.2.1[i] := by omega
          simp only [c3, decide_false, cond_false]
          exact good (by simp only [arcB, hgi, hga, c1, c2', c3', decide_false, decide_true, Bool.false_or, Bool.and_true])
theorem pFaults_outer (j : DJob) (p : DPlan) (s : JobSm j) (J : JobOk j) (Q : PlanOk j p) : ∀ i, i ≤ p.2.1.length → ∀ acc : List (List Int), acc.length ≤ 1048576 * i →
    ∃ F, impl_OrderFaults_l0 p.2.1 (p.2.1.length : Int) j.1 p.2.1 (i : Int) acc = some F ∧ F.length ≤ 1048576 * p.2.1.length ∧ (F = [] ↔ acc = [] ∧ ∀ m (h : m < j.1.length), i ≤ m → j.1[m].all (arcB p.2.1 m) = true) := by
  have hlen := Q.len
  have hn := J.n2
  refine down (fun acc hacc => ?_) fun i hi ih acc hacc => ?_
  · rw [impl_OrderFaults_l0_eq]; unfold impl_OrderFaults_l0K
    rw [lt_out (Nat.le_refl _)]
    exact ⟨acc, rfl, hacc, fun h => ⟨h, fun m hm h2 => by omega⟩, fun h => h.1⟩
  · have hij : i < j.1.length := by omega
    have hr : j.1[i].length ≤ 1048576 := s.r _ (List.getElem_mem hij)
    rw [impl_OrderFaults_l0_eq]; unfold impl_OrderFaults_l0K
    rw [loop_step hi, wr_succ hi (by omega)]
    simp only [lat_nat hij, Option.bind_some]
    obtain ⟨F, f1, f2, f3⟩ := pFaults_inner j p s J Q i hij hi 0 (Nat.zero_le _) acc (by omega)
    have f1 : impl_OrderFaults_l1 (i : Int) p.2.1[i] j.1[i] (j.1[i].length : Int) p.2.1 0 acc = some F := f1
    simp only [f1, Option.bind_some]
    obtain ⟨F', g1, g2, g3⟩ := ih F (by omega)
    refine ⟨F', g1, g2, g3.trans ⟨fun ⟨h1, h2⟩ => ?_, fun ⟨h1, h2⟩ => ⟨f3.2 ⟨h1, ?_⟩, fun m hm hmi => h2 m hm (by omega)⟩⟩⟩
    · obtain ⟨k1, k2⟩ := f3.1 h1
      refine ⟨k1, fun m hm hmi => ?_⟩
      by_cases e : m = i
      · subst e
        rw [List.all_eq_true]
        simpa using k2
      · exact h2 m hm (by omega)
    · have := h2 i hij (Nat.le_refl _)
      rw [List.all_eq_true] at this
      simpa using this
theorem OrderFaults_ok (j : DJob) (p : DPlan) (hj : jobB j = true) (hl : p.2.1.length ≤ 1048576) : ∃ F : List (List Int), impl_OrderFaults j p = some (F, planB j p) ∧ (planB j p = true → decide (F = []) = ordB j p.2.1) := by
  have s := jobB_sm hj
  have J := jobB_spec hj
  unfold impl_OrderFaults impl_OrderFaultsK
  rw [IsJob_ok j s, hj, isPlan_ok j p hl]
  cases hp : planB j p with
  | false => exact ⟨[], rfl, fun h => absurd h (by simp)⟩
  | true =>
    have Q := planB_spec hp
    obtain ⟨F, g1, g2, g3⟩ := pFaults_outer j p s J Q 0 (Nat.zero_le _) [] (by simp)
    have g1 : impl_OrderFaults_l0 p.2.1 (p.2.1.length : Int) j.1 p.2.1 0 [] = some F := g1
    refine ⟨F, ?_, fun _ => ?_⟩
    · simp only [Option.bind_some, Bool.not_true, cond_false, g1]
    · rw [Bool.eq_iff_iff, decide_eq_true_eq, ordB, allI_iff, g3]
      exact ⟨fun h m hm => h.2 m hm (Nat.zero_le _), fun h => ⟨rfl, fun m hm _ => h m hm⟩⟩
theorem pOver_loop (j : DJob) (n : Nat) (hn : n ≤ 6) (f : Nat → Int × Int) : ∀ i, i ≤ n → ∀ acc : List Int, acc.length ≤ i →
    ∃ F, impl_OverLimits_l0 (n : Int) j.2.2.2.1.1 j.2.2.2.1.2.1 (tab n f) (i : Int) acc = some F ∧ (F = [] ↔ acc = [] ∧ ∀ t, t < n → i ≤ t → (decide ((f t).1 ≤ j.2.2.2.1.1) && decide ((f t).2 ≤ j.2.2.2.1.2.1)) = true) := by
  refine down (fun acc hacc => ?_) fun i hi ih acc hacc => ?_
  · rw [impl_OverLimits_l0_eq]; unfold impl_OverLimits_l0K
    rw [lt_out (Nat.le_refl _)]
    exact ⟨acc, rfl, fun h => ⟨h, fun m hm h2 => by omega⟩, fun h => h.1⟩
  · rw [impl_OverLimits_l0_eq]; unfold impl_OverLimits_l0K
    rw [lt_in hi, ck_in (by rw [tab_len]; exact hi), wr_succ hi (by omega), tab_get hi]
    have l0 : (0 : Int) < (([(f i).1, (f i).2] : List Int).length : Int) := by simp
    have l1 : (1 : Int) < (([(f i).1, (f i).2] : List Int).length : Int) := by simp
    have v0 : ([(f i).1, (f i).2] : List Int).getD (0 + 0) 0 = (f i).1 := rfl
    have v1 : ([(f i).1, (f i).2] : List Int).getD (0 + 1) 0 = (f i).2 := rfl
    have hl : acc.length + [(i : Int)].length ≤ 1099511627776 := by simp; omega
    simp only [l0, l1, v0, v1, hl, decide_true, cond_true]
    have bad : (decide ((f i).1 ≤ j.2.2.2.1.1) && decide ((f i).2 ≤ j.2.2.2.1.2.1)) = false → ∃ F, impl_OverLimits_l0 (n : Int) j.2.2.2.1.1 j.2.2.2.1.2.1 (tab n f) ((i + 1 : Nat) : Int) (acc ++ [(i : Int)]) = some F ∧
        (F = [] ↔ acc = [] ∧ ∀ t, t < n → i ≤ t → (decide ((f t).1 ≤ j.2.2.2.1.1) && decide ((f t).2 ≤ j.2.2.2.1.2.1)) = true) := fun hb => by
      obtain ⟨F, g1, g3⟩ := ih (acc ++ [(i : Int)]) (by simp; omega)
      refine ⟨F, g1, g3.trans ⟨fun ⟨h1, h2⟩ => absurd h1 (by simp), fun ⟨h1, h2⟩ => ?_⟩⟩
      have := h2 i hi (Nat.le_refl _)
      rw [hb] at this; exact absurd this (by simp)
    by_cases c1 : (f i).1 > j.2.2.2.1.1
    · simp only [c1, decide_true, cond_true]
      exact bad (by have : ¬ (f i).1 ≤ j.2.2.2.1.1 := by omega
                    simp [this])
    · by_cases c2 : (f i).2 > j.2.2.2.1.2.1
      · simp only [c1, c2, decide_true, decide_false, cond_true, cond_false]
        exact bad (by have : ¬ (f i).2 ≤ j.2.2.2.1.2.1 := by omega
                      simp [this])
      · simp only [c1, c2, decide_false, cond_false]
        obtain ⟨F, g1, g3⟩ := ih acc (by omega)
        refine ⟨F, g1, g3.trans ⟨fun ⟨h1, h2⟩ => ⟨h1, fun m hm hmi => ?_⟩, fun ⟨h1, h2⟩ => ⟨h1, fun m hm hmi => h2 m hm (by omega)⟩⟩⟩
        by_cases e : m = i
        · subst e
          have d1 : (f m).1 ≤ j.2.2.2.1.1 := by omega
          have d2 : (f m).2 ≤ j.2.2.2.1.2.1 := by omega
          simp [d1, d2]
        · exact h2 m hm (by omega)
theorem OverLimits_ok (j : DJob) (p : DPlan) (hj : jobB j = true) (hl : p.2.1.length ≤ 1048576) : ∃ F : List Int, impl_OverLimits j p = some (F, planB j p) ∧ (planB j p = true → decide (F = []) = capB j p.2.1) := by
  have s := jobB_sm hj
  have J := jobB_spec hj
  have hper := J.per
  unfold impl_OverLimits impl_OverLimitsK
  rw [IsJob_ok j s, hj, isPlan_ok j p hl]
  cases hp : planB j p with
  | false => exact ⟨[], rfl, fun h => absurd h (by simp)⟩
  | true =>
    have Q := planB_spec hp
    obtain ⟨G, g1, g2⟩ := pOver_loop j j.2.2.2.2.1.toNat (by omega) (fun t => ton (zip3 p.2.1 j.2.1 j.2.2.1) (t : Int)) 0 (Nat.zero_le _) [] (by simp)
    have g1 : impl_OverLimits_l0 ((tonnes j p).length : Int) j.2.2.2.1.1 j.2.2.2.1.2.1 (tonnes j p) 0 [] = some G := by
      rw [show (tonnes j p).length = j.2.2.2.2.1.toNat from tab_len _ _]; exact g1
    refine ⟨G, ?_, fun _ => ?_⟩
    · simp only [Option.bind_some, Bool.not_true, cond_false, tonnesIn_ok j p J Q, g1]
    · rw [Bool.eq_iff_iff, decide_eq_true_eq, capB, List.all_eq_true, g2]
      exact ⟨fun h m hm => h.2 m (List.mem_range.1 hm) (Nat.zero_le _), fun h => ⟨rfl, fun m hm _ => h m (List.mem_range.2 hm)⟩⟩
theorem sameInts_refl (l : List Int) (h : l.length ≤ 1099511627776) : laws_sameInts l l = some true := by
  unfold laws_sameInts laws_sameIntsK
  have : laws_sameInts_l0 l l (l.length : Int) 0 = some (if l.all (fun _ => true) then .inr () else .inl false) := by
    refine allL_loop (f := fun i => laws_sameInts_l0 l l (l.length : Int) i) ?_ fun i hi => ?_
    · show laws_sameInts_l0 _ _ _ _ = _
      rw [laws_sameInts_l0_eq]; unfold laws_sameInts_l0K
      rw [lt_out (Nat.le_refl _)]
    · show laws_sameInts_l0 _ _ _ _ = _
      rw [laws_sameInts_l0_eq]; unfold laws_sameInts_l0K
      rw [loop_step hi, wr_succ hi (by omega), lat_nat hi]
      simp
  rw [this]
  simp [sumO]
theorem pSamePlan_refl (p : DPlan) (h : p.2.1.length ≤ 1099511627776) : laws_pSamePlan p p = some true := by
  unfold laws_pSamePlan laws_pSamePlanK
  rw [sameInts_refl _ h]; simp
theorem planB_of {j : DJob} {w : List Int} (W : WOk j w) (h : w.length = j.1.length) : planB j (j.2.2.2.2.1, w, ()) = true := by
  have : inB (-1) (j.2.2.2.2.1 - 1) w = true := by
    unfold inB
    rw [List.all_eq_true]
    intro x hx
    have := W.w x hx
    simp; omega
  simp [planB, this, h]
end
end Go.OAI
