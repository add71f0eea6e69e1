/- The search: the program's side of it. -/
import Derived.Test.YtaiopbdbnellhaaPsx
namespace Go.OAI
set_option linter.unusedVariables false
noncomputable section

/-! ### Periods so far, and what they use -/
def pad (n : Nat) (w : List Int) : List Int := w ++ List.replicate (n - w.length) (-1)
theorem pad_len {n : Nat} {w : List Int} (h : w.length ≤ n) : (pad n w).length = n := by simp [pad]; omega
theorem pad_set {n : Nat} {w : List Int} (h : w.length < n) (t : Int) : (pad n w).set w.length t = pad n (w ++ [t]) := by
  have e : n - w.length = (n - (w.length + 1)) + 1 := by omega
  unfold pad
  rw [e, List.replicate_succ, List.set_append_right _ _ (Nat.le_refl _)]
  simp
theorem pad_unset {n : Nat} {w : List Int} (h : w.length < n) (t : Int) : (pad n (w ++ [t])).set w.length (-1) = pad n w := by
  have e : n - w.length = (n - (w.length + 1)) + 1 := by omega
  unfold pad
  rw [e, List.replicate_succ, List.append_assoc, List.set_append_right _ _ (Nat.le_refl _)]
  simp
theorem pad_last {n : Nat} {w : List Int} {t : Int} : (pad n (w ++ [t])).getD w.length 0 = t := by
  simp [pad]
theorem pad_lt {n : Nat} {w : List Int} {t : Int} {a : Nat} (h : a < w.length) : (pad n (w ++ [t])).getD a 0 = w.getD a 0 := by
  simp [pad, List.getElem?_append_left h]
theorem pad_all {n : Nat} {w : List Int} (h : w.length = n) : pad n w = w := by simp [pad, h]
theorem pad_ok {j : DJob} {w : List Int} (hp : 1 ≤ j.2.2.2.2.1) (W : WOk j w) : PlanOk j (j.2.2.2.2.1, pad j.1.length w, ()) :=
  ⟨rfl, pad_len W.len, fun x hx => by
    rcases List.mem_append.1 hx with h | h
    · exact W.w x h
    · have := List.eq_of_mem_replicate h; omega⟩
theorem ton_snoc : ∀ (w x v : List Int) (t y : Int) (hx : w.length < x.length) (hv : w.length < v.length), ton (zip3 (w ++ [t]) x v) y =
    if t = y then ((ton (zip3 w x v) y).1 + x[w.length], (ton (zip3 w x v) y).2 + if v[w.length] > 0 then x[w.length] else 0) else ton (zip3 w x v) y
  | [], a :: x, b :: v, t, y, hx, hv => by
    by_cases c : t = y <;> simp [zip3, ton, c]
  | c :: w, a :: x, b :: v, t, y, hx, hv => by
    have hx' : w.length < x.length := by simpa using hx
    have hv' : w.length < v.length := by simpa using hv
    have ih := ton_snoc w x v t y hx' hv'
    have e1 : zip3 (c :: w ++ [t]) (a :: x) (b :: v) = (c, a, b) :: zip3 (w ++ [t]) x v := rfl
    have e2 : zip3 (c :: w) (a :: x) (b :: v) = (c, a, b) :: zip3 w x v := rfl
    rw [e1, e2]
    simp only [ton, ih, List.length_cons, List.getElem_cons_succ]
    by_cases c1 : c = y
    · by_cases c2 : t = y
      · simp only [c1, c2, if_true, Prod.mk.injEq]; constructor <;> omega
      · simp only [c1, c2, if_true, if_false]
    · simp only [c1, if_false]
  | [], [], _, _, _, hx, _ => absurd hx (by simp)
  | [], _ :: _, [], _, _, _, hv => absurd hv (by simp)
  | _ :: _, [], _, _, _, hx, _ => absurd hx (by simp)
  | _ :: _, _ :: _, [], _, _, _, hv => absurd hv (by simp)
theorem us_snoc {j : DJob} (J : JobOk j) {w : List Int} (h : w.length < j.1.length) (t y : Int) (hx : w.length < j.2.1.length) (hv : w.length < j.2.2.1.length) : us j (w ++ [t]) y =
    if t = y then ((us j w y).1 + j.2.1[w.length], (us j w y).2 + if j.2.2.1[w.length] > 0 then j.2.1[w.length] else 0) else us j w y := ton_snoc w j.2.1 j.2.2.1 t y hx hv
theorem us_bound {j : DJob} (S : SearchOk j) {w : List Int} (W : WOk j w) (t : Int) : 0 ≤ (us j w t).1 ∧ (us j w t).1 ≤ 120000 ∧ 0 ≤ (us j w t).2 ∧ (us j w t).2 ≤ 120000 := by
  have hb := ton_bound (zip3 w j.2.1 j.2.2.1) t fun y hy => S.t _ (by
    have := (List.of_mem_zip (a := y.1) (b := y.2) hy).2
    exact (List.of_mem_zip (a := y.2.1) (b := y.2.2) this).1)
  have hl : (zip3 w j.2.1 j.2.2.1).length ≤ w.length := by simp [zip3]; omega
  have h1 := W.len
  have h2 := S.n12
  unfold us
  omega
theorem worth_snoc {j : DJob} : ∀ (w v : List Int) (t : Int) (hv : w.length < v.length), worth j (w ++ [t]) v = worth j w v + v[w.length] * fac j t
  | [], b :: v, t, hv => by cases v <;> simp [worth]
  | c :: w, b :: v, t, hv => by
    have hv' : w.length < v.length := by simpa using hv
    have ih := worth_snoc (j := j) w v t hv'
    show b * fac j c + worth j (w ++ [t]) v = b * fac j c + worth j w v + _
    rw [ih]; simp only [List.length_cons, List.getElem_cons_succ]; omega
  | [], [], _, hv => absurd hv (by simp)
  | _ :: _, [], _, hv => absurd hv (by simp)

/-! ### The program's state -/
def usT (j : DJob) (w : List Int) : List (List Int) := tab j.2.2.2.2.1.toNat fun t : Nat => us j w (t : Int)
@[reducible] def imS (j : DJob) (most : Int) (A w : List Int) (s : AS) : (List (List Int)) × (List Int) × (List Int) × Int × Int × Int × Int × Int × Int × (List Int) × (List (List Int)) × (List Int) × Int × (List Int) × Int × Int × Int × Int × Bool :=
  (j.1, j.2.1, j.2.2.1, j.2.2.2.1.1, j.2.2.2.1.2.1, j.2.2.2.2.1, j.2.2.2.2.2.1, j.2.2.2.2.2.2.1, j.2.2.2.2.1, pad j.1.length w, usT j w, A, j.2.2.2.2.1, s.best, s.worth, most, s.nodes, s.opn, s.stop)
theorem usT_len (j : DJob) (w : List Int) : (usT j w).length = j.2.2.2.2.1.toNat := tab_len ..
theorem tab_congr {n : Nat} {f g : Nat → Int × Int} (h : ∀ k, k < n → f k = g k) : tab n f = tab n g := by
  unfold tab
  exact List.map_congr_left fun k hk => by rw [h k (by simpa using hk)]
theorem put_ok {j : DJob} (S : SearchOk j) (most : Int) (A : List Int) {w : List Int} (W : WOk j w) (s : AS) (h : w.length < j.1.length) {t : Int} (ht : -1 ≤ t ∧ t < j.2.2.2.2.1) :
    impl_planSearch_put (imS j most A w s) (w.length : Int) t = some (imS j most A (w ++ [t]) s) := by
  have hper := S.per
  have hx : w.length < j.2.1.length := by have := S.lt; omega
  have hv : w.length < j.2.2.1.length := by have := S.lv; omega
  have hpl := pad_len (n := j.1.length) (w := w) (Nat.le_of_lt h)
  have hxb := S.t _ (List.getElem_mem hx)
  have e0 : (0 : Nat) + ((w.length : Int)).toNat = w.length := by omega
  unfold impl_planSearch_put impl_planSearch_putK
  simp only [imS]
  rw [ck_in (by rw [hpl]; exact h)]
  simp only [e0, pad_set h, Option.bind_some]
  by_cases c : t < 0
  · have et : t = -1 := by omega
    have eu : usT j (w ++ [t]) = usT j w := tab_congr fun k _ => by rw [us_snoc S.toJobOk h t _ hx hv, if_neg (by omega)]
    simp only [c, decide_true, cond_true, eu]
  · obtain ⟨k, rfl⟩ : ∃ k : Nat, t = (k : Int) := ⟨t.toNat, by omega⟩
    have hk : k < j.2.2.2.2.1.toNat := by omega
    have hb := us_bound S W (k : Int)
    have hck : (decide ((0 : Int) ≤ (k : Int)) && decide ((k : Int) < ((usT j w).length : Int))) = true := by
      rw [usT_len]; simp; omega
    have hr : (usT j w).getD (0 + ((k : Int)).toNat) [] = [(us j w (k : Int)).1, (us j w (k : Int)).2] := tab_get hk
    simp only [c, decide_false, cond_false, hck, cond_true, hr, lat_nat hx, lat_nat hv, Option.bind_some]
    let f : Nat → Int × Int := fun i => us j w (i : Int)
    let g : Nat → Int × Int := fun i => if i = k then ((us j w (i : Int)).1 + j.2.1[w.length], (us j w (i : Int)).2) else us j w (i : Int)
    have hg : g k = ((us j w (k : Int)).1 + j.2.1[w.length], (us j w (k : Int)).2) := by simp [g]
    have s1 : (usT j w).set (0 + ((k : Int)).toNat) ([(us j w (k : Int)).1, (us j w (k : Int)).2].set (0 + 0) (IntKind.i64.wrap ([(us j w (k : Int)).1, (us j w (k : Int)).2].getD (0 + 0) 0 + j.2.1[w.length]))) = tab j.2.2.2.2.1.toNat g := by
      have := tab_set (n := j.2.2.2.2.1.toNat) (f := f) (g := g) (t := k) fun i hi => by simp [g, f, hi]
      rw [hg] at this
      show (usT j w).set _ [IntKind.i64.wrap ((us j w (k : Int)).1 + j.2.1[w.length]), (us j w (k : Int)).2] = _
      rw [wr (by omega) (by omega)]
      exact this
    have l2 : decide ((0 : Int) < (([(us j w (k : Int)).1, (us j w (k : Int)).2].length : Nat) : Int)) = true := by simp
    simp only [l2, cond_true, s1]
    have hck2 : (decide ((0 : Int) ≤ (k : Int)) && decide ((k : Int) < ((tab j.2.2.2.2.1.toNat g).length : Int))) = true := by
      rw [tab_len]; simp; omega
    have hr2 : (tab j.2.2.2.2.1.toNat g).getD (0 + ((k : Int)).toNat) [] = [(us j w (k : Int)).1 + j.2.1[w.length], (us j w (k : Int)).2] := by
      rw [tab_get hk, hg]
    by_cases c2 : j.2.2.1[w.length] > 0
    · have l3 : decide ((1 : Int) < (([(us j w (k : Int)).1 + j.2.1[w.length], (us j w (k : Int)).2].length : Nat) : Int)) = true := by simp
      have s2 : (tab j.2.2.2.2.1.toNat g).set (0 + ((k : Int)).toNat) ([(us j w (k : Int)).1 + j.2.1[w.length], (us j w (k : Int)).2].set (0 + 1) (IntKind.i64.wrap ([(us j w (k : Int)).1 + j.2.1[w.length], (us j w (k : Int)).2].getD (0 + 1) 0 + j.2.1[w.length]))) = usT j (w ++ [(k : Int)]) := by
        have := tab_set (n := j.2.2.2.2.1.toNat) (f := g) (g := fun i : Nat => us j (w ++ [(k : Int)]) (i : Int)) (t := k) fun i hi => by
          have : ¬ (k : Int) = (i : Int) := by omega
          simp [g, hi, us_snoc S.toJobOk h (k : Int) (i : Int) hx hv, this]
        simp only [us_snoc S.toJobOk h (k : Int) (k : Int) hx hv, if_true, c2] at this
        show (tab _ g).set _ [(us j w (k : Int)).1 + j.2.1[w.length], IntKind.i64.wrap ((us j w (k : Int)).2 + j.2.1[w.length])] = _
        rw [wr (by omega) (by omega)]
        exact this
      simp only [c2, decide_true, cond_true, hck2, hr2, l3, s2]
    · have s2 : tab j.2.2.2.2.1.toNat g = usT j (w ++ [(k : Int)]) := tab_congr fun i hi => by
        by_cases e : i = k
        · subst e; simp [g, us_snoc S.toJobOk h (i : Int) (i : Int) hx hv, c2]
        · have : ¬ (k : Int) = (i : Int) := by omega
          simp [g, e, us_snoc S.toJobOk h (k : Int) (i : Int) hx hv, this]
      simp only [c2, decide_false, cond_false, s2]
theorem remove_ok {j : DJob} (S : SearchOk j) (most : Int) (A : List Int) {w : List Int} (W : WOk j w) (s : AS) (h : w.length < j.1.length) {t : Int} (ht : -1 ≤ t ∧ t < j.2.2.2.2.1) :
    impl_planSearch_remove (imS j most A (w ++ [t]) s) (w.length : Int) = some (imS j most A w s) := by
  have hper := S.per
  have hx : w.length < j.2.1.length := by have := S.lt; omega
  have hv : w.length < j.2.2.1.length := by have := S.lv; omega
  have hpl := pad_len (n := j.1.length) (w := w ++ [t]) (by simp; omega)
  have hxb := S.t _ (List.getElem_mem hx)
  have e0 : (0 : Nat) + ((w.length : Int)).toNat = w.length := by omega
  unfold impl_planSearch_remove impl_planSearch_removeK
  simp only [imS]
  rw [ck_in (by rw [hpl]; exact h), ck_in (by rw [hpl]; exact h)]
  simp only [e0, pad_unset h, pad_last, Option.bind_some]
  by_cases c : t < 0
  · have et : t = -1 := by omega
    have eu : usT j (w ++ [t]) = usT j w := tab_congr fun k _ => by rw [us_snoc S.toJobOk h t _ hx hv, if_neg (by omega)]
    simp only [c, decide_true, cond_true, eu]
  · obtain ⟨k, rfl⟩ : ∃ k : Nat, t = (k : Int) := ⟨t.toNat, by omega⟩
    have hk : k < j.2.2.2.2.1.toNat := by omega
    have hb := us_bound S W (k : Int)
    have hck : (decide ((0 : Int) ≤ (k : Int)) && decide ((k : Int) < ((usT j (w ++ [(k : Int)])).length : Int))) = true := by
      rw [usT_len]; simp; omega
    let u := us j (w ++ [(k : Int)]) (k : Int)
    have hu : u = ((us j w (k : Int)).1 + j.2.1[w.length], (us j w (k : Int)).2 + if j.2.2.1[w.length] > 0 then j.2.1[w.length] else 0) := by
      show us j (w ++ [(k : Int)]) (k : Int) = _
      rw [us_snoc S.toJobOk h (k : Int) (k : Int) hx hv, if_pos rfl]
    have hr : (usT j (w ++ [(k : Int)])).getD (0 + ((k : Int)).toNat) [] = [u.1, u.2] := tab_get hk
    have hu1 : u.1 = (us j w (k : Int)).1 + j.2.1[w.length] := by rw [hu]
    have hu2 : u.2 = (us j w (k : Int)).2 + if j.2.2.1[w.length] > 0 then j.2.1[w.length] else 0 := by rw [hu]
    simp only [c, decide_false, cond_false, hck, cond_true, hr, lat_nat hx, lat_nat hv, Option.bind_some]
    let f : Nat → Int × Int := fun i => us j (w ++ [(k : Int)]) (i : Int)
    let g : Nat → Int × Int := fun i => if i = k then ((us j w (i : Int)).1, u.2) else us j w (i : Int)
    have hg : g k = ((us j w (k : Int)).1, u.2) := by simp [g]
    have s1 : (usT j (w ++ [(k : Int)])).set (0 + ((k : Int)).toNat) ([u.1, u.2].set (0 + 0) (IntKind.i64.wrap ([u.1, u.2].getD (0 + 0) 0 - j.2.1[w.length]))) = tab j.2.2.2.2.1.toNat g := by
      have := tab_set (n := j.2.2.2.2.1.toNat) (f := f) (g := g) (t := k) fun i hi => by
        have : ¬ (k : Int) = (i : Int) := by omega
        simp [g, f, hi, us_snoc S.toJobOk h (k : Int) (i : Int) hx hv, this]
      rw [hg] at this
      show (usT j (w ++ [(k : Int)])).set _ [IntKind.i64.wrap (u.1 - j.2.1[w.length]), u.2] = _
      have e1 : u.1 - j.2.1[w.length] = (us j w (k : Int)).1 := by omega
      rw [e1, wr (by omega) (by omega)]
      exact this
    have l2 : decide ((0 : Int) < (([u.1, u.2].length : Nat) : Int)) = true := by simp
    simp only [l2, cond_true, s1]
    have hck2 : (decide ((0 : Int) ≤ (k : Int)) && decide ((k : Int) < ((tab j.2.2.2.2.1.toNat g).length : Int))) = true := by
      rw [tab_len]; simp; omega
    have hr2 : (tab j.2.2.2.2.1.toNat g).getD (0 + ((k : Int)).toNat) [] = [(us j w (k : Int)).1, u.2] := by
      rw [tab_get hk, hg]
    by_cases c2 : j.2.2.1[w.length] > 0
    · have l3 : decide ((1 : Int) < (([(us j w (k : Int)).1, u.2].length : Nat) : Int)) = true := by simp
      rw [if_pos c2] at hu2
      have s2 : (tab j.2.2.2.2.1.toNat g).set (0 + ((k : Int)).toNat) ([(us j w (k : Int)).1, u.2].set (0 + 1) (IntKind.i64.wrap ([(us j w (k : Int)).1, u.2].getD (0 + 1) 0 - j.2.1[w.length]))) = usT j w := by
        have := tab_set (n := j.2.2.2.2.1.toNat) (f := g) (g := fun i : Nat => us j w (i : Int)) (t := k) fun i hi => by simp [g, hi]
        show (tab _ g).set _ [(us j w (k : Int)).1, IntKind.i64.wrap (u.2 - j.2.1[w.length])] = _
        have e1 : u.2 - j.2.1[w.length] = (us j w (k : Int)).2 := by omega
        rw [e1, wr (by omega) (by omega)]
        exact this
      simp only [c2, decide_true, cond_true, hck2, hr2, l3, s2]
    · rw [if_neg c2] at hu2
      have s2 : tab j.2.2.2.2.1.toNat g = usT j w := tab_congr fun i hi => by
        by_cases e : i = k
        · subst e; simp [g, hu2]
        · simp [g, e]
      simp only [c2, decide_false, cond_false, s2]
theorem all_same {f g : Int → Bool} : ∀ L : List Int, (∀ x ∈ L, f x = g x) → L.all f = L.all g
  | [], _ => rfl
  | x :: L, h => by
    rw [List.all_cons, List.all_cons, h x (List.mem_cons_self ..), all_same L fun y hy => h y (List.mem_cons_of_mem _ hy)]
theorem keeps_pad {j : DJob} (sm : JobSm j) (S : SearchOk j) {w : List Int} (W : WOk j w) (h : w.length < j.1.length) {t : Int} (h0 : 0 ≤ t) (ht : t < j.2.2.2.2.1) :
    impl_keepsOrder j (j.2.2.2.2.1, pad j.1.length (w ++ [t]), ()) (w.length : Int) = some ((j.1.getD w.length []).all (arcT w t)) := by
  have hg : j.1.getD w.length [] = j.1[w.length] := by simp [h]
  rw [keepsOrder_ok j _ sm S.toJobOk (pad_ok S.per.1 (W.snoc h ⟨by omega, ht⟩)) w.length h, hg]
  congr 1
  refine all_same _ fun a ha => ?_
  have hb := (S.arc w.length h).1 a ha
  have hal : a.toNat < w.length := by omega
  have c : ¬ t < 0 := by omega
  simp only [arcB, arcT, pad_last, pad_lt hal, c, decide_false, Bool.false_or]
theorem children_ok {j : DJob} (sm : JobSm j) (S : SearchOk j) (most : Int) (A : List Int) {w : List Int} (W : WOk j w) (s : AS) (h : w.length < j.1.length) :
    impl_planSearch_children (imS j most A w s) (w.length : Int) = some (kidsT j w, imS j most A w s) := by
  have hper := S.per
  have hpl := pers_len j
  have key : ∀ i, i ≤ (pers j).length → ∀ acc : List Int, acc.length ≤ i →
      impl_planSearch_children_l0 (w.length : Int) (i : Int) j.1 j.2.1 j.2.2.1 j.2.2.2.1.1 j.2.2.2.1.2.1 j.2.2.2.2.1 j.2.2.2.2.2.1 j.2.2.2.2.2.2.1 j.2.2.2.2.1 j.2.2.2.2.1 s.worth most s.nodes s.opn s.stop (pad j.1.length w) (usT j w) A s.best acc =
      some (j.1, j.2.1, j.2.2.1, j.2.2.2.1.1, j.2.2.2.1.2.1, j.2.2.2.2.1, j.2.2.2.2.2.1, j.2.2.2.2.2.2.1, j.2.2.2.2.1, j.2.2.2.2.1, s.worth, most, s.nodes, s.opn, s.stop, pad j.1.length w, usT j w, A, s.best, acc ++ ((pers j).drop i).filter (fitB j w)) ∧ acc.length ≤ 1000 := by
    refine down (fun acc ha => ?_) fun i hi ih acc ha => ?_
    · refine ⟨?_, by omega⟩
      have e : ((pers j).length : Int) = j.2.2.2.2.1 := by omega
      rw [impl_planSearch_children_l0_eq]; unfold impl_planSearch_children_l0K
      have c : ¬ j.2.2.2.2.1 < j.2.2.2.2.1 := by omega
      simp only [e, c, decide_false, cond_false, List.drop_length, List.filter_nil, List.append_nil]
    · refine ⟨?_, by omega⟩
      have hlt : (i : Int) < j.2.2.2.2.1 := by omega
      have hk : i < j.2.2.2.2.1.toNat := by omega
      have hput := put_ok S most A W s h (t := (i : Int)) (by omega)
      have hrem := remove_ok S most A W s h (t := (i : Int)) (by omega)
      have hke := keeps_pad sm S W h (t := (i : Int)) (by omega) hlt
      simp only [imS] at hput hrem
      have hck : (decide ((0 : Int) ≤ (i : Int)) && decide ((i : Int) < ((usT j (w ++ [(i : Int)])).length : Int))) = true := by
        rw [usT_len]; simp; omega
      have hr : (usT j (w ++ [(i : Int)])).getD (0 + ((i : Int)).toNat) [] = [(us j (w ++ [(i : Int)]) (i : Int)).1, (us j (w ++ [(i : Int)]) (i : Int)).2] := tab_get hk
      have hcap : acc.length + [(i : Int)].length ≤ 1099511627776 := by simp; omega
      rw [impl_planSearch_children_l0_eq]; unfold impl_planSearch_children_l0K
      simp only [hlt, decide_true, cond_true]
      rw [hput]
      simp only [Option.bind_some, jobEta]
      rw [hke]
      simp only [Option.bind_some]
      rw [drop_cons hi, pers_get hi, List.filter_cons]
      have hfit : fitB j w (i : Int) = ((j.1.getD w.length []).all (arcT w (i : Int)) && (decide ((us j (w ++ [(i : Int)]) (i : Int)).1 ≤ j.2.2.2.1.1) && decide ((us j (w ++ [(i : Int)]) (i : Int)).2 ≤ j.2.2.2.1.2.1))) := rfl
      cases hA : (j.1.getD w.length []).all (arcT w (i : Int))
      · rw [hA] at hfit
        simp only [Bool.false_and] at hfit
        simp only [cond_false, hrem, Option.bind_some, hfit, Bool.false_eq_true, if_false]
        rw [wr_succ hi (by omega)]
        exact (ih acc (by omega)).1
      · rw [hA] at hfit
        simp only [Bool.true_and] at hfit
        have l0 : decide ((0 : Int) < (([(us j (w ++ [(i : Int)]) (i : Int)).1, (us j (w ++ [(i : Int)]) (i : Int)).2].length : Nat) : Int)) = true := by simp
        have l1 : decide ((1 : Int) < (([(us j (w ++ [(i : Int)]) (i : Int)).1, (us j (w ++ [(i : Int)]) (i : Int)).2].length : Nat) : Int)) = true := by simp
        simp only [cond_true, hck, hr, l0, l1]
        show cond (decide ((us j (w ++ [(i : Int)]) (i : Int)).1 ≤ j.2.2.2.1.1)) _ _ = _
        by_cases c1 : (us j (w ++ [(i : Int)]) (i : Int)).1 ≤ j.2.2.2.1.1
        · simp only [c1, decide_true, cond_true, Bool.true_and] at hfit ⊢
          rw [hrem]
          simp only [Option.bind_some]
          show cond (decide ((us j (w ++ [(i : Int)]) (i : Int)).2 ≤ j.2.2.2.1.2.1)) _ _ = _
          by_cases c2 : (us j (w ++ [(i : Int)]) (i : Int)).2 ≤ j.2.2.2.1.2.1
          · simp only [c2, decide_true, cond_true] at hfit ⊢
            rw [wr_succ hi (by omega)]
            simp only [hfit, if_true, hcap, decide_true, cond_true]
            rw [(ih (acc ++ [(i : Int)]) (by simp; omega)).1]
            simp
          · simp only [c2, decide_false, cond_false] at hfit ⊢
            rw [wr_succ hi (by omega)]
            simp only [hfit, Bool.false_eq_true, if_false]
            exact (ih acc (by omega)).1
        · simp only [c1, decide_false, cond_false, Bool.false_and] at hfit ⊢
          rw [hrem]
          simp only [Option.bind_some]
          rw [wr_succ hi (by omega)]
          simp only [hfit, Bool.false_eq_true, if_false]
          exact (ih acc (by omega)).1
  have k0 := (key 0 (Nat.zero_le _) [] (by simp)).1
  simp only [List.drop_zero, List.nil_append, Int.natCast_zero] at k0
  have hl := List.length_filter_le (fitB j w) (pers j)
  have hcap : ((pers j).filter (fitB j w)).length + [(-1 : Int)].length ≤ 1099511627776 := by simp; omega
  unfold impl_planSearch_children impl_planSearch_childrenK
  simp only [imS]
  rw [k0]
  simp only [Option.bind_some, hcap, decide_true, cond_true]
  rfl
theorem proVisit_ok {j : DJob} (sm : JobSm j) (S : SearchOk j) {most : Int} (hmost : most ≤ 20001) (A : List Int) (hA : A.length = j.1.length + 1) (hA2 : ∀ k, k ≤ j.1.length → A.getD k 0 = top (dpow j) (j.2.2.1.drop k)) : ∀ m w s, WOk j w → w.length + m = j.1.length → NOk most s →
    impl_planSearch_visit (imS j most A w s) (w.length : Int) (worth j w j.2.2.1) = some (imS j most A w (go j most m w s)) := by
  have h12 := S.n12
  intro m
  induction m with
  | zero =>
    intro w s W hl hs
    have h0 := hs.n0
    have h1 := hs.n1
    have hw := worth_small S W
    have ht := top_small S w.length
    have e0 : (0 : Nat) + ((w.length : Int)).toNat = w.length := by omega
    have hb : IntKind.i64.wrap (worth j w j.2.2.1 + A.getD w.length 0) = bnd j w := by
      rw [hA2 _ W.len, wr (by omega) (by omega)]; rfl
    rw [impl_planSearch_visit_eq]; unfold impl_planSearch_visitK
    simp only [imS]
    rw [ck_in (by have := W.len; omega), ck_in (by have := W.len; omega), wr (n := s.nodes + 1) (by omega) (by omega)]
    simp only [e0, hb, Option.bind_some, go]
    by_cases c : s.nodes = most
    · simp only [c, beq_self_eq_true, cond_true, if_true]; simp only [stopAt, c]
    · have c' : (s.nodes == most) = false := by simp [c]
      simp only [c', cond_false, if_neg c]
      by_cases c2 : bnd j w ≤ s.worth
      · simp only [c2, decide_true, cond_true, if_true]; rfl
      · have c3 : ((w.length : Int) == (j.1.length : Int)) = true := by simp; omega
        have hwl : w.length = j.1.length := by omega
        have ht0 : top (dpow j) (j.2.2.1.drop w.length) = 0 := by
          rw [List.drop_eq_nil_of_le (by have := S.lv; omega)]; rfl
        have hbw : bnd j w = worth j w j.2.2.1 := by unfold bnd; omega
        have hcp := copyPlan_ok (j.2.2.2.2.1, pad j.1.length w, ()) (by show (pad j.1.length w).length ≤ _; rw [pad_len W.len]; omega)
        simp only [c2, decide_false, cond_false, if_false, c3, cond_true]
        rw [hcp]
        simp only [Option.bind_some, hbw, AS.up, pad_all hwl]
  | succ m ih =>
    intro w s W hl hs
    have h0 := hs.n0
    have h1 := hs.n1
    have hwl : w.length < j.1.length := by omega
    have hv : w.length < j.2.2.1.length := by have := S.lv; omega
    have hw := worth_small S W
    have ht := top_small S w.length
    have e0 : (0 : Nat) + ((w.length : Int)).toNat = w.length := by omega
    have hb : IntKind.i64.wrap (worth j w j.2.2.1 + A.getD w.length 0) = bnd j w := by
      rw [hA2 _ W.len, wr (by omega) (by omega)]; rfl
    rw [impl_planSearch_visit_eq]; unfold impl_planSearch_visitK
    simp only [imS]
    rw [ck_in (by omega), ck_in (by omega), wr (n := s.nodes + 1) (by omega) (by omega)]
    simp only [e0, hb, Option.bind_some, go]
    by_cases c : s.nodes = most
    · simp only [c, beq_self_eq_true, cond_true, if_true]; simp only [stopAt, c]
    · have c' : (s.nodes == most) = false := by simp [c]
      simp only [c', cond_false, if_neg c]
      by_cases c2 : bnd j w ≤ s.worth
      · simp only [c2, decide_true, cond_true, if_true]; rfl
      · have c3 : ((w.length : Int) == (j.1.length : Int)) = false := by simp; omega
        have hch := children_ok sm S most A W s.up hwl
        simp only [imS, AS.up] at hch
        simp only [c2, decide_false, cond_false, if_false, c3]
        rw [hch]
        simp only [Option.bind_some]
        have hkl : (kidsT j w).length ≤ 1000 := by
          have := List.length_filter_le (fitB j w) (pers j)
          have h2 := pers_len j
          have h3 := S.per
          simp only [kidsT, List.length_append, List.length_singleton]; omega
        have key : ∀ i, i ≤ (kidsT j w).length → ∀ s : AS, NOk most s → impl_planSearch_visit_l0 (fun x => impl_planSearch_visit x.1 x.2.1 x.2.2) (w.length : Int) (worth j w j.2.2.1) ((kidsT j w).length : Int) (kidsT j w) (i : Int)
            j.1 j.2.1 j.2.2.1 j.2.2.2.1.1 j.2.2.2.1.2.1 j.2.2.2.2.1 j.2.2.2.2.2.1 j.2.2.2.2.2.2.1 j.2.2.2.2.1 j.2.2.2.2.1 s.worth most s.nodes s.opn s.stop (pad j.1.length w) (usT j w) A s.best =
            (fun z : AS => some (j.1, j.2.1, j.2.2.1, j.2.2.2.1.1, j.2.2.2.1.2.1, j.2.2.2.2.1, j.2.2.2.2.2.1, j.2.2.2.2.2.2.1, j.2.2.2.2.1, j.2.2.2.2.1, z.worth, most, z.nodes, z.opn, z.stop, pad j.1.length w, usT j w, A, z.best)) (((kidsT j w).drop i).foldl (fun s t => go j most m (w ++ [t]) s) s) := by
          refine down (fun s hs => ?_) fun i hi ihi s hs => ?_
          · rw [impl_planSearch_visit_l0_eq]; unfold impl_planSearch_visit_l0K
            rw [lt_out (Nat.le_refl _), List.drop_length]; rfl
          · have hk := kids_mem (j := j) (w := w) (by have := S.per; omega) (List.getElem_mem hi)
            have hput := put_ok S most A W s hwl hk
            have hrem := remove_ok S most A W (go j most m (w ++ [(kidsT j w)[i]]) s) hwl hk
            have W' := W.snoc hwl hk
            have hw' := worth_small S W'
            have hf := scaledFactor_ok j S.toJobOk _ hk.2
            have hm := mul_bound (S.v _ (List.getElem_mem hv)) (fac_bound S.toJobOk hk.2)
            have hih := ih (w ++ [(kidsT j w)[i]]) s W' (by simp; omega) hs
            rw [worth_snoc w _ _ hv] at hih hw'
            simp only [imS] at hput hrem hih
            rw [impl_planSearch_visit_l0_eq]; unfold impl_planSearch_visit_l0K
            rw [lt_in hi, ck_in hi, getD_nat hi, wr_succ hi (by omega)]
            rw [hput]
            simp only [Option.bind_some, lat_nat hv, jobEta]
            rw [hf]
            simp only [Option.bind_some]
            have e4 : IntKind.i64.wrap ((w.length : Int) + 1) = ((w ++ [(kidsT j w)[i]]).length : Int) := by
              rw [wr (by omega) (by omega)]; simp
            rw [wr (n := j.2.2.1[w.length] * fac j (kidsT j w)[i]) (by omega) (by omega), wr (n := worth j w j.2.2.1 + j.2.2.1[w.length] * fac j (kidsT j w)[i]) (by omega) (by omega), e4]
            simp only [hih, Option.bind_some]
            rw [hrem]
            simp only [Option.bind_some]
            rw [drop_cons hi, List.foldl_cons]
            exact ihi _ (go_nodes j most m _ s hs)
        have := key 0 (Nat.zero_le _) s.up (hs.up c)
        simp only [AS.up, Int.natCast_zero, List.drop_zero] at this
        rw [this]; rfl
end
end Go.OAI
