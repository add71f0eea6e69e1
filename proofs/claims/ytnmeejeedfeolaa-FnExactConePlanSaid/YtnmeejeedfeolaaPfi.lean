/- Blocks that fit in. -/
import Derived.Test.YtnmeejeedfeolaaPk
import Derived.Test.YtnmeejeedfeolaaGGr
namespace Go.OAI
set_option linter.unusedVariables false
noncomputable section

theorem cni {α : Type} (x : Bool) (A B : α) : (bif !x then B else A) = if x = true then A else B := by cases x <;> rfl
def setAll (B : List Int) (t : Int) (w : List Int) : List Int := B.foldl (fun w b => w.set b.toNat t) w
theorem setAll_len (t : Int) : ∀ (B w : List Int), (setAll B t w).length = w.length
  | [], _ => rfl
  | b :: B, w => by
    show (setAll B t (w.set b.toNat t)).length = _
    rw [setAll_len t B]; simp
theorem setAll_ok {j : DJob} {c : Int} {t : Int} (h1 : -1 ≤ t) (h2 : t < j.2.2.2.2.1) : ∀ (B w : List Int), PlanOk j (c, w, ()) → PlanOk j (c, setAll B t w, ())
  | [], _, Q => Q
  | b :: B, w, Q => setAll_ok h1 h2 B _ (Q.set (p := (c, w, ())) (i := b.toNat) h1 h2)
theorem fits_set (t : Int) (B : List Int) (hB : B.length ≤ 1048576) (n : Nat) (hb : ∀ b ∈ B, 0 ≤ b ∧ b < (n : Int)) : ∀ i, i ≤ B.length → ∀ w : List Int, w.length = n →
    impl_fitsIn_l0 t B (B.length : Int) (i : Int) w = some (setAll (B.drop i) t w) := by
  refine down (fun w hw => ?_) fun i hi ih w hw => ?_
  · rw [impl_fitsIn_l0_eq]; unfold impl_fitsIn_l0K
    rw [lt_out (Nat.le_refl _), List.drop_length]; rfl
  · have hx := hb _ (List.getElem_mem hi)
    rw [impl_fitsIn_l0_eq]; unfold impl_fitsIn_l0K
    rw [loop_step hi, ck_int hx.1 (by omega), wr_succ hi (by omega)]
    simp only [Option.bind_some, Nat.zero_add]
    rw [ih _ (by simp [hw]), drop_cons hi]; rfl
def arcsOf (j : DJob) (b : Int) : List Int := j.1.getD b.toNat []
def fitB (j : DJob) (w B : List Int) (t : Int) : Bool :=
  B.all (fun b => (arcsOf j b).all (arcB (setAll B t w) b.toNat)) &&
    (decide ((ton (zip3 (setAll B t w) j.2.1 j.2.2.1) t).1 ≤ j.2.2.2.1.1) && decide ((ton (zip3 (setAll B t w) j.2.1 j.2.2.1) t).2 ≤ j.2.2.2.1.2.1))
theorem fitsIn_ok (j : DJob) (s : JobSm j) (J : JobOk j) (c : Int) (w B : List Int) (t : Nat) (Q : PlanOk j (c, w, ())) (hB : B.length ≤ 1048576) (hb : ∀ b ∈ B, 0 ≤ b ∧ b < (j.1.length : Int)) (ht : t < j.2.2.2.2.1.toNat) :
    impl_fitsIn j (c, w, ()) B (t : Int) = some (fitB j w B t) := by
  have hlen : w.length = j.1.length := Q.len
  have hn := J.n2
  have hper := J.per
  have Q' : PlanOk j (c, setAll B t w, ()) := setAll_ok (by omega) (by omega) B w Q
  have h0 := fits_set (t : Int) B hB j.1.length hb 0 (Nat.zero_le _) w hlen
  have h0 : impl_fitsIn_l0 (t : Int) B (B.length : Int) 0 w = some (setAll B t w) := h0
  have h1 : impl_fitsIn_l1 B (B.length : Int) j.1 j.2.1 j.2.2.1 j.2.2.2.1.1 j.2.2.2.1.2.1 j.2.2.2.2.1 j.2.2.2.2.2.1 j.2.2.2.2.2.2.1 c (setAll B t w) 0 =
      some (if B.all (fun b => (arcsOf j b).all (arcB (setAll B t w) b.toNat)) then .inr () else .inl false) := by
    refine allL_loop (f := fun k => impl_fitsIn_l1 B (B.length : Int) j.1 j.2.1 j.2.2.1 j.2.2.2.1.1 j.2.2.2.1.2.1 j.2.2.2.2.1 j.2.2.2.2.2.1 j.2.2.2.2.2.2.1 c (setAll B t w) k) ?_ fun k hk => ?_
    · show impl_fitsIn_l1 _ _ _ _ _ _ _ _ _ _ _ _ _ = _
      rw [impl_fitsIn_l1_eq]; unfold impl_fitsIn_l1K
      rw [lt_out (Nat.le_refl _)]
    · show impl_fitsIn_l1 _ _ _ _ _ _ _ _ _ _ _ _ _ = _
      have hx := hb _ (List.getElem_mem hk)
      obtain ⟨b, hbk⟩ := Int.eq_ofNat_of_zero_le hx.1
      have hbl : b < j.1.length := by omega
      have e := keepsOrder_ok j (c, setAll B t w, ()) s J Q' b hbl
      have ea : arcsOf j (b : Int) = j.1[b] := by simp [arcsOf, hbl]
      rw [impl_fitsIn_l1_eq]; unfold impl_fitsIn_l1K
      rw [loop_step hk, jobEta, hbk, e, wr_succ hk (by omega), ea]
      simp only [Option.bind_some, Int.toNat_natCast]
      exact cni _ _ _
  unfold impl_fitsIn impl_fitsInK fitB
  simp only [copyPlan_ok (c, w, ()) (by show w.length ≤ _; omega), Option.bind_some, h0, h1]
  cases B.all (fun b => (arcsOf j b).all (arcB (setAll B t w) b.toNat)) with
  | false => simp [sumO]
  | true =>
    simp only [if_true, sumO, tonnesIn_ok j (c, setAll B t w, ()) J Q', Option.bind_some]
    rw [ck_in (by rw [tonnes, tab_len]; exact ht)]
    unfold tonnes
    rw [tab_get ht]
    dsimp only
    generalize ton (zip3 (setAll B t w) j.2.1 j.2.2.1) (t : Int) = q
    by_cases c1 : q.1 ≤ j.2.2.2.1.1 <;> simp [c1]
def openB (j : DJob) (w : List Int) (b : Int) (t : Int) : Bool := (arcsOf j b).all fun a => decide (0 ≤ w.getD a.toNat 0) && decide (w.getD a.toNat 0 ≤ t)
theorem wiOpen_ok (j : DJob) (s : JobSm j) (J : JobOk j) (c : Int) (w : List Int) (b : Nat) (t : Int) (hb : b < j.1.length) (hw : w.length = j.1.length) : spec_wiOpen j (c, w, ()) (b : Int) t = some (openB j w b t) := by
  have hr : j.1[b].length ≤ 1048576 := s.r _ (List.getElem_mem hb)
  have hn := J.n2
  have ea : arcsOf j (b : Int) = j.1[b] := by simp [arcsOf, hb]
  have h1 : spec_wiOpen_l0 t j.1[b] (j.1[b].length : Int) w 0 = some (if j.1[b].all (fun a => decide (0 ≤ w.getD a.toNat 0) && decide (w.getD a.toNat 0 ≤ t)) then .inr () else .inl false) := by
    refine allL_loop (f := fun k => spec_wiOpen_l0 t j.1[b] (j.1[b].length : Int) w k) ?_ fun k hk => ?_
    · show spec_wiOpen_l0 _ _ _ _ _ = _
      rw [spec_wiOpen_l0_eq]; unfold spec_wiOpen_l0K
      rw [lt_out (Nat.le_refl _)]
    · show spec_wiOpen_l0 _ _ _ _ _ = _
      have ha := (J.arc b hb).1 _ (List.getElem_mem hk)
      have haw : j.1[b][k].toNat < w.length := by omega
      have hga : w.getD j.1[b][k].toNat 0 = w[j.1[b][k].toNat] := by simp [haw]
      rw [spec_wiOpen_l0_eq]; unfold spec_wiOpen_l0K
      rw [loop_step hk, wr_succ hk (by omega)]
      simp only [lat_int ha.1 haw, Option.bind_some, hga, l1In_ok]
      cases (decide (0 ≤ w[j.1[b][k].toNat]) && decide (w[j.1[b][k].toNat] ≤ t)) <;> simp
  unfold spec_wiOpen spec_wiOpenK openB
  rw [lat_nat hb, ea]
  simp only [Option.bind_some, h1]
  cases j.1[b].all (fun a => decide (0 ≤ w.getD a.toNat 0) && decide (w.getD a.toNat 0 ≤ t)) <;> simp [sumO]
def sT (j : DJob) (B : List Int) : Int := (B.map fun b => j.2.1.getD b.toNat 0).sum
def sG (j : DJob) (B : List Int) : Int := (B.map fun b => if j.2.2.1.getD b.toNat 0 > 0 then j.2.1.getD b.toNat 0 else 0).sum
def roomB (j : DJob) (w : List Int) (t : Int) (B : List Int) : Bool :=
  decide ((ton (zip3 w j.2.1 j.2.2.1) t).1 + sT j B ≤ j.2.2.2.1.1) && decide ((ton (zip3 w j.2.1 j.2.2.1) t).2 + sG j B ≤ j.2.2.2.1.2.1)
theorem zip3_len {j : DJob} (J : JobOk j) {w : List Int} (hw : w.length = j.1.length) : (zip3 w j.2.1 j.2.2.1).length = j.1.length := by
  have h1 := J.lt
  have h2 := J.lv
  simp [zip3, hw, h1, h2]
theorem zip3_mem {j : DJob} (J : JobOk j) {w : List Int} : ∀ y ∈ zip3 w j.2.1 j.2.2.1, 0 ≤ y.2.1 ∧ y.2.1 ≤ 10000 := fun y hy => by
  have := (List.of_mem_zip hy).2
  have := (List.of_mem_zip this).1
  exact J.t _ this
theorem wiRoom_ok (j : DJob) (s : JobSm j) (J : JobOk j) (c : Int) (w B : List Int) (t : Nat) (Q : PlanOk j (c, w, ())) (hB : B.length ≤ 1048576) (hb : ∀ b ∈ B, 0 ≤ b ∧ b < (j.1.length : Int)) (ht : t < j.2.2.2.2.1.toNat) :
    spec_wiRoom j (c, w, ()) (t : Int) B = some (roomB j w t B) := by
  have hlen : w.length = j.1.length := Q.len
  have hn := J.n2
  have tb := ton_bound (zip3 w j.2.1 j.2.2.1) (t : Int) (zip3_mem J)
  rw [zip3_len J hlen] at tb
  have key : ∀ i, i ≤ B.length → ∀ x y : Int, 0 ≤ x → x ≤ 2000000 + 10000 * (i : Int) → 0 ≤ y → y ≤ 2000000 + 10000 * (i : Int) →
      spec_wiRoom_l0 B (B.length : Int) j.2.1 j.2.2.1 x y (i : Int) = some (x + sT j (B.drop i), y + sG j (B.drop i)) := by
    refine down (fun x y h1 h2 h3 h4 => ?_) fun i hi ih x y h1 h2 h3 h4 => ?_
    · rw [spec_wiRoom_l0_eq]; unfold spec_wiRoom_l0K
      rw [lt_out (Nat.le_refl _), List.drop_length]
      simp [sT, sG]
    · have hx := hb _ (List.getElem_mem hi)
      have l1 : B[i].toNat < j.2.1.length := by have := J.lt; omega
      have l2 : B[i].toNat < j.2.2.1.length := by have := J.lv; omega
      have g1 : j.2.1.getD B[i].toNat 0 = j.2.1[B[i].toNat] := by simp [l1]
      have g2 : j.2.2.1.getD B[i].toNat 0 = j.2.2.1[B[i].toNat] := by simp [l2]
      have hxb := J.t _ (List.getElem_mem l1)
      rw [spec_wiRoom_l0_eq]; unfold spec_wiRoom_l0K
      rw [loop_step hi, wr_succ hi (by omega), drop_cons hi]
      simp only [lat_int hx.1 l1, lat_int hx.1 l2, Option.bind_some]
      rw [wr (n := x + j.2.1[B[i].toNat]) (by omega) (by omega), wr (n := y + j.2.1[B[i].toNat]) (by omega) (by omega)]
      have e1 : sT j (B[i] :: B.drop (i + 1)) = j.2.1[B[i].toNat] + sT j (B.drop (i + 1)) := by simp only [sT, List.map_cons, List.sum_cons, g1]
      have e2 : sG j (B[i] :: B.drop (i + 1)) = (if j.2.2.1[B[i].toNat] > 0 then j.2.1[B[i].toNat] else 0) + sG j (B.drop (i + 1)) := by simp only [sG, List.map_cons, List.sum_cons, g1, g2]
      rw [e1, e2]
      by_cases c2 : j.2.2.1[B[i].toNat] > 0
      · simp only [c2, decide_true, cond_true, if_true]
        rw [ih _ _ (by omega) (by omega) (by omega) (by omega)]
        simp only [Option.some.injEq, Prod.mk.injEq]
        constructor <;> omega
      · simp only [c2, decide_false, cond_false, if_false]
        rw [ih _ _ (by omega) (by omega) (by omega) (by omega)]
        simp only [Option.some.injEq, Prod.mk.injEq]
        constructor <;> omega
  have k0 := key 0 (Nat.zero_le _) (ton (zip3 w j.2.1 j.2.2.1) (t : Int)).1 (ton (zip3 w j.2.1 j.2.2.1) (t : Int)).2 (by omega) (by omega) (by omega) (by omega)
  have k0 : spec_wiRoom_l0 B (B.length : Int) j.2.1 j.2.2.1 (ton (zip3 w j.2.1 j.2.2.1) (t : Int)).1 (ton (zip3 w j.2.1 j.2.2.1) (t : Int)).2 0 = _ := k0
  rw [List.drop_zero] at k0
  unfold spec_wiRoom spec_wiRoomK roomB
  rw [plTonnes_ok j (c, w, ()) J Q]
  simp only [Option.bind_some]
  unfold tonnes
  rw [ck_in (by rw [tab_len]; exact ht), tab_get ht]
  have l0 : (0 : Int) < (([(ton (zip3 w j.2.1 j.2.2.1) (t : Int)).1, (ton (zip3 w j.2.1 j.2.2.1) (t : Int)).2] : List Int).length : Int) := by simp
  have l1 : (1 : Int) < (([(ton (zip3 w j.2.1 j.2.2.1) (t : Int)).1, (ton (zip3 w j.2.1 j.2.2.1) (t : Int)).2] : List Int).length : Int) := by simp
  have v0 : ([(ton (zip3 w j.2.1 j.2.2.1) (t : Int)).1, (ton (zip3 w j.2.1 j.2.2.1) (t : Int)).2] : List Int).getD (0 + 0) 0 = (ton (zip3 w j.2.1 j.2.2.1) (t : Int)).1 := rfl
  have v1 : ([(ton (zip3 w j.2.1 j.2.2.1) (t : Int)).1, (ton (zip3 w j.2.1 j.2.2.1) (t : Int)).2] : List Int).getD (0 + 1) 0 = (ton (zip3 w j.2.1 j.2.2.1) (t : Int)).2 := rfl
  simp only [l0, l1, v0, v1, decide_true, cond_true, k0, Option.bind_some]
  by_cases c1 : (ton (zip3 w j.2.1 j.2.2.1) (t : Int)).1 + sT j B ≤ j.2.2.2.1.1 <;> simp [c1]
/-- One more block in period t. -/
theorem ton_set {j : DJob} (t : Int) : ∀ (w T V : List Int) (i : Nat) (hi : i < w.length) (hT : i < T.length) (hV : i < V.length), w[i] ≠ t →
    ton (zip3 (w.set i t) T V) t = ((ton (zip3 w T V) t).1 + T[i], (ton (zip3 w T V) t).2 + if V[i] > 0 then T[i] else 0)
  | [], _, _, _, hi, _, _, _ => absurd hi (Nat.not_lt_zero _)
  | _ :: _, [], _, _, _, hT, _, _ => absurd hT (Nat.not_lt_zero _)
  | _ :: _, _ :: _, [], _, _, _, hV, _ => absurd hV (Nat.not_lt_zero _)
  | w :: ws, x :: T, v :: V, 0, _, _, _, h => by
    have h : w ≠ t := h
    show ton ((t, x, v) :: zip3 ws T V) t = ((ton ((w, x, v) :: zip3 ws T V) t).1 + x, (ton ((w, x, v) :: zip3 ws T V) t).2 + if v > 0 then x else 0)
    simp only [ton, if_true, if_neg h]
    exact Prod.ext (Int.add_comm _ _) (Int.add_comm _ _)
  | w :: ws, x :: T, v :: V, i + 1, hi, hT, hV, h => by
    have hT' : i < T.length := Nat.lt_of_succ_lt_succ hT
    have hV' : i < V.length := Nat.lt_of_succ_lt_succ hV
    have ih := ton_set (j := j) t ws T V i (Nat.lt_of_succ_lt_succ hi) hT' hV' h
    show ton ((w, x, v) :: zip3 (ws.set i t) T V) t = ((ton ((w, x, v) :: zip3 ws T V) t).1 + T[i], (ton ((w, x, v) :: zip3 ws T V) t).2 + if V[i] > 0 then T[i] else 0)
    simp only [ton]
    by_cases c : w = t
    · simp only [if_pos c, ih]
      exact Prod.ext (by dsimp only; omega) (by dsimp only; omega)
    · simp only [if_neg c, ih]
theorem ton_setAll {j : DJob} (J : JobOk j) (t : Int) (ht : 0 ≤ t) : ∀ (B w : List Int), B.Nodup → w.length = j.1.length → (∀ b ∈ B, 0 ≤ b ∧ b < (j.1.length : Int) ∧ w.getD b.toNat 0 < 0) →
    ton (zip3 (setAll B t w) j.2.1 j.2.2.1) t = ((ton (zip3 w j.2.1 j.2.2.1) t).1 + sT j B, (ton (zip3 w j.2.1 j.2.2.1) t).2 + sG j B)
  | [], w, _, _, _ => by simp [setAll, sT, sG]
  | b :: B, w, hd, hw, hb => by
    obtain ⟨b0, b1, b2⟩ := hb b (List.mem_cons_self ..)
    have i1 : b.toNat < w.length := by omega
    have i2 : b.toNat < j.2.1.length := by have := J.lt; omega
    have i3 : b.toNat < j.2.2.1.length := by have := J.lv; omega
    have g1 : j.2.1.getD b.toNat 0 = j.2.1[b.toNat] := by simp [i2]
    have g2 : j.2.2.1.getD b.toNat 0 = j.2.2.1[b.toNat] := by simp [i3]
    have gw : w.getD b.toNat 0 = w[b.toNat] := by simp [i1]
    rw [gw] at b2
    have ih := ton_setAll J t ht B (w.set b.toNat t) (List.nodup_cons.1 hd).2 (by simp [hw]) fun x hx => by
      obtain ⟨x0, x1, x2⟩ := hb x (List.mem_cons_of_mem _ hx)
      refine ⟨x0, x1, ?_⟩
      have hne : b.toNat ≠ x.toNat := fun e => by
        have : b = x := by omega
        subst this
        exact (List.nodup_cons.1 hd).1 hx
      have : (w.set b.toNat t).getD x.toNat 0 = w.getD x.toNat 0 := by simp [hne]
      rw [this]; exact x2
    have st := ton_set (j := j) t w j.2.1 j.2.2.1 b.toNat i1 i2 i3 (by omega)
    show ton (zip3 (setAll B t (w.set b.toNat t)) j.2.1 j.2.2.1) t = _
    rw [ih, st]
    simp only [sT, sG, List.map_cons, List.sum_cons, g1, g2]
    exact Prod.ext (by dsimp only; omega) (by dsimp only; omega)
theorem fit_one (j : DJob) (J : JobOk j) (w : List Int) (b : Nat) (t : Int) (hb : b < j.1.length) (hw : w.length = j.1.length) (hn : w.getD b 0 < 0) (ht : 0 ≤ t) :
    fitB j w [(b : Int)] t = (openB j w b t && roomB j w t [(b : Int)]) := by
  have e := ton_setAll J t ht [(b : Int)] w (by simp) hw (by simp; exact ⟨hb, by simpa using hn⟩)
  have ea : arcsOf j (b : Int) = j.1[b] := by simp [arcsOf, hb]
  unfold fitB roomB openB
  rw [e, ea]
  have h1 : [(b : Int)].all (fun b' => (arcsOf j b').all (arcB (setAll [(b : Int)] t w) b'.toNat)) = j.1[b].all fun a => decide (0 ≤ w.getD a.toNat 0) && decide (w.getD a.toNat 0 ≤ t) := by
    simp only [List.all_cons, List.all_nil, Bool.and_true, ea]
    rw [Bool.eq_iff_iff, List.all_eq_true, List.all_eq_true]
    have key : ∀ a ∈ j.1[b], arcB (setAll [(b : Int)] t w) ((b : Int)).toNat a = (decide (0 ≤ w.getD a.toNat 0) && decide (w.getD a.toNat 0 ≤ t)) := fun a ha => by
      have hab := (J.arc b hb).1 a ha
      have hne : b ≠ a.toNat := by omega
      have hbw : b < w.length := by omega
      have s1 : (setAll [(b : Int)] t w).getD b 0 = t := by simp [setAll, hbw]
      have s2 : (setAll [(b : Int)] t w).getD a.toNat 0 = w.getD a.toNat 0 := by simp [setAll, hne]
      have c : ¬ t < 0 := by omega
      simp only [arcB, Int.toNat_natCast, s1, s2, c, decide_false, Bool.false_or]
    exact ⟨fun h x hx => by rw [← key x hx]; exact h x hx, fun h x hx => by rw [key x hx]; exact h x hx⟩
  rw [h1]
theorem empty_loop {f : Int → List Int → Option (List Int)} (n : Nat) (hn : n ≤ 1048576) (hend : f (n : Int) (List.replicate n (-1)) = some (List.replicate n (-1)))
    (hstep : ∀ (i : Nat) (r : List Int), i < n → r.length = n → f (i : Int) r = f ((i + 1 : Nat) : Int) (r.set i (-1))) : f 0 (List.replicate n 0) = some (List.replicate n (-1)) := by
  refine fill_loop (l := List.replicate n (-1)) (by simp; omega) (by simpa using hend) (fun i r hi hr => ?_) _ (by simp)
  have hi : i < n := by simpa using hi
  have hr : r.length = n := by simpa using hr
  rw [hstep i r hi hr]; simp
theorem emptyPlan_ok (j : DJob) (J : JobOk j) : impl_emptyPlan j = some (j.2.2.2.2.1, List.replicate j.1.length (-1)) ∧ spec_wiEmpty j = some (j.2.2.2.2.1, List.replicate j.1.length (-1)) := by
  have hn := J.n2
  have hl : (((List.replicate j.1.length 0 : List Int).length : Nat) : Int) = (j.1.length : Int) := by simp
  constructor
  · unfold impl_emptyPlan impl_emptyPlanK
    rw [cap_ok (by omega)]
    simp only [Option.bind_some, Int.toNat_natCast, hl]
    have := empty_loop (f := fun i r => impl_emptyPlan_l0 (j.1.length : Int) i r) j.1.length (by omega) (by
      show impl_emptyPlan_l0 _ _ _ = _
      rw [impl_emptyPlan_l0_eq]; unfold impl_emptyPlan_l0K
      rw [lt_out (Nat.le_refl _)]) fun i r hi hr => by
      show impl_emptyPlan_l0 _ _ _ = impl_emptyPlan_l0 _ _ _
      rw [impl_emptyPlan_l0_eq]; unfold impl_emptyPlan_l0K
      rw [lt_in hi, ck_in (by omega), wr_succ hi (by omega)]
      simp
    have this : impl_emptyPlan_l0 (j.1.length : Int) 0 (List.replicate j.1.length 0) = _ := this
    simp only [this, Option.bind_some]
  · unfold spec_wiEmpty spec_wiEmptyK
    rw [cap_ok (by omega)]
    simp only [Option.bind_some, Int.toNat_natCast, hl]
    have := empty_loop (f := fun i r => spec_wiEmpty_l0 (j.1.length : Int) i r) j.1.length (by omega) (by
      show spec_wiEmpty_l0 _ _ _ = _
      rw [spec_wiEmpty_l0_eq]; unfold spec_wiEmpty_l0K
      rw [lt_out (Nat.le_refl _)]) fun i r hi hr => by
      show spec_wiEmpty_l0 _ _ _ = spec_wiEmpty_l0 _ _ _
      rw [spec_wiEmpty_l0_eq]; unfold spec_wiEmpty_l0K
      rw [lt_in hi, ck_in (by omega), wr_succ hi (by omega)]
      simp
    have this : spec_wiEmpty_l0 (j.1.length : Int) 0 (List.replicate j.1.length 0) = _ := this
    simp only [this, Option.bind_some]
theorem emptyOk (j : DJob) (J : JobOk j) : PlanOk j (j.2.2.2.2.1, List.replicate j.1.length (-1), ()) :=
  ⟨rfl, by simp, fun x hx => by have := List.eq_of_mem_replicate hx; have := J.per; omega⟩
end
end Go.OAI
