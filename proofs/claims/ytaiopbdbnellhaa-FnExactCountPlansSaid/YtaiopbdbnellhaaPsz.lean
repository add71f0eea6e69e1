/- The search from its root: both sides come to the same. -/
import Derived.Test.YtaiopbdbnellhaaPsy
namespace Go.OAI
set_option linter.unusedVariables false
noncomputable section

theorem ton_none : ∀ (m : Nat) (x v : List Int) (t : Int), 0 ≤ t → ton (zip3 (List.replicate m (-1)) x v) t = (0, 0)
  | 0, x, v, t, _ => by simp [zip3, ton]
  | m + 1, [], v, t, _ => by simp [zip3, ton]
  | m + 1, _ :: x, [], t, _ => by simp [zip3, ton]
  | m + 1, a :: x, b :: v, t, h => by
    have ih := ton_none m x v t h
    have e : zip3 (List.replicate (m + 1) (-1)) (a :: x) (b :: v) = (-1, a, b) :: zip3 (List.replicate m (-1)) x v := by rw [List.replicate_succ]; rfl
    rw [e]; simp only [ton, ih]
    rw [if_neg (by omega)]
def s0 (j : DJob) : AS := ⟨List.replicate j.1.length (-1), 0, 0, 0, false⟩
def done (j : DJob) (most : Int) : AS := go j most j.1.length [] (s0 j)
theorem WOk.nil (j : DJob) : WOk j [] := ⟨Nat.zero_le _, fun x hx => absurd hx (by simp)⟩
theorem new_ok {j : DJob} (S : SearchOk j) (most : Int) : ∃ A : List Int, A.length = j.1.length + 1 ∧ (∀ k, k ≤ j.1.length → A.getD k 0 = top (dpow j) (j.2.2.1.drop k)) ∧
    impl_newSearch j most = some (imS j most A [] (s0 j)) := by
  have J := S.toJobOk
  have hlv := S.lv
  have hn := S.n12
  have hn1 := S.n1
  have hper := S.per
  obtain ⟨d0, d1⟩ := dpow_bound J
  have te := tonnesIn_ok j (j.2.2.2.2.1, List.replicate j.1.length (-1), ()) J (emptyPlanOk j J)
  have tu : tonnes j (j.2.2.2.2.1, List.replicate j.1.length (-1), ()) = usT j [] := tab_congr fun k _ => by
    rw [ton_none _ _ _ _ (by omega)]; simp [us, zip3, ton]
  rw [tu] at te
  have e1 : (j.1.length : Int) + 1 = ((j.1.length + 1 : Nat) : Int) := by omega
  obtain ⟨A, g1, g2, g3, g4, g5⟩ := rest_loop j S (dpow j) rfl d0 d1 j.2.2.1.length (Nat.le_refl _) (List.replicate (j.1.length + 1) 0) (by simp [hlv]) (by
    rw [List.drop_length]
    simp [hlv, top]) (fun m hm => by
    have : m < j.1.length + 1 := by omega
    simp [this])
  rw [hlv] at g1
  refine ⟨A, by omega, fun k hk => g5 k (by omega), ?_⟩
  unfold impl_newSearch impl_newSearchK
  rw [implEmpty_ok j J, wr (n := (j.1.length : Int) + 1) (by omega) (by omega), wr (n := (j.1.length : Int) - 1) (by omega) (by omega)]
  simp only [Option.bind_some, te]
  rw [e1, cap_ok (by omega)]
  simp only [Int.toNat_natCast, Option.bind_some, g1]
  simp [imS, s0, pad]
theorem proSearch_ok {j : DJob} (sm : JobSm j) (S : SearchOk j) {most : Int} (h0 : 0 ≤ most) (h1 : most ≤ 20001) : ∃ A : List Int, impl_newSearch j most = some (imS j most A [] (s0 j)) ∧
    impl_planSearch_visit (imS j most A [] (s0 j)) 0 0 = some (imS j most A [] (done j most)) := by
  obtain ⟨A, g1, g2, g3⟩ := new_ok S most
  have k := proVisit_ok sm S h1 A g1 g2 j.1.length [] (s0 j) (WOk.nil j) (by simp) ⟨by simp [s0], by simpa [s0] using h0⟩
  have ew : worth j [] j.2.2.1 = 0 := by cases j.2.2.1 <;> rfl
  rw [ew] at k
  exact ⟨A, g3, k⟩
theorem refSearch_ok {j : DJob} (sm : JobSm j) (S : SearchOk j) {most : Int} (h0 : 0 ≤ most) (h1 : most ≤ 20001) : spec_srSearch j most = some (spS j most (done j most)) := by
  have hn := S.n12
  have key : ∀ i, i ≤ j.1.length → spec_srSearch_l0 (j.1.length : Int) (i : Int) (List.replicate i (-1)) = some (List.replicate j.1.length (-1)) := by
    refine down ?_ fun i hi ih => ?_
    · rw [spec_srSearch_l0_eq]; unfold spec_srSearch_l0K
      rw [lt_out (Nat.le_refl _)]
    · rw [spec_srSearch_l0_eq]; unfold spec_srSearch_l0K
      have hcap : (List.replicate i (-1 : Int)).length + [(-1 : Int)].length ≤ 1099511627776 := by simp; omega
      have e : List.replicate i (-1 : Int) ++ [-1] = List.replicate (i + 1) (-1) := by rw [List.replicate_succ']
      rw [lt_in hi, wr_succ hi (by omega)]
      simp only [hcap, decide_true, cond_true, Option.bind_some, e]
      exact ih
  have k0 := key 0 (Nat.zero_le _)
  have k0 : spec_srSearch_l0 (j.1.length : Int) 0 [] = some (List.replicate j.1.length (-1)) := k0
  have k := refVisit_ok sm S h1 j.1.length [] (s0 j) (WOk.nil j) (by simp) ⟨by simp [s0], by simpa [s0] using h0⟩
  simp only [spS, s0] at k
  unfold spec_srSearch spec_srSearchK
  rw [k0]
  simp only [Option.bind_some]
  rw [k]; rfl
/-- The best plan is a plan. -/
structure BOk (j : DJob) (s : AS) : Prop where
  w : WOk j s.best
  len : s.best.length = j.1.length
theorem go_best {j : DJob} (hp : 1 ≤ j.2.2.2.2.1) (most : Int) : ∀ m w s, WOk j w → w.length + m = j.1.length → BOk j s → BOk j (go j most m w s)
  | 0, w, s, W, hl, h => by
    unfold go
    split
    · exact ⟨h.w, h.len⟩
    · split
      · exact ⟨h.w, h.len⟩
      · exact ⟨W, by simpa using hl⟩
  | m + 1, w, s, W, hl, h => by
    unfold go
    split
    · exact ⟨h.w, h.len⟩
    · split
      · exact ⟨h.w, h.len⟩
      · have key : ∀ (K : List Int) (s : AS), (∀ t ∈ K, -1 ≤ t ∧ t < j.2.2.2.2.1) → BOk j s → BOk j (K.foldl (fun s t => go j most m (w ++ [t]) s) s) := by
          intro K
          induction K with
          | nil => exact fun s _ h => h
          | cons t K ih => exact fun s hK h => ih _ (fun x hx => hK x (List.mem_cons_of_mem _ hx)) (go_best hp most m _ s (W.snoc (by omega) (hK t (List.mem_cons_self ..))) (by simp; omega) h)
        exact key _ _ (fun t ht => kids_mem hp ht) ⟨h.w, h.len⟩
theorem done_best {j : DJob} (hp : 1 ≤ j.2.2.2.2.1) (most : Int) : BOk j (done j most) :=
  go_best hp most _ _ _ (WOk.nil j) (by simp) ⟨⟨by simp [s0], fun x hx => by have := List.eq_of_mem_replicate hx; omega⟩, by simp [s0]⟩
def planOut (j : DJob) (most : Int) : (Int × List Int) × Int × Int × Bool :=
  ((j.2.2.2.2.1, (done j most).best), (done j most).worth, (if (done j most).opn > (done j most).worth then (done j most).opn else (done j most).worth), true)
theorem SearchPlan_both (j : DJob) (sw : JobWf j) (most : Int) :
    (impl_SearchPlan j most = some ((0, []), 0, 0, false) ∧ spec_SearchPlan j most = some ((0, []), 0, 0, false)) ∨
    (searchB j = true ∧ 1 ≤ most ∧ most ≤ 20000 ∧ impl_SearchPlan j most = some (planOut j most) ∧ spec_SearchPlan j most = some (planOut j most)) := by
  unfold impl_SearchPlan impl_SearchPlanK spec_SearchPlan spec_SearchPlanK
  rw [IsSearchable_okW j sw, srGood_okW j sw]
  cases hj : searchB j with
  | false => exact .inl ⟨rfl, rfl⟩
  | true =>
    obtain ⟨S, hjb⟩ := searchB_spec hj
    have s := jobB_sm hjb
    rw [l1In_ok]
    by_cases c1 : most < 1
    · have c2 : ¬ (1 : Int) ≤ most := by omega
      refine .inl ?_
      simp [c1, c2]
    · by_cases c3 : most > 20000
      · have c2 : ¬ most ≤ 20000 := by omega
        refine .inl ?_
        simp [c1, c2, c3]
      · have c2 : (1 : Int) ≤ most := by omega
        have c4 : most ≤ 20000 := by omega
        have hb := done_best S.per.1 (j := j) most
        have hbl : (done j most).best.length ≤ 1099511627776 := by have := hb.len; have := S.n12; omega
        obtain ⟨A, g1, g2⟩ := proSearch_ok s S (most := most) (by omega) (by omega)
        refine .inr ⟨rfl, c2, c4, ?_, ?_⟩
        · simp only [Bool.not_true, cond_false, Option.bind_some, c1, decide_false, c3, g1]
          rw [g2]; rfl
        · simp only [Bool.not_true, cond_false, Option.bind_some, c2, decide_true, c4, Bool.and_self, refSearch_ok s S (most := most) (by omega) (by omega)]
          simp only [spS]
          rw [l1Own_ok _ hbl, l1Most_ok]; rfl
end
end Go.OAI
