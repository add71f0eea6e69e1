/- CountPlans: the law in plain words. -/
import Derived.Test.YtaiopbdbnellhaaPsz
import Derived.Test.YtaiopbdbnellhaaGCountPlans
namespace Go.OAI
set_option linter.unusedVariables false
noncomputable section

/-- The plans behind a node. -/
def cnt (j : DJob) : Nat → List Int → Int
  | 0, _ => 1
  | m + 1, w => ((kidsT j w).map fun t => cnt j m (w ++ [t])).sum
theorem kids_len {j : DJob} (S : SearchOk j) (w : List Int) : (kidsT j w).length ≤ 7 := by
  have := List.length_filter_le (fitB j w) (pers j)
  have h2 := pers_len j
  have h3 := S.per
  simp only [kidsT, List.length_append, List.length_singleton]; omega
theorem sum_bound {f : Int → Int} {C : Int} (hC : 0 ≤ C) (h : ∀ t, 0 ≤ f t ∧ f t ≤ C) : ∀ L : List Int, 0 ≤ (L.map f).sum ∧ (L.map f).sum ≤ C * L.length
  | [] => by simp
  | x :: L => by
    have := sum_bound hC h L
    have hx := h x
    simp only [List.map_cons, List.sum_cons, List.length_cons]
    have e : C * ((L.length + 1 : Nat) : Int) = C * (L.length : Int) + C := by rw [Int.natCast_add, Int.mul_add]; simp
    rw [e]
    omega
theorem cnt_bound {j : DJob} (S : SearchOk j) : ∀ m w, 0 ≤ cnt j m w ∧ cnt j m w ≤ 7 ^ m
  | 0, w => by simp [cnt]
  | m + 1, w => by
    have hp : (0 : Int) ≤ 7 ^ m := by
      have := cnt_bound S m w
      omega
    have h := sum_bound hp (fun t => cnt_bound S m (w ++ [t])) (kidsT j w)
    have hk := kids_len S w
    have hm : (7 : Int) ^ m * ((kidsT j w).length : Int) ≤ 7 ^ m * 7 := Int.mul_le_mul_of_nonneg_left (by omega) hp
    simp only [cnt]
    rw [Int.pow_succ]
    omega
theorem pow7 {m : Nat} (h : m ≤ 7) : (7 : Int) ^ m ≤ 823543 := by
  match m, h with
  | 0, _ | 1, _ | 2, _ | 3, _ | 4, _ | 5, _ | 6, _ | 7, _ => decide
  | m + 8, h => omega
/-- The reference's count. -/
theorem srCount_ok {j : DJob} (sm : JobSm j) (S : SearchOk j) (h7 : j.1.length ≤ 7) : ∀ m w, WOk j w → w.length + m = j.1.length → spec_srCount j w = some (cnt j m w) := by
  intro m
  induction m with
  | zero =>
    intro w W hl
    rw [spec_srCount_eq]; unfold spec_srCountK
    have c3 : ((w.length : Int) == (j.1.length : Int)) = true := by simp; omega
    simp only [c3, cond_true]; rfl
  | succ m ih =>
    intro w W hl
    have hwl : w.length < j.1.length := by omega
    have c3 : ((w.length : Int) == (j.1.length : Int)) = false := by simp; omega
    have hkl := kids_len S w
    have p7 := pow7 (m := m) (by omega)
    rw [spec_srCount_eq]; unfold spec_srCountK
    simp only [c3, cond_false, srKids_ok sm S W hwl, Option.bind_some]
    have key : ∀ i, i ≤ (kidsT j w).length → ∀ a : Int, 0 ≤ a → a ≤ 823543 * (i : Int) → spec_srCount_l0 (fun x => spec_srCount x.1 x.2) (((kidsT j w).map fun t => w ++ [t]).length : Int) j.1 j.2.1 j.2.2.1 j.2.2.2.1.1 j.2.2.2.1.2.1 j.2.2.2.2.1 j.2.2.2.2.2.1 j.2.2.2.2.2.2.1 ((kidsT j w).map fun t => w ++ [t]) a (i : Int) =
        some (a + (((kidsT j w).drop i).map fun t => cnt j m (w ++ [t])).sum) := by
      refine down (fun a h0 h1 => ?_) fun i hi ihi a h0 h1 => ?_
      · rw [spec_srCount_l0_eq]; unfold spec_srCount_l0K
        rw [lt_out (by simp), List.drop_length]; simp
      · have him : i < ((kidsT j w).map fun t => w ++ [t]).length := by simpa using hi
        have hk := kids_mem (j := j) (w := w) (by have := S.per; omega) (List.getElem_mem hi)
        have := ih (w ++ [(kidsT j w)[i]]) (W.snoc hwl hk) (by simp; omega)
        have hb := cnt_bound S m (w ++ [(kidsT j w)[i]])
        rw [spec_srCount_l0_eq]; unfold spec_srCount_l0K
        rw [lt_in him, ck_in him, getD_nat him, wr_succ hi (by omega), List.getElem_map]
        simp only [jobEta, this, Option.bind_some]
        rw [wr (n := a + cnt j m (w ++ [(kidsT j w)[i]])) (by omega) (by omega), ihi _ (by omega) (by omega), drop_cons hi]
        simp only [List.map_cons, List.sum_cons]
        rw [Int.add_assoc]
    have := key 0 (Nat.zero_le _) 0 (by omega) (by omega)
    rw [show ((0 : Nat) : Int) = 0 from rfl] at this
    rw [this]
    simp [cnt]
/-- The program's count. -/
theorem proCount_ok {j : DJob} (sm : JobSm j) (S : SearchOk j) (h7 : j.1.length ≤ 7) (most : Int) (A : List Int) (s : AS) : ∀ m w, WOk j w → w.length + m = j.1.length →
    impl_CountPlans_1 (w.length : Int) () () () j.1 j.2.1 j.2.2.1 j.2.2.2.1.1 j.2.2.2.1.2.1 j.2.2.2.2.1 j.2.2.2.2.2.1 j.2.2.2.2.2.2.1 (imS j most A w s) () () () () = some (cnt j m w, imS j most A w s) := by
  intro m
  induction m with
  | zero =>
    intro w W hl
    rw [impl_CountPlans_1_eq]; unfold impl_CountPlans_1K
    have c3 : ((w.length : Int) == (j.1.length : Int)) = true := by simp; omega
    simp only [c3, cond_true]; rfl
  | succ m ih =>
    intro w W hl
    have hwl : w.length < j.1.length := by omega
    have c3 : ((w.length : Int) == (j.1.length : Int)) = false := by simp; omega
    have hkl := kids_len S w
    have p7 := pow7 (m := m) (by omega)
    have hch := children_ok sm S most A W s hwl
    rw [impl_CountPlans_1_eq]; unfold impl_CountPlans_1K
    simp only [c3, cond_false, imS] at hch ⊢
    rw [hch]
    simp only [Option.bind_some]
    have key : ∀ i, i ≤ (kidsT j w).length → ∀ a : Int, 0 ≤ a → a ≤ 823543 * (i : Int) → impl_CountPlans_1_l0 (fun x => impl_CountPlans_1 x.1 x.2.1 x.2.2.1 x.2.2.2.1 x.2.2.2.2.1 x.2.2.2.2.2.1 x.2.2.2.2.2.2.1 x.2.2.2.2.2.2.2.1 x.2.2.2.2.2.2.2.2.1 x.2.2.2.2.2.2.2.2.2.1 x.2.2.2.2.2.2.2.2.2.2.1 x.2.2.2.2.2.2.2.2.2.2.2.1 x.2.2.2.2.2.2.2.2.2.2.2.2.1 x.2.2.2.2.2.2.2.2.2.2.2.2.2.1 x.2.2.2.2.2.2.2.2.2.2.2.2.2.2.1 x.2.2.2.2.2.2.2.2.2.2.2.2.2.2.2.1 x.2.2.2.2.2.2.2.2.2.2.2.2.2.2.2.2) (w.length : Int) ((kidsT j w).length : Int) j.1 j.2.1 j.2.2.1 j.2.2.2.1.1 j.2.2.2.1.2.1 j.2.2.2.2.1 j.2.2.2.2.2.1 j.2.2.2.2.2.2.1 (kidsT j w) a (i : Int)
          j.1 j.2.1 j.2.2.1 j.2.2.2.1.1 j.2.2.2.1.2.1 j.2.2.2.2.1 j.2.2.2.2.2.1 j.2.2.2.2.2.2.1 j.2.2.2.2.1 j.2.2.2.2.1 s.worth most s.nodes s.opn s.stop (pad j.1.length w) (usT j w) A s.best =
        some (a + (((kidsT j w).drop i).map fun t => cnt j m (w ++ [t])).sum, j.1, j.2.1, j.2.2.1, j.2.2.2.1.1, j.2.2.2.1.2.1, j.2.2.2.2.1, j.2.2.2.2.2.1, j.2.2.2.2.2.2.1, j.2.2.2.2.1, j.2.2.2.2.1, s.worth, most, s.nodes, s.opn, s.stop, pad j.1.length w, usT j w, A, s.best) := by
      refine down (fun a h0 h1 => ?_) fun i hi ihi a h0 h1 => ?_
      · rw [impl_CountPlans_1_l0_eq]; unfold impl_CountPlans_1_l0K
        rw [lt_out (Nat.le_refl _), List.drop_length]; simp
      · have hk := kids_mem (j := j) (w := w) (by have := S.per; omega) (List.getElem_mem hi)
        have hput := put_ok S most A W s hwl hk
        have hrem := remove_ok S most A W s hwl hk
        have hih := ih (w ++ [(kidsT j w)[i]]) (W.snoc hwl hk) (by simp; omega)
        have hb := cnt_bound S m (w ++ [(kidsT j w)[i]])
        simp only [imS] at hput hrem hih
        have e4 : IntKind.i64.wrap ((w.length : Int) + 1) = ((w ++ [(kidsT j w)[i]]).length : Int) := by
          rw [wr (by omega) (by omega)]; simp
        rw [impl_CountPlans_1_l0_eq]; unfold impl_CountPlans_1_l0K
        rw [lt_in hi, ck_in hi, getD_nat hi, wr_succ hi (by omega)]
        rw [hput]
        simp only [Option.bind_some, e4, hih]
        rw [hrem]
        simp only [Option.bind_some]
        rw [wr (n := a + cnt j m (w ++ [(kidsT j w)[i]])) (by omega) (by omega), ihi _ (by omega) (by omega), drop_cons hi]
        simp only [List.map_cons, List.sum_cons]
        rw [Int.add_assoc]
    have := key 0 (Nat.zero_le _) 0 (by omega) (by omega)
    rw [show ((0 : Nat) : Int) = 0 from rfl] at this
    rw [this]
    simp [cnt]
theorem CountPlans_law (x0 : DJob) (w0 : TJob.wf x0) : laws_FnExactCountPlans x0 = some true := by
  unfold laws_FnExactCountPlans laws_FnExactCountPlansK
  refine job_head x0 w0 fun s y1 hy0 hy1 => ?_
  obtain ⟨v, h1, h2⟩ : ∃ v, impl_CountPlans x0 = some v ∧ spec_CountPlans x0 = some v := by
    unfold impl_CountPlans impl_CountPlansK spec_CountPlans spec_CountPlansK
    rw [IsSearchable_ok x0 s, srGood_ok x0 s]
    cases hj : searchB x0 with
    | false => exact ⟨_, rfl, rfl⟩
    | true =>
      obtain ⟨S, hjb⟩ := searchB_spec hj
      by_cases c : (x0.1.length : Int) > 7
      · simp only [Bool.not_true, cond_false, Option.bind_some, c, decide_true, cond_true]
        exact ⟨_, rfl, rfl⟩
      · simp only [Bool.not_true, cond_false, Option.bind_some, c, decide_false]
        obtain ⟨A, g1, g2, g3⟩ := new_ok S 1
        have k1 := proCount_ok s S (by omega) 1 A (s0 x0) x0.1.length [] (WOk.nil x0) (by simp)
        have k2 := srCount_ok s S (by omega) x0.1.length [] (WOk.nil x0) (by simp)
        rw [g3]
        have k1' : impl_CountPlans_1 0 () () () x0.1 x0.2.1 x0.2.2.1 x0.2.2.2.1.1 x0.2.2.2.1.2.1 x0.2.2.2.2.1 x0.2.2.2.2.2.1 x0.2.2.2.2.2.2.1 (imS x0 1 A [] (s0 x0)) () () () () = _ := k1
        simp only [Option.bind_some]
        rw [k1', k2]
        exact ⟨_, rfl, rfl⟩
  obtain ⟨n, ok⟩ := v
  simp only [toJob_ok x0 s, Option.bind_some, jobEta, h1, h2, eqJob_refl x0 s]
  simp
end
end Go.OAI
