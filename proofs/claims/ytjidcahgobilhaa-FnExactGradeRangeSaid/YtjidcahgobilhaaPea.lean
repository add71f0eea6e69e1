/- The program's way through all parts. -/
import Derived.Test.YtjidcahgobilhaaPbe
namespace Go.OAI
set_option linter.unusedVariables false
noncomputable section

/-- One more value: the least so far, -1 for none. -/
def lea (s v : Int) : Int := if s < 0 then v else if v < s then v else s
theorem LI_ok {l : List DWanted} {q : List Int} (O : PartsOk l q) (s : Int) : impl_LeastImpurity_1 q () s l = some (lea s (bsum (sk 2) q l)) := by
  unfold impl_LeastImpurity_1 impl_LeastImpurity_1K
  rw [proSums_ok O]
  simp only [Option.bind_some]
  have e : bsum (sk 2) q l = bsum s3 q l := rfl
  rw [e]
  unfold lea
  by_cases h1 : s < 0
  · simp [h1]
  · by_cases h2 : bsum s3 q l < s
    · simp [h1, h2]
    · simp [h1, h2]
theorem set_mid {p : List Int} {x y : Int} {r : List Int} : (p ++ x :: r).set p.length y = p ++ y :: r := by
  rw [List.set_append_right _ _ (Nat.le_refl _)]; simp
theorem parts_full {l : List DWanted} (h6 : l.length ≤ 6) (hb : ∀ x ∈ l, binB x = true) {p : List Int} (hp : p.length = l.length) (h : ∀ x ∈ p, 0 ≤ x ∧ x ≤ 12) : PartsOk l p :=
  ⟨h6, hp, hb, fun i hi => h _ (List.getElem_mem hi)⟩
theorem each_ok {l : List DWanted} (h6 : l.length ≤ 6) (hb : ∀ x ∈ l, binB x = true) (hU : UOk l) : ∀ (m : Nat) (p : List Int) (u : Nat) (s : Int), p.length + m = l.length → (∀ x ∈ p, 0 ≤ x ∧ x ≤ 12) → u ≤ 12 →
    impl_eachParts_1 (p.length : Int) (u : Int) () () () () l () (p ++ List.replicate m 0) () () l s () () () () =
      some (p ++ List.replicate m 0, ((allP (l.drop p.length) u).map (p ++ ·)).foldl (fun s q => lea s (bsum (sk 2) q l)) s) := by
  intro m
  induction m with
  | zero =>
    intro p u s hl hp hu
    have hpl : p.length = l.length := by omega
    have c3 : ((p.length : Int) == (l.length : Int)) = true := by simp; omega
    rw [impl_eachParts_1_eq]; unfold impl_eachParts_1K
    rw [c3, hpl, List.drop_length]
    simp only [cond_true, List.replicate_zero, List.append_nil]
    by_cases c : u = 0
    · subst c
      rw [LI_ok (parts_full h6 hb hpl hp)]
      simp [allP]
    · have : ((u : Int) == 0) = false := by simp; omega
      rw [this]
      simp [allP, c]
  | succ m ih =>
    intro p u s hl hp hu
    have hpl : p.length < l.length := by omega
    have c3 : ((p.length : Int) == (l.length : Int)) = false := by simp; omega
    have hbx := hU _ (List.getElem_mem hpl)
    rw [impl_eachParts_1_eq]; unfold impl_eachParts_1K
    rw [c3]
    simp only [cond_false]
    generalize hK : min u l[p.length].1.toNat = K
    have hrl : (List.range (K + 1)).length = K + 1 := List.length_range
    have key : ∀ n, n ≤ (List.range (K + 1)).length → ∀ (x s : Int), ∃ x' : Int,
        impl_eachParts_1_l0 (fun x => impl_eachParts_1 x.1 x.2.1 x.2.2.1 x.2.2.2.1 x.2.2.2.2.1 x.2.2.2.2.2.1 x.2.2.2.2.2.2.1 x.2.2.2.2.2.2.2.1 x.2.2.2.2.2.2.2.2.1 x.2.2.2.2.2.2.2.2.2.1 x.2.2.2.2.2.2.2.2.2.2.1 x.2.2.2.2.2.2.2.2.2.2.2.1 x.2.2.2.2.2.2.2.2.2.2.2.2.1 x.2.2.2.2.2.2.2.2.2.2.2.2.2.1 x.2.2.2.2.2.2.2.2.2.2.2.2.2.2.1 x.2.2.2.2.2.2.2.2.2.2.2.2.2.2.2.1 x.2.2.2.2.2.2.2.2.2.2.2.2.2.2.2.2) (p.length : Int) (u : Int) l l (n : Int) (p ++ x :: List.replicate m 0) s =
          some (p ++ x' :: List.replicate m 0, ((((List.range (K + 1)).drop n).flatMap fun n => (allP (l.drop (p.length + 1)) (u - n)).map fun r => (n : Int) :: r).map (p ++ ·)).foldl (fun s q => lea s (bsum (sk 2) q l)) s) := by
      refine down (fun x s => ⟨x, ?_⟩) fun n hn ihn x s => ?_
      · have hd : (List.range (K + 1)).drop (K + 1) = [] := List.drop_eq_nil_of_le (by simp)
        rw [impl_eachParts_1_l0_eq]; unfold impl_eachParts_1_l0K
        rw [lat_nat hpl]
        simp only [Option.bind_some]
        rw [min_units hbx.1, hK, hrl, hd]
        have c1 : decide (((K + 1 : Nat) : Int) ≤ (K : Int)) = false := decide_eq_false (by omega)
        rw [c1]; simp
      · rw [hrl] at hn
        have hn2 : n ≤ u := by omega
        obtain ⟨x', g⟩ := ihn (n : Int) (((allP (l.drop (p.length + 1)) (u - n)).map fun r => p ++ ((n : Int) :: r)).foldl (fun s q => lea s (bsum (sk 2) q l)) s)
        refine ⟨x', ?_⟩
        rw [impl_eachParts_1_l0_eq]; unfold impl_eachParts_1_l0K
        rw [lat_nat hpl]
        simp only [Option.bind_some]
        rw [min_units hbx.1, hK]
        have c1 : decide ((n : Int) ≤ (K : Int)) = true := decide_eq_true (by omega)
        have e0 : 0 + ((p.length : Int)).toNat = p.length := by omega
        have w1 : IntKind.i64.wrap ((u : Int) - (n : Int)) = ((u - n : Nat) : Int) := by rw [wr (by omega) (by omega)]; omega
        have w2 : IntKind.i64.wrap ((p.length : Int) + 1) = ((p ++ [(n : Int)]).length : Int) := by rw [wr (by omega) (by omega)]; simp
        have w3 : IntKind.i64.wrap ((n : Int) + 1) = ((n + 1 : Nat) : Int) := by rw [wr (by omega) (by omega)]; omega
        have hih := ih (p ++ [(n : Int)]) (u - n) s (by simp; omega) (fun y hy => by
          rcases List.mem_append.1 hy with e | e
          · exact hp y e
          · simp at e; subst e; omega) (by omega)
        have e1 : (p ++ [(n : Int)]) ++ List.replicate m 0 = p ++ (n : Int) :: List.replicate m 0 := by simp
        have e2 : (p ++ [(n : Int)]).length = p.length + 1 := by simp
        rw [e1] at hih
        rw [c1, cond_true, ck_in (by simp), e0, set_mid]
        show ((impl_eachParts_1 _ _ _ _ _ _ _ _ _ _ _ _ _ _ _ _ _).bind _) = _
        rw [w1, w2, hih]
        simp only [Option.bind_some]
        rw [w3]
        have e3 : (allP (l.drop (p ++ [(n : Int)]).length) (u - n)).map (fun q => (p ++ [(n : Int)]) ++ q) = (allP (l.drop (p.length + 1)) (u - n)).map fun r => p ++ ((n : Int) :: r) := by
          rw [e2]; exact List.map_congr_left fun r _ => by simp
        rw [e3, g, drop_cons (l := List.range (K + 1)) (i := n) (by rw [hrl]; omega), List.flatMap_cons, List.map_append, List.foldl_append, List.map_map]
        simp only [List.getElem_range]
        rfl
    obtain ⟨x', g⟩ := key 0 (Nat.zero_le _) 0 s
    rw [show ((0 : Nat) : Int) = 0 from rfl, List.drop_zero] at g
    rw [List.replicate_succ, g]
    simp only [Option.bind_some]
    have e0 : 0 + ((p.length : Int)).toNat = p.length := by omega
    rw [ck_in (by simp), e0, set_mid]
    show some _ = _
    rw [drop_cons hpl]
    simp only [allP, hK]
/-- The two ways to keep the least value. -/
def Rel (s : Int) (e : Int × Int × Bool) : Prop := (e.2.2 = false ∧ s = -1 ∧ e.1 = 0) ∨ (e.2.2 = true ∧ s = e.1 ∧ 0 ≤ s)
theorem Rel.step {s : Int} {e : Int × Int × Bool} (h : Rel s e) {v : Int} (hv : 0 ≤ v) : Rel (lea s v) (edg e v) := by
  rcases h with ⟨h1, h2, h3⟩ | ⟨h1, h2, h3⟩
  · right
    unfold edg lea
    rw [if_neg (by rw [h1]; simp), if_pos (by omega)]
    exact ⟨rfl, rfl, hv⟩
  · right
    have e1 : edg e v = (if v < e.1 then v else e.1, if v > e.2.1 then v else e.2.1, true) := by unfold edg; rw [if_pos h1]
    have e2 : lea s v = if v < s then v else s := by unfold lea; rw [if_neg (by omega)]
    rw [e1, e2]
    refine ⟨rfl, by rw [h2], ?_⟩
    by_cases c : v < s
    · rw [if_pos c]; exact hv
    · rw [if_neg c]; exact h3
theorem Rel.fold {l : List DWanted} (f : List Int → Int) : ∀ (L : List (List Int)), (∀ q ∈ L, 0 ≤ f q) → ∀ {s : Int} {e : Int × Int × Bool}, Rel s e → Rel (L.foldl (fun s q => lea s (f q)) s) (L.foldl (fun e q => edg e (f q)) e)
  | [], _, s, e, h => h
  | q :: L, hL, s, e, h => Rel.fold (l := l) f L (fun q hq => hL q (List.mem_cons_of_mem _ hq)) (h.step (hL q (List.mem_cons_self)))
theorem bsum_pos {f : DWanted → Int} : ∀ (p : List Int) (l : List DWanted), (∀ x ∈ p, 0 ≤ x) → (∀ b ∈ l, 0 ≤ f b) → 0 ≤ bsum f p l
  | [], l, _, _ => by cases l <;> simp [bsum]
  | x :: p, [], _, _ => by simp [bsum]
  | x :: p, b :: l, h1, h2 => by
    have := bsum_pos p l (fun y hy => h1 y (List.mem_cons_of_mem _ hy)) (fun y hy => h2 y (List.mem_cons_of_mem _ hy))
    have := Int.mul_nonneg (h1 x (List.mem_cons_self)) (h2 b (List.mem_cons_self))
    simp only [bsum]; omega
structure BinsOk (l : List DWanted) : Prop where
  n1 : 1 ≤ l.length
  n6 : l.length ≤ 6
  b : ∀ x ∈ l, binB x = true
  u : UOk l
theorem bins_spec {l : List DWanted} (hb : binsB l = true) : BinsOk l := by
  simp only [binsB, Bool.and_eq_true, decide_eq_true_eq] at hb
  have hx : ∀ x ∈ l, binB x = true := List.all_eq_true.1 hb.2.2
  refine ⟨by omega, by omega, hx, fun b hbm => ?_⟩
  have := hx b hbm
  simp only [Bool.and_eq_true, decide_eq_true_eq, binB] at this
  omega
theorem val_pos {l : List DWanted} (O : BinsOk l) {k : Nat} {u : Nat} : ∀ q ∈ allP l u, 0 ≤ bsum (sk k) q l := fun q hq => by
  refine bsum_pos q l (fun x hx => ((allP_mem l O.u u q hq).2 x hx).1) fun b hb => ?_
  have := O.b b hb
  simp only [Bool.and_eq_true, decide_eq_true_eq, binB] at this
  unfold sk
  split
  · show 0 ≤ b.2.1; omega
  · show 0 ≤ b.2.2.1; omega
theorem l1InB (n lo hi : Int) : spec_l1In n lo hi = some (decide (lo ≤ n) && decide (n ≤ hi)) := by
  unfold spec_l1In spec_l1InK
  simp only [dec_ge]
  cases decide (lo ≤ n) <;> rfl
theorem eachParts_ok {l : List DWanted} (O : BinsOk l) {u : Nat} (hu : u ≤ 12) (s : Int) : impl_eachParts l (u : Int) () () l s = some ((allP l u).foldl (fun s q => lea s (bsum (sk 2) q l)) s) := by
  have hn := O.n6
  unfold impl_eachParts impl_eachPartsK
  rw [cap_ok (by omega)]
  have := each_ok O.n6 O.b O.u l.length [] u s (by simp) (fun x hx => absurd hx (by simp)) hu
  simp only [List.length_nil, List.nil_append, List.drop_zero, List.map_id'] at this
  rw [show ((0 : Nat) : Int) = 0 from rfl] at this
  simp only [Int.toNat_natCast, Option.bind_some]
  rw [this]; rfl
end
end Go.OAI
