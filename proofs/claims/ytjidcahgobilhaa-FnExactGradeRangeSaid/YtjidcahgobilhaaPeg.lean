/- The program's way through all parts, the least and the greatest kept. -/
import Derived.Test.YtjidcahgobilhaaPea
import Derived.Test.YtjidcahgobilhaaGGradeRange
namespace Go.OAI
set_option linter.unusedVariables false
noncomputable section

/-- One more value: the least and the greatest so far, -1 for none. -/
def gra (s : Int × Int) (v : Int) : Int × Int := (lea s.1 v, if v > s.2 then v else s.2)
theorem GR_ok {l : List DWanted} {q : List Int} (O : PartsOk l q) (s : Int × Int) : impl_GradeRange_1 q () s.1 s.2 l = some (gra s (bsum (sk 1) q l)) := by
  unfold impl_GradeRange_1 impl_GradeRange_1K
  rw [proSums_ok O]
  simp only [Option.bind_some]
  have e : bsum (sk 1) q l = bsum s2 q l := rfl
  rw [e]
  unfold gra lea
  by_cases h1 : s.1 < 0
  · simp [h1]
  · by_cases h2 : bsum s2 q l < s.1
    · simp [h1, h2]
    · simp [h1, h2]
theorem each2_ok {l : List DWanted} (h6 : l.length ≤ 6) (hb : ∀ x ∈ l, binB x = true) (hU : UOk l) : ∀ (m : Nat) (p : List Int) (u : Nat) (s : Int × Int), p.length + m = l.length → (∀ x ∈ p, 0 ≤ x ∧ x ≤ 12) → u ≤ 12 →
    impl_eachParts_1_N1 (p.length : Int) (u : Int) () () () () l () (p ++ List.replicate m 0) () () l s.1 s.2 () () () () =
      some (p ++ List.replicate m 0, ((allP (l.drop p.length) u).map (p ++ ·)).foldl (fun s q => gra s (bsum (sk 1) q l)) s) := by
  intro m
  induction m with
  | zero =>
    intro p u s hl hp hu
    have hpl : p.length = l.length := by omega
    have c3 : ((p.length : Int) == (l.length : Int)) = true := by simp; omega
    rw [impl_eachParts_1_N1_eq]; unfold impl_eachParts_1_N1K
    rw [c3, hpl, List.drop_length]
    simp only [cond_true, List.replicate_zero, List.append_nil]
    by_cases c : u = 0
    · subst c
      rw [GR_ok (parts_full h6 hb hpl hp)]
      simp [allP]
    · have : ((u : Int) == 0) = false := by simp; omega
      rw [this]
      simp [allP, c]
  | succ m ih =>
    intro p u s hl hp hu
    have hpl : p.length < l.length := by omega
    have c3 : ((p.length : Int) == (l.length : Int)) = false := by simp; omega
    have hbx := hU _ (List.getElem_mem hpl)
    rw [impl_eachParts_1_N1_eq]; unfold impl_eachParts_1_N1K
    rw [c3]
    simp only [cond_false]
    generalize hK : min u l[p.length].1.toNat = K
    have hrl : (List.range (K + 1)).length = K + 1 := List.length_range
    have key : ∀ n, n ≤ (List.range (K + 1)).length → ∀ (x : Int) (s : Int × Int), ∃ x' : Int,
        impl_eachParts_1_N1_l0 (fun x => impl_eachParts_1_N1 x.1 x.2.1 x.2.2.1 x.2.2.2.1 x.2.2.2.2.1 x.2.2.2.2.2.1 x.2.2.2.2.2.2.1 x.2.2.2.2.2.2.2.1 x.2.2.2.2.2.2.2.2.1 x.2.2.2.2.2.2.2.2.2.1 x.2.2.2.2.2.2.2.2.2.2.1 x.2.2.2.2.2.2.2.2.2.2.2.1 x.2.2.2.2.2.2.2.2.2.2.2.2.1 x.2.2.2.2.2.2.2.2.2.2.2.2.2.1 x.2.2.2.2.2.2.2.2.2.2.2.2.2.2.1 x.2.2.2.2.2.2.2.2.2.2.2.2.2.2.2.1 x.2.2.2.2.2.2.2.2.2.2.2.2.2.2.2.2.1 x.2.2.2.2.2.2.2.2.2.2.2.2.2.2.2.2.2) (p.length : Int) (u : Int) l l (n : Int) (p ++ x :: List.replicate m 0) s.1 s.2 =
          some (p ++ x' :: List.replicate m 0, ((((List.range (K + 1)).drop n).flatMap fun n => (allP (l.drop (p.length + 1)) (u - n)).map fun r => (n : Int) :: r).map (p ++ ·)).foldl (fun s q => gra s (bsum (sk 1) q l)) s) := by
      refine down (fun x s => ⟨x, ?_⟩) fun n hn ihn x s => ?_
      · have hd : (List.range (K + 1)).drop (K + 1) = [] := List.drop_eq_nil_of_le (by simp)
        rw [impl_eachParts_1_N1_l0_eq]; unfold impl_eachParts_1_N1_l0K
        rw [lat_nat hpl]
        simp only [Option.bind_some]
        rw [min_units hbx.1, hK, hrl, hd]
        have c1 : decide (((K + 1 : Nat) : Int) ≤ (K : Int)) = false := decide_eq_false (by omega)
        rw [c1]; simp
      · rw [hrl] at hn
        have hn2 : n ≤ u := by omega
        obtain ⟨x', g⟩ := ihn (n : Int) (((allP (l.drop (p.length + 1)) (u - n)).map fun r => p ++ ((n : Int) :: r)).foldl (fun s q => gra s (bsum (sk 1) q l)) s)
        refine ⟨x', ?_⟩
        rw [impl_eachParts_1_N1_l0_eq]; unfold impl_eachParts_1_N1_l0K
        rw [lat_nat hpl]
        simp only [Option.bind_some]
        rw [min_units hbx.1, hK]
        have c1 : decide ((n : Int) ≤ (K : Int)) = true := decide_eq_true (by omega)
        have e0 : 0 + ((p.length : Int)).toNat = p.length := by omega
        have w1 : IntKind.i64.wrap ((u : Int) - (n : Int)) = ((u - n : Nat) : Int) := by rw [wr (by omega) (by omega)]; omega
        have w2 : IntKind.i64.wrap ((p.length : Int) + 1) = ((p ++ [(n : Int)]).length : Int) := by rw [wr (by omega) (by omega)]; simp
        have w3 : IntKind.i64.wrap ((n : Int) + 1) = ((n + 1 : Nat) : Int) := by rw [wr (by omega) (by omega)]; omega
        have hih := ih (p ++ [(n : Int)]) (u - n) s (by simp; omega) (fun y hy => by
          rcases List.mem_append.1 hy with e | e
          · exact hp y e
          · simp at e; subst e; omega) (by omega)
        have e1 : (p ++ [(n : Int)]) ++ List.replicate m 0 = p ++ (n : Int) :: List.replicate m 0 := by simp
        have e2 : (p ++ [(n : Int)]).length = p.length + 1 := by simp
        rw [e1] at hih
        rw [c1, cond_true, ck_in (by simp), e0, set_mid]
        show ((impl_eachParts_1_N1 _ _ _ _ _ _ _ _ _ _ _ _ _ _ _ _ _ _).bind _) = _
        rw [w1, w2, hih]
        simp only [Option.bind_some]
        rw [w3]
        have e3 : (allP (l.drop (p ++ [(n : Int)]).length) (u - n)).map (fun q => (p ++ [(n : Int)]) ++ q) = (allP (l.drop (p.length + 1)) (u - n)).map fun r => p ++ ((n : Int) :: r) := by
          rw [e2]; exact List.map_congr_left fun r _ => by simp
        rw [e3, g, drop_cons (l := List.range (K + 1)) (i := n) (by rw [hrl]; omega), List.flatMap_cons, List.map_append, List.foldl_append, List.map_map]
        simp only [List.getElem_range]
        rfl
    obtain ⟨x', g⟩ := key 0 (Nat.zero_le _) 0 s
    rw [show ((0 : Nat) : Int) = 0 from rfl, List.drop_zero] at g
    rw [List.replicate_succ, g]
    simp only [Option.bind_some]
    have e0 : 0 + ((p.length : Int)).toNat = p.length := by omega
    rw [ck_in (by simp), e0, set_mid]
    show some _ = _
    rw [drop_cons hpl]
    simp only [allP, hK]
/-- The two ways to keep the least and the greatest value. -/
def Rel2 (s : Int × Int) (e : Int × Int × Bool) : Prop := (e.2.2 = false ∧ s = (-1, -1) ∧ e = (0, 0, false)) ∨ (e.2.2 = true ∧ s = (e.1, e.2.1) ∧ 0 ≤ s.1 ∧ 0 ≤ s.2)
theorem Rel2.step {s : Int × Int} {e : Int × Int × Bool} (h : Rel2 s e) {v : Int} (hv : 0 ≤ v) : Rel2 (gra s v) (edg e v) := by
  rcases h with ⟨h1, h2, h3⟩ | ⟨h1, h2, h3, h4⟩
  · right
    subst h2; subst h3
    unfold edg gra lea
    dsimp only
    rw [if_neg (by simp), if_pos (by omega), if_pos (by omega)]
    exact ⟨rfl, rfl, hv, hv⟩
  · right
    obtain ⟨lo, hh, ok⟩ := e
    dsimp only at h1 h2
    subst h1; subst h2
    have e1 : edg (lo, hh, true) v = (if v < lo then v else lo, if v > hh then v else hh, true) := by unfold edg; rw [if_pos rfl]
    have e2 : gra (lo, hh) v = (if v < lo then v else lo, if v > hh then v else hh) := by
      unfold gra lea; dsimp only at h3 ⊢; rw [if_neg (by omega)]
    rw [e1, e2]
    dsimp only at h3 h4
    refine ⟨rfl, rfl, ?_, ?_⟩
    · dsimp only
      by_cases c : v < lo
      · rw [if_pos c]; exact hv
      · rw [if_neg c]; exact h3
    · dsimp only
      by_cases c : v > hh
      · rw [if_pos c]; exact hv
      · rw [if_neg c]; exact h4
theorem Rel2.fold (f : List Int → Int) : ∀ (L : List (List Int)), (∀ q ∈ L, 0 ≤ f q) → ∀ {s : Int × Int} {e : Int × Int × Bool}, Rel2 s e → Rel2 (L.foldl (fun s q => gra s (f q)) s) (L.foldl (fun e q => edg e (f q)) e)
  | [], _, s, e, h => h
  | q :: L, hL, s, e, h => Rel2.fold f L (fun q hq => hL q (List.mem_cons_of_mem _ hq)) (h.step (hL q (List.mem_cons_self)))
theorem eachParts2_ok {l : List DWanted} (O : BinsOk l) {u : Nat} (hu : u ≤ 12) (s : Int × Int) : impl_eachParts_N1 l (u : Int) () () l s.1 s.2 = some ((allP l u).foldl (fun s q => gra s (bsum (sk 1) q l)) s) := by
  have hn := O.n6
  unfold impl_eachParts_N1 impl_eachParts_N1K
  rw [cap_ok (by omega)]
  have := each2_ok O.n6 O.b O.u l.length [] u s (by simp) (fun x hx => absurd hx (by simp)) hu
  simp only [List.length_nil, List.nil_append, List.drop_zero, List.map_id'] at this
  rw [show ((0 : Nat) : Int) = 0 from rfl] at this
  simp only [Int.toNat_natCast, Option.bind_some]
  rw [this]; rfl
end
end Go.OAI
