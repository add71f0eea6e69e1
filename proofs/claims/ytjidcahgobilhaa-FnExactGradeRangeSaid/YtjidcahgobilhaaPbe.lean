/- All parts of bins with so many units, as the reference lists them; the edges of their sums. -/
import Derived.Test.YtjidcahgobilhaaPbl
import Derived.Test.YtjidcahgobilhaaGLeastImpurity
namespace Go.OAI
set_option linter.unusedVariables false
noncomputable section

def allP : List DWanted → Nat → List (List Int)
  | [], u => if u = 0 then [[]] else []
  | b :: bs, u => (List.range (min u b.1.toNat + 1)).flatMap fun n => (allP bs (u - n)).map fun r => (n : Int) :: r
def UOk (l : List DWanted) : Prop := ∀ b ∈ l, 0 ≤ b.1 ∧ b.1 ≤ 12
theorem flat_len {f : Nat → List (List Int)} {C : Nat} (h : ∀ n, (f n).length ≤ C) : ∀ L : List Nat, (L.flatMap f).length ≤ C * L.length
  | [] => by simp
  | x :: L => by
    have := flat_len h L
    have hx := h x
    rw [List.flatMap_cons, List.length_append, List.length_cons, Nat.mul_succ]
    omega
theorem allP_len : ∀ (l : List DWanted), UOk l → ∀ u, (allP l u).length ≤ 13 ^ l.length
  | [], _, u => by simp only [allP]; split <;> simp
  | b :: bs, h, u => by
    have hb := h b (List.mem_cons_self)
    have ih := allP_len bs (fun x hx => h x (List.mem_cons_of_mem _ hx))
    have := flat_len (f := fun n => (allP bs (u - n)).map fun r => (n : Int) :: r) (C := 13 ^ bs.length) (fun n => by rw [List.length_map]; exact ih _) (List.range (min u b.1.toNat + 1))
    simp only [allP]
    rw [List.length_range] at this
    have h2 : 13 ^ bs.length * (min u b.1.toNat + 1) ≤ 13 ^ bs.length * 13 := Nat.mul_le_mul_left _ (by omega)
    rw [List.length_cons, Nat.pow_succ]
    omega
theorem pow6 {m : Nat} (h : m ≤ 6) : 13 ^ m ≤ 4826809 := by
  match m, h with
  | 0, _ | 1, _ | 2, _ | 3, _ | 4, _ | 5, _ | 6, _ => decide
  | m + 7, h => omega
theorem l1Least_ok (a b : Int) : spec_l1Least a b = some (if b < a then b else a) := by
  unfold spec_l1Least spec_l1LeastK
  by_cases c : a < b
  · have : ¬ b < a := by omega
    simp [c, this]
  · by_cases c2 : b < a
    · simp [c, c2]
    · have : a = b := by omega
      simp [this]
theorem min_units {u : Nat} {x : Int} (hx : 0 ≤ x) : (if x < (u : Int) then x else (u : Int)) = ((min u x.toNat : Nat) : Int) := by
  by_cases c : x < (u : Int)
  · rw [if_pos c]; omega
  · rw [if_neg c]; omega
theorem allP_mem : ∀ (l : List DWanted), UOk l → ∀ u q, q ∈ allP l u → q.length = l.length ∧ ∀ x ∈ q, 0 ≤ x ∧ x ≤ 12
  | [], _, u, q, hq => by
    simp only [allP] at hq
    split at hq
    · simp at hq; subst hq; simp
    · simp at hq
  | b :: bs, h, u, q, hq => by
    have hb := h b (List.mem_cons_self)
    simp only [allP, List.mem_flatMap, List.mem_map, List.mem_range] at hq
    obtain ⟨n, hn, r, hr, rfl⟩ := hq
    obtain ⟨g1, g2⟩ := allP_mem bs (fun x hx => h x (List.mem_cons_of_mem _ hx)) _ r hr
    refine ⟨by simp [g1], fun x hx => ?_⟩
    rcases List.mem_cons.1 hx with e | e
    · subst e; omega
    · exact g2 x e
/-- The reference lists all parts. -/
theorem blAll_ok : ∀ (l : List DWanted), UOk l → l.length ≤ 6 → ∀ u : Nat, u ≤ 12 → spec_blAll l (u : Int) = some (allP l u)
  | [], _, _, u, _ => by
    rw [spec_blAll_eq]; unfold spec_blAllK
    by_cases c : u = 0
    · subst c; rfl
    · have : ((u : Int) == 0) = false := by simp; omega
      simp only [this, allP, if_neg c, List.length_nil, cond_false]
      rfl
  | b :: bs, h, h6, u, hu => by
    have hb := h b (List.mem_cons_self)
    have hbs : UOk bs := fun x hx => h x (List.mem_cons_of_mem _ hx)
    have hlen : bs.length ≤ 5 := by simpa using h6
    have hP := fun v => allP_len bs hbs v
    have p6 := pow6 (m := bs.length) (by omega)
    rw [spec_blAll_eq]; unfold spec_blAllK
    have c0 : (((b :: bs).length : Int) == 0) = false := by simp; omega
    simp only [c0, cond_false]
    have inner : ∀ (n : Nat) (L : List (List Int)), L.length ≤ 4826809 → (∀ q ∈ L, q.length ≤ 6) → ∀ i, i ≤ L.length → ∀ acc : List (List Int), acc.length ≤ 100000000 + i → spec_blAll_l1 (fun x => spec_blAll x.1 x.2) (n : Int) (L.length : Int) L (i : Int) acc = some (acc ++ (L.drop i).map fun r => (n : Int) :: r) := by
      intro n L hL hq
      refine down (fun acc ha => ?_) fun i hi ih acc ha => ?_
      · rw [spec_blAll_l1_eq]; unfold spec_blAll_l1K
        rw [lt_out (Nat.le_refl _), List.drop_length]; simp
      · have hqi := hq _ (List.getElem_mem hi)
        rw [spec_blAll_l1_eq]; unfold spec_blAll_l1K
        rw [lt_in hi, ck_in hi, getD_nat' hi, wr_succ hi (by omega)]
        have c1 : decide ([(n : Int)].length + L[i].length ≤ 1099511627776) = true := decide_eq_true (by simp only [List.length_singleton]; omega)
        have c2 : decide (acc.length + [[(n : Int)] ++ L[i]].length ≤ 1099511627776) = true := decide_eq_true (by simp only [List.length_singleton]; omega)
        simp only [c1, c2, cond_true, Option.bind_some]
        rw [ih _ (by simp; omega), drop_cons hi, List.map_cons, List.append_assoc]; rfl
    generalize hK : min u b.1.toNat = K
    have hrl : (List.range (K + 1)).length = K + 1 := List.length_range
    have hK12 : K ≤ 12 := by omega
    have outer : ∀ n, n ≤ (List.range (K + 1)).length → ∀ acc : List (List Int), acc.length ≤ 4826809 * n → spec_blAll_l0 (fun x => spec_blAll x.1 x.2) (b :: bs) (u : Int) (n : Int) acc =
        some (acc ++ ((List.range (K + 1)).drop n).flatMap fun n => (allP bs (u - n)).map fun r => (n : Int) :: r) := by
      refine down (fun acc ha => ?_) fun n hn ih acc ha => ?_
      · rw [spec_blAll_l0_eq]; unfold spec_blAll_l0K
        rw [show (0 : Int) = ((0 : Nat) : Int) from rfl, lat_nat (l := b :: bs) (by simp)]
        simp only [Option.bind_some, List.getElem_cons_zero, l1Least_ok]
        have hd : (List.range (K + 1)).drop (K + 1) = [] := List.drop_eq_nil_of_le (by simp)
        rw [min_units hb.1, hK, hrl, hd]
        have c1 : decide (((K + 1 : Nat) : Int) ≤ (K : Int)) = false := decide_eq_false (by omega)
        rw [c1]; simp
      · rw [hrl] at hn
        have hn2 : n ≤ u := by omega
        rw [spec_blAll_l0_eq]; unfold spec_blAll_l0K
        rw [show (0 : Int) = ((0 : Nat) : Int) from rfl, lat_nat (l := b :: bs) (by simp)]
        simp only [Option.bind_some, List.getElem_cons_zero, l1Least_ok]
        rw [min_units hb.1, hK]
        have c1 : decide ((n : Int) ≤ (K : Int)) = true := decide_eq_true (by omega)
        have c2 : decide ((1 : Int) ≤ ((b :: bs).length : Int)) = true := decide_eq_true (by simp; omega)
        have c3 : decide (((b :: bs).length : Int) ≤ ((b :: bs).length : Int)) = true := decide_eq_true (Int.le_refl _)
        have ht : ((b :: bs).drop 1).take (((b :: bs).length : Int).toNat - 1) = bs := by
          simp only [List.drop_succ_cons, List.drop_zero]
          exact List.take_of_length_le (by simp)
        have w1 : IntKind.i64.wrap ((u : Int) - (n : Int)) = ((u - n : Nat) : Int) := by rw [wr (by omega) (by omega)]; omega
        rw [c1, c2, c3, ht, w1]
        simp only [cond_true, Bool.and_self, blAll_ok bs hbs (by omega) (u - n) (by omega), Option.bind_some]
        have hl := hP (u - n)
        have hin := inner n (allP bs (u - n)) (by omega) (fun q hq => by have := (allP_mem bs hbs _ q hq).1; omega) 0 (Nat.zero_le _) acc (by omega)
        rw [show ((0 : Nat) : Int) = 0 from rfl, List.drop_zero] at hin
        rw [show ((0 : Nat) : Int) = 0 from rfl]
        rw [hin]
        simp only [Option.bind_some]
        have wk : IntKind.i64.wrap ((n : Int) + 1) = ((n + 1 : Nat) : Int) := by rw [wr (by omega) (by omega)]; omega
        rw [wk, ih _ (by simp only [List.length_append, List.length_map]; omega), drop_cons (l := List.range (K + 1)) (i := n) (by rw [hrl]; omega), List.flatMap_cons]
        simp
    have := outer 0 (Nat.zero_le _) [] (by simp)
    rw [show ((0 : Nat) : Int) = 0 from rfl] at this
    rw [this]
    simp only [Option.bind_some, List.drop_zero, List.nil_append, allP, hK]
/-- One more value: the least and the greatest so far. -/
def edg (s : Int × Int × Bool) (v : Int) : Int × Int × Bool :=
  if s.2.2 = true then (if v < s.1 then v else s.1, if v > s.2.1 then v else s.2.1, true) else (v, v, true)
def sk (k : Nat) : DWanted → Int := if k = 1 then s2 else s3
theorem edge_ok {l : List DWanted} (hb : binsB l = true) {k : Nat} (hk : k = 1 ∨ k = 2) (L : List (List Int)) (hL : L.length ≤ 100000000) (hq : ∀ q ∈ L, PartsOk l q) : ∀ i, i ≤ L.length → ∀ (s : Int × Int × Bool),
    spec_blEdge_l0 l (k : Int) (L.length : Int) L s.1 s.2.1 s.2.2 (i : Int) = some ((L.drop i).foldl (fun s q => edg s (bsum (sk k) q l)) s) := by
  refine down (fun s => ?_) fun i hi ih s => ?_
  · rw [spec_blEdge_l0_eq]; unfold spec_blEdge_l0K
    rw [lt_out (Nat.le_refl _), List.drop_length]; rfl
  · have O := hq _ (List.getElem_mem hi)
    rw [spec_blEdge_l0_eq]; unfold spec_blEdge_l0K
    rw [lt_in hi, ck_in hi, getD_nat' hi, wr_succ hi (by omega), refSums_ok O]
    simp only [Option.bind_some]
    have hkv : [bsum s1 L[i] l, bsum s2 L[i] l, bsum s3 L[i] l, bsum s4 L[i] l].getD (0 + ((k : Nat) : Int).toNat) 0 = bsum (sk k) L[i] l := by
      rcases hk with rfl | rfl <;> rfl
    have c1 : decide ((0 : Int) ≤ (k : Int)) = true := decide_eq_true (by omega)
    have c2 : decide ((k : Int) < (([bsum s1 L[i] l, bsum s2 L[i] l, bsum s3 L[i] l, bsum s4 L[i] l] : List Int).length : Int)) = true := decide_eq_true (by simp only [List.length_cons, List.length_nil]; omega)
    rw [c1, c2, hkv, drop_cons hi, List.foldl_cons]
    generalize bsum (sk k) L[i] l = v
    obtain ⟨lo, hh, ok⟩ := s
    have ih2 := ih (edg (lo, hh, ok) v)
    dsimp only
    cases ok with
    | false =>
      simp only [Bool.and_self, cond_true, Bool.not_false]
      exact ih2
    | true =>
      simp only [Bool.and_self, cond_true, Bool.not_true, cond_false]
      rw [← ih2]
      unfold edg
      dsimp only
      by_cases h1 : v < lo
      · by_cases h2 : v > hh
        · simp [h1, h2]
        · simp [h1, h2]
      · by_cases h2 : v > hh
        · simp [h1, h2]
        · simp [h1, h2]
theorem blEdge_ok {l : List DWanted} (hb : binsB l = true) {k : Nat} (hk : k = 1 ∨ k = 2) {u : Nat} (hu : u ≤ 12) : spec_blEdge l (u : Int) (k : Int) = some ((allP l u).foldl (fun s q => edg s (bsum (sk k) q l)) (0, 0, false)) := by
  have hbs := hb
  simp only [binsB, Bool.and_eq_true, decide_eq_true_eq] at hbs
  have hx : ∀ x ∈ l, binB x = true := List.all_eq_true.1 hbs.2.2
  have hU : UOk l := fun b hbm => by
    have := hx b hbm
    simp only [Bool.and_eq_true, decide_eq_true_eq, binB] at this
    omega
  have hl := allP_len l hU u
  have p6 := pow6 (m := l.length) (by omega)
  unfold spec_blEdge spec_blEdgeK
  rw [blAll_ok l hU (by omega) u hu]
  simp only [Option.bind_some]
  have := edge_ok hb hk (allP l u) (by omega) (fun q hq => by
    obtain ⟨g1, g2⟩ := allP_mem l hU u q hq
    exact ⟨by omega, g1, hx, fun i hi => g2 _ (List.getElem_mem hi)⟩) 0 (Nat.zero_le _) (0, 0, false)
  rw [show ((0 : Nat) : Int) = 0 from rfl, List.drop_zero] at this
  dsimp only at this
  rw [this]; rfl
end
end Go.OAI
