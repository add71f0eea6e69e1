/- Both networks out of a list of edges; the least cut that both show. -/
import Derived.Test.YtokaffjipngphaaPwr
namespace Go.OAI
set_option linter.unusedVariables false
noncomputable section

def addA (adj : List (List Int)) (k a b : Nat) : List (List Int) :=
  (adj.set a (adj.getD a [] ++ [((2 * k : Nat) : Int)])).set b ((adj.set a (adj.getD a [] ++ [((2 * k : Nat) : Int)])).getD b [] ++ [((2 * k + 1 : Nat) : Int)])
structure NK (n k : Nat) (to : List Int) (adj : List (List Int)) : Prop where
  tol : to.length = 2 * k
  tor : ∀ e, e < 2 * k → 0 ≤ to.getD e 0 ∧ to.getD e 0 < (n : Int)
  adl : adj.length = n
  adm : ∀ v, ∀ y ∈ adj.getD v [], ∃ e : Nat, y = (e : Int) ∧ e < 2 * k ∧ (to.getD (mate e) 0).toNat = v
  ada : ∀ e, e < 2 * k → (e : Int) ∈ adj.getD (to.getD (mate e) 0).toNat []
  adb : ∀ v, (adj.getD v []).length ≤ 2 * k
theorem addA_get {adj : List (List Int)} {k a b : Nat} (ha : a < adj.length) (hb : b < adj.length) (v : Nat) :
    (addA adj k a b).getD v [] = adj.getD v [] ++ ((if a = v then [((2 * k : Nat) : Int)] else []) ++ (if b = v then [((2 * k + 1 : Nat) : Int)] else [])) := by
  have h1 : ∀ u, (adj.set a (adj.getD a [] ++ [((2 * k : Nat) : Int)])).getD u [] = adj.getD u [] ++ (if a = u then [((2 * k : Nat) : Int)] else []) := fun u => by
    by_cases c : a = u
    · subst c; rw [gs_eq ha, if_pos rfl]
    · rw [gs_ne c, if_neg c, List.append_nil]
  unfold addA
  by_cases c : b = v
  · subst c
    rw [gs_eq (by simpa using hb), h1, if_pos rfl, List.append_assoc]
  · rw [gs_ne c, h1, if_neg c, List.append_nil]
theorem app2_lt {to : List Int} {p q : Int} {e : Nat} (h : e < to.length) : (to ++ [p, q]).getD e 0 = to.getD e 0 := by
  simp only [List.getD_eq_getElem?_getD, List.getElem?_append_left h]
theorem app2_0 {to : List Int} {p q : Int} {e : Nat} (h : e = to.length) : (to ++ [p, q]).getD e 0 = p := by
  subst h; simp [List.getD_eq_getElem?_getD]
theorem app2_1 {to : List Int} {p q : Int} {e : Nat} (h : e = to.length + 1) : (to ++ [p, q]).getD e 0 = q := by
  subst h; simp [List.getD_eq_getElem?_getD]
theorem NK.step {n k : Nat} {to : List Int} {adj : List (List Int)} (h : NK n k to adj) {a b : Nat} (ha : a < n) (hb : b < n) : NK n (k + 1) (to ++ [(b : Int), (a : Int)]) (addA adj k a b) := by
  have hal : a < adj.length := by rw [h.adl]; exact ha
  have hbl : b < adj.length := by rw [h.adl]; exact hb
  have m0 : mate (2 * k) = 2 * k + 1 := mate_even k
  have m1 : mate (2 * k + 1) = 2 * k := mate_odd k
  have t0 : (to ++ [(b : Int), (a : Int)]).getD (2 * k) 0 = (b : Int) := app2_0 h.tol.symm
  have t1 : (to ++ [(b : Int), (a : Int)]).getD (2 * k + 1) 0 = (a : Int) := app2_1 (by rw [h.tol])
  refine ⟨by simp [h.tol]; omega, fun e he => ?_, by simp [addA, h.adl], fun v y hy => ?_, fun e he => ?_, fun v => ?_⟩
  · by_cases c : e < 2 * k
    · rw [app2_lt (by rw [h.tol]; exact c)]; exact h.tor e c
    · by_cases c2 : e = 2 * k
      · subst c2; rw [t0]; omega
      · have : e = 2 * k + 1 := by omega
        subst this; rw [t1]; omega
  · rw [addA_get hal hbl] at hy
    rcases List.mem_append.1 hy with hy | hy
    · obtain ⟨e, e1, e2, e3⟩ := h.adm v y hy
      exact ⟨e, e1, by omega, by rw [app2_lt (by rw [h.tol]; exact mate_lt e2)]; exact e3⟩
    · rcases List.mem_append.1 hy with hy | hy
      · by_cases c : a = v
        · rw [if_pos c] at hy
          exact ⟨2 * k, by simpa using hy, by omega, by rw [m0, t1]; simpa using c⟩
        · rw [if_neg c] at hy; simp at hy
      · by_cases c : b = v
        · rw [if_pos c] at hy
          exact ⟨2 * k + 1, by simpa using hy, by omega, by rw [m1, t0]; simpa using c⟩
        · rw [if_neg c] at hy; simp at hy
  · rw [addA_get hal hbl]
    by_cases c : e < 2 * k
    · rw [app2_lt (by rw [h.tol]; exact mate_lt c)]
      exact List.mem_append_left _ (h.ada e c)
    · by_cases c2 : e = 2 * k
      · subst c2
        rw [m0, t1]
        simp
      · have : e = 2 * k + 1 := by omega
        subst this
        rw [m1, t0]
        simp
  · rw [addA_get hal hbl, List.length_append, List.length_append]
    have := h.adb v
    split <;> split <;> simp only [List.length_singleton, List.length_nil] <;> omega
def toF (X : List DEdge) : List Int := X.flatMap fun e => [e.2.1, e.1]
def leF (X : List DEdge) : List Int := X.flatMap fun e => [e.2.2.1, 0]
def eds (X : List DEdge) : List (Int × Int × Int) := X.map fun e => (e.1, e.2.1, e.2.2.1)
structure EOk (n : Nat) (X : List DEdge) : Prop where
  ran : ∀ e ∈ X, (0 ≤ e.1 ∧ e.1 < (n : Int)) ∧ (0 ≤ e.2.1 ∧ e.2.1 < (n : Int)) ∧ (0 ≤ e.2.2.1 ∧ e.2.2.1 ≤ 2305843009213693952)
  len : X.length ≤ 274877906944
  n2 : 2 ≤ n
  nb : n ≤ 1099511627776
theorem toF_len : ∀ X : List DEdge, (toF X).length = 2 * X.length
  | [] => rfl
  | e :: X => by
    have := toF_len X
    simp only [toF, List.flatMap_cons, List.length_append, List.length_cons, List.length_nil] at this ⊢
    omega
theorem leF_len : ∀ X : List DEdge, (leF X).length = 2 * X.length
  | [] => rfl
  | e :: X => by
    have := leF_len X
    simp only [leF, List.flatMap_cons, List.length_append, List.length_cons, List.length_nil] at this ⊢
    omega
theorem leF_ok {n : Nat} : ∀ X : List DEdge, (∀ e ∈ X, (0 ≤ e.1 ∧ e.1 < (n : Int)) ∧ (0 ≤ e.2.1 ∧ e.2.1 < (n : Int)) ∧ (0 ≤ e.2.2.1 ∧ e.2.2.1 ≤ 2305843009213693952)) →
    ∀ e, e < 2 * X.length → 0 ≤ (leF X).getD e 0 ∧ (leF X).getD e 0 + (leF X).getD (mate e) 0 ≤ 2305843009213693952
  | [], _, e, h => by simp at h
  | x :: X, hX, e, h => by
    have ih := leF_ok X fun y hy => hX y (List.mem_cons_of_mem _ hy)
    have hx := hX x List.mem_cons_self
    have e0 : leF (x :: X) = x.2.2.1 :: 0 :: leF X := rfl
    rw [e0]
    match e with
    | 0 => simp only [mate, Nat.zero_mod, if_true, List.getD_cons_zero, List.getD_cons_succ, Nat.zero_add]; omega
    | 1 => simp only [mate, Nat.one_mod, Nat.one_ne_zero, if_false, Nat.sub_self, List.getD_cons_zero, List.getD_cons_succ]; omega
    | e + 2 =>
      rw [mate_add]
      simp only [List.getD_cons_succ]
      exact ih e (by simp at h; omega)
theorem ends_eds : ∀ X : List DEdge, ends (arcsOf (toF X) (leF X)) = eds X
  | [] => rfl
  | x :: X => by
    have ih := ends_eds X
    have e0 : leF (x :: X) = x.2.2.1 :: 0 :: leF X := rfl
    have e1 : toF (x :: X) = x.2.1 :: x.1 :: toF X := rfl
    rw [e0, e1]
    simp only [arcsOf, ends, eds, List.map_cons, Int.add_zero] at ih ⊢
    rw [ih]
theorem exc_eds : ∀ (X : List DEdge) (v : Int), exc (arcsOf (toF X) (leF X)) v = 0
  | [], v => rfl
  | x :: X, v => by
    have ih := exc_eds X v
    have e0 : leF (x :: X) = x.2.2.1 :: 0 :: leF X := rfl
    have e1 : toF (x :: X) = x.2.1 :: x.1 :: toF X := rfl
    rw [e0, e1]
    simp only [arcsOf, exc, ih]
    split <;> split <;> rfl
theorem NK.ok {n : Nat} {X : List DEdge} (hX : EOk n X) {adj : List (List Int)} (h : NK n X.length (toF X) adj) : Net.Ok ⟨n, X.length, toF X, adj⟩ := by
  have hl := hX.len
  exact ⟨hX.n2, hX.nb, by show X.length ≤ _; omega, h.tol, h.tor, h.adl, h.adm, h.ada, fun v => by have := h.adb v; show (adj.getD v []).length ≤ _; omega⟩
theorem FL.start {n : Nat} {X : List DEdge} (hX : EOk n X) (adj : List (List Int)) : FL ⟨n, X.length, toF X, adj⟩ (eds X) (leF X) :=
  ⟨⟨leF_len X, fun e he => (leF_ok X hX.ran e he).1, fun e he => (leF_ok X hX.ran e he).2⟩, ends_eds X, fun v _ _ => exc_eds X v⟩
theorem toF_snoc {X : List DEdge} {k : Nat} (h : k < X.length) : toF (X.take (k + 1)) = toF (X.take k) ++ [X[k].2.1, X[k].1] := by
  rw [List.take_add_one, List.getElem?_eq_getElem h]; simp only [toF, List.flatMap_append, Option.toList_some, List.flatMap_cons, List.flatMap_nil, List.append_nil]
theorem leF_snoc {X : List DEdge} {k : Nat} (h : k < X.length) : leF (X.take (k + 1)) = leF (X.take k) ++ [X[k].2.2.1, 0] := by
  rw [List.take_add_one, List.getElem?_eq_getElem h]; simp only [leF, List.flatMap_append, Option.toList_some, List.flatMap_cons, List.flatMap_nil, List.append_nil]
theorem nk0 (n : Nat) : NK n 0 [] (List.replicate n []) := by
  have g : ∀ v, (List.replicate n ([] : List Int)).getD v [] = [] := fun v => by
    rw [List.getD_eq_getElem?_getD, List.getElem?_replicate]; split <;> rfl
  exact ⟨rfl, fun e he => by omega, by simp, fun v y hy => by rw [g] at hy; simp at hy, fun e he => by omega, fun v => by rw [g]; simp⟩
theorem de (n : Nat) : decide (n = n) = true := by simp
theorem new_l0 {n : Nat} {X : List DEdge} (hX : EOk n X) : ∀ (j k : Nat) (adj : List (List Int)), k + j = X.length → NK n k (toF (X.take k)) adj →
    ∃ adj', impl_newResidual_l0 X (X.length : Int) (k : Int) adj (toF (X.take k)) (leF (X.take k)) = some (adj', (toF X, leF X)) ∧ NK n X.length (toF X) adj' := by
  intro j
  have hlen := hX.len
  induction j with
  | zero =>
    intro k adj hk h
    have e1 : X.take k = X := List.take_of_length_le (by omega)
    rw [e1] at h ⊢
    have : k = X.length := by omega
    subst this
    refine ⟨adj, ?_, h⟩
    rw [impl_newResidual_l0_eq]
    unfold impl_newResidual_l0K
    simp
  | succ j ih =>
    intro k adj hk h
    have hkl : k < X.length := by omega
    obtain ⟨⟨r1, r2⟩, ⟨r3, r4⟩, r5, r6⟩ := hX.ran _ (List.getElem_mem hkl)
    obtain ⟨a, ha⟩ : ∃ a : Nat, X[k].1 = (a : Int) := ⟨X[k].1.toNat, by omega⟩
    obtain ⟨b, hb⟩ : ∃ b : Nat, X[k].2.1 = (b : Int) := ⟨X[k].2.1.toNat, by omega⟩
    have han : a < n := by omega
    have hbn : b < n := by omega
    have hal : a < adj.length := by rw [h.adl]; exact han
    have hbl : b < adj.length := by rw [h.adl]; exact hbn
    have st := h.step han hbn
    obtain ⟨adj', g1, g2⟩ := ih (k + 1) (addA adj k a b) (by omega) (by rw [toF_snoc hkl, ha, hb]; exact st)
    refine ⟨adj', ?_, g2⟩
    rw [impl_newResidual_l0_eq]
    unfold impl_newResidual_l0K
    have tl : (toF (X.take k)).length = 2 * k := by rw [toF_len, List.length_take]; omega
    have ll : (leF (X.take k)).length = 2 * k := by rw [leF_len, List.length_take]; omega
    have wk : IntKind.i64.wrap ((k : Int) + 1) = ((k + 1 : Nat) : Int) := by rw [wr (by omega) (by omega)]; omega
    have w1 : IntKind.i64.wrap (((2 * k : Nat) : Int) + 1) = ((2 * k + 1 : Nat) : Int) := by rw [wr (by omega) (by omega)]; omega
    have q1 := h.adb a
    have q2 := h.adb b
    have hla : (adj.set a (adj.getD a [] ++ [((2 * k : Nat) : Int)])).length = adj.length := by simp
    have hlb : ((adj.set a (adj.getD a [] ++ [((2 * k : Nat) : Int)])).getD b []).length ≤ 2 * k + 1 := by
      by_cases c : a = b
      · subst c; rw [gs_eq hal]; simp; simpa using q1
      · rw [gs_ne c]; omega
    have c1 : decide ((adj.getD a []).length + [((2 * k : Nat) : Int)].length ≤ 1099511627776) = true := decide_eq_true (by simp only [List.length_singleton]; omega)
    have c2 : decide (((adj.set a (adj.getD a [] ++ [((2 * k : Nat) : Int)])).getD b []).length + [((2 * k + 1 : Nat) : Int)].length ≤ 1099511627776) = true := decide_eq_true (by simp only [List.length_singleton]; omega)
    have c3 : ∀ p q : Int, decide ((toF (X.take k)).length + [p, q].length ≤ 1099511627776) = true := fun p q => decide_eq_true (by rw [tl]; simp only [List.length_cons, List.length_nil]; omega)
    have c4 : ∀ p q : Int, decide ((leF (X.take k)).length + [p, q].length ≤ 1099511627776) = true := fun p q => decide_eq_true (by rw [ll]; simp only [List.length_cons, List.length_nil]; omega)
    have c5 := dl hkl
    have tl' : ((toF (X.take k)).length : Int) = ((2 * k : Nat) : Int) := by rw [tl]
    rw [toF_snoc hkl, leF_snoc hkl, ha, hb] at g1
    simp only [c3, c4]
    simp only [c5, cond_true, lat_nat hkl, Option.bind_some, ha, hb, dz, dl hal, dl hbl, hla, Bool.and_self, tz, Nat.zero_add, de, tl', c1, w1, c2, wk]
    exact g1
theorem start_l0 {n : Nat} {X : List DEdge} (hX : EOk n X) : ∀ (j k : Nat) (adj : List (List Int)), k + j = X.length → NK n k (toF (X.take k)) adj →
    ∃ adj', spec_mfStart_l0 X (X.length : Int) (k : Int) (toF (X.take k)) (leF (X.take k)) adj = some (toF X, (leF X, adj')) ∧ NK n X.length (toF X) adj' := by
  intro j
  have hlen := hX.len
  induction j with
  | zero =>
    intro k adj hk h
    have e1 : X.take k = X := List.take_of_length_le (by omega)
    rw [e1] at h ⊢
    have : k = X.length := by omega
    subst this
    refine ⟨adj, ?_, h⟩
    rw [spec_mfStart_l0_eq]
    unfold spec_mfStart_l0K
    simp
  | succ j ih =>
    intro k adj hk h
    have hkl : k < X.length := by omega
    obtain ⟨⟨r1, r2⟩, ⟨r3, r4⟩, r5, r6⟩ := hX.ran _ (List.getElem_mem hkl)
    obtain ⟨a, ha⟩ : ∃ a : Nat, X[k].1 = (a : Int) := ⟨X[k].1.toNat, by omega⟩
    obtain ⟨b, hb⟩ : ∃ b : Nat, X[k].2.1 = (b : Int) := ⟨X[k].2.1.toNat, by omega⟩
    have han : a < n := by omega
    have hbn : b < n := by omega
    have hal : a < adj.length := by rw [h.adl]; exact han
    have hbl : b < adj.length := by rw [h.adl]; exact hbn
    have st := h.step han hbn
    obtain ⟨adj', g1, g2⟩ := ih (k + 1) (addA adj k a b) (by omega) (by rw [toF_snoc hkl, ha, hb]; exact st)
    refine ⟨adj', ?_, g2⟩
    rw [spec_mfStart_l0_eq]
    unfold spec_mfStart_l0K
    have tl : (toF (X.take k)).length = 2 * k := by rw [toF_len, List.length_take]; omega
    have ll : (leF (X.take k)).length = 2 * k := by rw [leF_len, List.length_take]; omega
    have wk : IntKind.i64.wrap ((k : Int) + 1) = ((k + 1 : Nat) : Int) := by rw [wr (by omega) (by omega)]; omega
    have w0 : IntKind.i64.wrap (2 * (k : Int)) = ((2 * k : Nat) : Int) := by rw [wr (by omega) (by omega)]; omega
    have w1 : IntKind.i64.wrap (((2 * k : Nat) : Int) + 1) = ((2 * k + 1 : Nat) : Int) := by rw [wr (by omega) (by omega)]; omega
    have q1 := h.adb a
    have q2 := h.adb b
    have hla : (adj.set a (adj.getD a [] ++ [((2 * k : Nat) : Int)])).length = adj.length := by simp
    have hlb : ((adj.set a (adj.getD a [] ++ [((2 * k : Nat) : Int)])).getD b []).length ≤ 2 * k + 1 := by
      by_cases c : a = b
      · subst c; rw [gs_eq hal]; simp; simpa using q1
      · rw [gs_ne c]; omega
    have c1 : decide ((adj.getD a []).length + [((2 * k : Nat) : Int)].length ≤ 1099511627776) = true := decide_eq_true (by simp only [List.length_singleton]; omega)
    have c2 : decide (((adj.set a (adj.getD a [] ++ [((2 * k : Nat) : Int)])).getD b []).length + [((2 * k + 1 : Nat) : Int)].length ≤ 1099511627776) = true := decide_eq_true (by simp only [List.length_singleton]; omega)
    have c3 : ∀ p q : Int, decide ((toF (X.take k)).length + [p, q].length ≤ 1099511627776) = true := fun p q => decide_eq_true (by rw [tl]; simp only [List.length_cons, List.length_nil]; omega)
    have c4 : ∀ p q : Int, decide ((leF (X.take k)).length + [p, q].length ≤ 1099511627776) = true := fun p q => decide_eq_true (by rw [ll]; simp only [List.length_cons, List.length_nil]; omega)
    have c5 := dl hkl
    rw [toF_snoc hkl, leF_snoc hkl, ha, hb] at g1
    simp only [c3, c4]
    simp only [c5, cond_true, lat_nat hkl, Option.bind_some, ha, hb, dz, dl hal, dl hbl, hla, Bool.and_self, tz, Nat.zero_add, de, w0, c1, w1, c2, wk]
    exact g1
/-- The program's least cut. -/
theorem cut_i {n : Nat} {X : List DEdge} (hX : EOk n X) : ∃ r0 z r1 sn r2, impl_newResidual (n : Int) X = some r0 ∧ impl_residual_run r0 = some (z, r1) ∧ impl_residual_fromSource r1 = some (sn, r2) ∧ sn.length = n ∧ Least n (eds X) fun z => sn.getD z.toNat false := by
  obtain ⟨adj, g1, g2⟩ := new_l0 hX X.length 0 (List.replicate n []) (by omega) (by rw [List.take_zero]; exact nk0 n)
  have hN := g2.ok hX
  have hF := FL.start hX adj
  obtain ⟨z, l', lv', x', r1, r2, t, ht, hs, hsrc⟩ := run_i hN _ 0 (leF X) [] [] (Nat.le_refl _) hF
  refine ⟨(adj, (toF X, (leF X, ([], [])))), z, (adj, (toF X, (l', (lv', x')))), t.sn, (adj, (toF X, (l', (t.lv, x')))), ?_, ?_, hsrc _ _, ht.bi.snl, ?_⟩
  · unfold impl_newResidual impl_newResidualK
    have c1 : decide ((n : Int) ≤ 1099511627776) = true := decide_eq_true (by have := hX.nb; omega)
    have c2 : decide ((n : Int) ≤ (n : Int)) = true := decide_eq_true (by omega)
    simp only [dz, c1, c2, Bool.and_self, cond_true, Option.bind_some, tz]
    have g1 : impl_newResidual_l0 X (X.length : Int) 0 (List.replicate n []) [] [] = _ := g1
    rw [g1]; rfl
  · unfold impl_residual_run impl_residual_runK
    have r1 : impl_residual_run_l0 0 adj (toF X) (leF X) [] [] = _ := r1
    simp only [r1, Option.bind_some]
  · have := ht.least hN r2.wl r2.ex hs
    rw [r2.en] at this
    exact this
theorem filter_take {n : Nat} {S : Nat → Bool} {k : Nat} (h : k < n) : ((List.range (k + 1)).filter S).map (fun i : Nat => (i : Int)) = ((List.range k).filter S).map (fun i : Nat => (i : Int)) ++ (if S k = true then [(k : Int)] else []) := by
  rw [List.range_succ, List.filter_append, List.map_append]
  congr 1
  by_cases c : S k = true
  · simp [c]
  · simp [c]
/-- The reference's least cut. -/
theorem cut_s {n : Nat} {X : List DEdge} (hX : EOk n X) : ∃ sn : List Bool, sn.length = n ∧ Least n (eds X) (fun z => sn.getD z.toNat false) ∧ spec_mfLeast (n : Int) X = some (((List.range n).filter fun i => sn.getD i false).map fun i : Nat => (i : Int)) := by
  obtain ⟨adj, g1, g2⟩ := start_l0 hX X.length 0 (List.replicate n []) (by omega) (by rw [List.take_zero]; exact nk0 n)
  have hN := g2.ok hX
  have hF := FL.start hX adj
  have hnb := hX.nb
  obtain ⟨z, l', r1, r2, t, d, ht, hs, hdc, hsrc⟩ := run_s hN _ 0 (leF X) (Nat.le_refl _) hF
  have hl : t.sn.length = n := ht.bi.snl
  have hdl : d.length = n := hdc.len
  refine ⟨t.sn, hl, ?_, ?_⟩
  · have := ht.least hN r2.wl r2.ex hs
    rw [r2.en] at this
    exact this
  · unfold spec_mfLeast spec_mfLeastK spec_mfStart spec_mfStartK spec_mfState_run spec_mfState_runK
    have c1 : decide ((n : Int) ≤ 1099511627776) = true := decide_eq_true (by omega)
    have c2 : decide ((n : Int) ≤ (n : Int)) = true := decide_eq_true (by omega)
    have g1 : spec_mfStart_l0 X (X.length : Int) 0 [] [] (List.replicate n []) = _ := g1
    have r1 : spec_mfState_run_l0 0 (n : Int) (toF X) adj (leF X) = _ := r1
    have hsrc : spec_mfState_levels ((n : Int), (toF X, (l', adj))) = some (d, ((n : Int), (toF X, (l', adj)))) := hsrc
    simp only [dz, c1, c2, Bool.and_self, cond_true, Option.bind_some, tz, g1, r1, hsrc, hdl]
    have key : ∀ i, i ≤ n → spec_mfLeast_l0 (n : Int) d (i : Int) (((List.range i).filter fun i => t.sn.getD i false).map fun i : Nat => (i : Int)) = some (((List.range n).filter fun i => t.sn.getD i false).map fun i : Nat => (i : Int)) := by
      refine down ?_ fun i hi ih => ?_
      · rw [spec_mfLeast_l0_eq]
        unfold spec_mfLeast_l0K
        simp
      · rw [spec_mfLeast_l0_eq]
        unfold spec_mfLeast_l0K
        have wk : IntKind.i64.wrap ((i : Int) + 1) = ((i + 1 : Nat) : Int) := by rw [wr (by omega) (by omega)]; omega
        have hd := hdc.get i hi
        have hb := ht.bi.all i hi
        rw [filter_take hi] at ih
        simp only [dl hi, cond_true, dz, hdl, Bool.and_self, tz, Nat.zero_add, wk]
        cases hs : t.sn.getD i false with
        | true =>
          rw [hs, if_pos rfl] at hd
          have : decide (d.getD i 0 ≥ 0) = true := decide_eq_true (by omega)
          have hlen : ((List.range i).filter fun i => t.sn.getD i false).length ≤ i := by
            have := List.length_filter_le (fun i => t.sn.getD i false) (List.range i)
            simpa using this
          have hc : decide ((((List.range i).filter fun i => t.sn.getD i false).map fun i : Nat => (i : Int)).length + [(i : Int)].length ≤ 1099511627776) = true := decide_eq_true (by simp only [List.length_map, List.length_singleton]; omega)
          simp only [this, cond_true, hc]
          rw [hs, if_pos rfl] at ih
          exact ih
        | false =>
          rw [hs, if_neg (by simp)] at hd
          have : decide (d.getD i 0 ≥ 0) = false := decide_eq_false (by omega)
          simp only [this, cond_false]
          rw [hs, if_neg (by simp), List.append_nil] at ih
          exact ih
    have := key 0 (Nat.zero_le _)
    have this : spec_mfLeast_l0 (n : Int) d 0 [] = _ := this
    rw [this]
    rfl
end
end Go.OAI
