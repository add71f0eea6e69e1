/- Calls: what a function owes its callers; what the caller hands over. -/
import Derived.Test.YtaiopbdbnellhaaB9
namespace Go.OAI
set_option linter.unusedVariables false

variable {P : Program} {w0 : W0} {w w' : World} {B : Nat} {Io R R2 : Nat → Prop} {ρ ρ' : Nat → Option Pl} {Fr : Nat → Prop} {st s : St} {a : Act}

def tupV : List Value → Value
  | [v] => v
  | vs => .tuple vs.toArray
/-- The arguments that come back: their values, and what they hold then. -/
def ownVals (ds : List AVal) (vs : List Value) : List Value :=
  match ds, vs with
  | d :: ds, v :: vs => match isOwn d with
    | true => v :: ownVals ds vs
    | false => ownVals ds vs
  | _, _ => []
/-- What a function owes its callers. -/
def CalleeOk (P : Program) (g : Nat) (c : Callee) : Prop :=
  ∀ (w : World) (R Io : Nat → Prop) (vs : List Value) (ds : List AVal) (x : c.X) (y : c.Y), vs.length = ds.length → ALs w R (vs.zip ds) Io →
    (∀ b, Io b → b < w.heap.size ∧ ¬ R b) → (∀ b, R b → b < w.heap.size) → c.inn ds = some x → c.G x = some y →
    Calls P g vs.toArray w fun e w' => ∃ rs : List (Value × AVal), e = .returned (tupV (rs.map (·.1))) ∧ rs.map (·.2) = resList (c.out y).1 ∧ tupOf (rs.map (·.2)) = (c.out y).1 ∧
      (ownVals ds vs).length = (c.out y).2.length ∧ ∃ R', ALs w' R' (rs ++ (ownVals ds vs).zip (c.out y).2) (fun b => b < w'.heap.size ∧ ¬ R' b ∧ (Io b ∨ w.heap.size ≤ b)) ∧
      (∀ b, R b → R' b) ∧ (∀ b, R' b → b < w'.heap.size ∧ (R b ∨ (Io b ∨ w.heap.size ≤ b))) ∧ (∀ b, b < w.heap.size → ¬ Io b → w'.heap[b]? = w.heap[b]?) ∧ w.heap.size ≤ w'.heap.size ∧ Quiet w w'

/-- The blocks that go with what a cell names. -/
def blkR (st : St) (ρ : Nat → Option Pl) (q : Nat × Option Nat) (b : Nat) : Prop :=
  st.ob q.1 ≠ none ∧ match q.2 with
    | none => ∃ p, ρ q.1 = some p ∧ blkO p b
    | some r => ∃ S n, plS (ρ q.1) (some r) = some (S, n) ∧ S.blk b
def Blks (st : St) (ρ : Nat → Option Pl) (qs : List (Nat × Option Nat)) (b : Nat) : Prop := ∃ q ∈ qs, blkR st ρ q b

theorem blkR_obj (h : SR w0 B Io R ρ Fr st a w) {q : Nat × Option Nat} {b : Nat} (hb : blkR st ρ q b) : ∃ o p, st.ob q.1 = some o ∧ ρ q.1 = some p ∧ blkO p b := by
  obtain ⟨id, row⟩ := q
  obtain ⟨h1, h2⟩ := hb
  obtain ⟨o, e⟩ : ∃ o, st.ob id = some o := Option.ne_none_iff_exists'.1 h1
  cases row with
  | none => obtain ⟨p, g1, g2⟩ := h2; exact ⟨o, p, e, g1, g2⟩
  | some r =>
    obtain ⟨S, n, g1, g2⟩ := h2
    have g1 : plS (ρ id) (some r) = some (S, n) := g1
    obtain ⟨p, e2⟩ : ∃ p, ρ id = some p := by
      cases e2 : ρ id with
      | none => rw [e2] at g1; simp [plS] at g1
      | some p => exact ⟨p, rfl⟩
    rw [e2] at g1
    cases p with
    | box => simp [plS] at g1
    | sl => simp [plS] at g1
    | mat S' n' rows =>
      simp only [plS] at g1
      split at g1
      · rename_i hr
        have g1' := Option.some.inj g1
        refine ⟨o, _, e, e2, Or.inr ⟨r, hr, ?_⟩⟩
        rw [g1']; exact g2
      · cases g1
theorem Blks_apart (h : SR w0 B Io R ρ Fr st a w) {q1 q2 : List (Nat × Option Nat)} (hn : (q1.map (·.1) ++ q2.map (·.1)).Nodup) {b : Nat} (h1 : Blks st ρ q1 b) (h2 : Blks st ρ q2 b) : False := by
  obtain ⟨x, hx, hb1⟩ := h1
  obtain ⟨y, hy, hb2⟩ := h2
  obtain ⟨o, p, g1, g2, g3⟩ := blkR_obj h hb1
  obtain ⟨o', p', f1, f2, f3⟩ := blkR_obj h hb2
  have hne : x.1 ≠ y.1 := fun e => (List.nodup_append.1 hn).2.2 x.1 (List.mem_map_of_mem hx) y.1 (List.mem_map_of_mem hy) e
  exact h.sep x.1 o y.1 o' p p' b hne g1 f1 g2 f2 g3 f3

theorem CTs.cons {vs : Nat → Option Value} {x : AVal} {cs : List AVal} {u : Value} {S0 S1 S : Nat → Prop} (h0 : vs 0 = some u) (h1 : CT w R u S0 x) (h2 : CTs w R (fun i => vs (i + 1)) cs S1) (h3 : ∀ b, S0 b → S1 b → False) (h4 : ∀ b, S0 b ∨ S1 b → S b) : CTs w R vs (x :: cs) S := by
  obtain ⟨Ss, g1, g2, g3⟩ := h2
  refine ⟨fun i => match i with | 0 => S0 | i + 1 => Ss i, fun i y hy => ?_, fun i j b hij hi hj => ?_, fun i b hb => ?_⟩
  · match i with
    | 0 => simp at hy; subst hy; exact ⟨u, h0, h1⟩
    | i + 1 => exact g1 i y (by simpa using hy)
  · match i, j with
    | 0, 0 => exact hij rfl
    | 0, j + 1 => exact h3 b hi (g3 j b hj)
    | i + 1, 0 => exact h3 b hj (g3 i b hi)
    | i + 1, j + 1 => exact g2 i j b (by omega) hi hj
  · match i with
    | 0 => exact h4 b (.inl hb)
    | i + 1 => exact h4 b (.inr (g3 i b hb))
theorem ALs.cons {p : Value × AVal} {L : List (Value × AVal)} {S0 S1 S : Nat → Prop} (h1 : AT w R p.1 S0 p.2) (h2 : ALs w R L S1) (h3 : ∀ b, S0 b → S1 b → False) (h4 : ∀ b, S0 b ∨ S1 b → S b) : ALs w R (p :: L) S := by
  obtain ⟨Ss, g1, g2, g3⟩ := h2
  refine ⟨fun i => match i with | 0 => S0 | i + 1 => Ss i, fun i y hy => ?_, fun i j b hij hi hj => ?_, fun i b hb => ?_⟩
  · match i with
    | 0 => simp at hy; subst hy; exact h1
    | i + 1 => exact g1 i y (by simpa using hy)
  · match i, j with
    | 0, 0 => exact hij rfl
    | 0, j + 1 => exact h3 b hi (g3 j b hj)
    | i + 1, 0 => exact h3 b hj (g3 i b hi)
    | i + 1, j + 1 => exact g2 i j b (by omega) hi hj
  · match i with
    | 0 => exact h4 b (.inl hb)
    | i + 1 => exact h4 b (.inr (g3 i b hb))

theorem ct_cell (h : SR w0 B Io R ρ Fr st a w) {v : Value} {x y : AVal} (hv : CA w R ρ v x) (he : resCell st true x = some y) : CT w R v (Blks st ρ (ownIds [x])) y := by
  have h1 := resCell_own h hv he
  cases x with
  | sref id row win =>
    refine h1.sub fun b hb => ⟨(id, row), by simp [ownIds], ?_, ?_⟩
    · simp only [resCell] at he
      intro e; rw [e] at he; cases he
    · cases row with
      | none => exact hb
      | some r => exact hb
  | _ => exact h1.sub fun b hb => hb.elim

theorem ownIds_cons (x : AVal) (cs : List AVal) : ownIds (x :: cs) = ownIds [x] ++ ownIds cs := by
  cases x <;> simp [ownIds]

theorem cts_own (h : SR w0 B Io R ρ Fr st a w) : ∀ {cs ys : List AVal} {vs : Nat → Option Value}, (∀ (i : Nat) x, cs[i]? = some x → ∃ u, vs i = some u ∧ CA w R ρ u x) → resCells st true cs = some ys → ((ownIds cs).map (·.1)).Nodup →
    CTs w R vs ys (Blks st ρ (ownIds cs)) ∧ ys.length = cs.length
  | [], ys, vs, hv, he, hn => by cases he; exact ⟨⟨fun _ _ => False, fun i x hx => by simp at hx, fun _ _ _ _ h => h.elim, fun _ _ h => h.elim⟩, rfl⟩
  | x :: cs, ys, vs, hv, he, hn => by
    simp only [resCells] at he
    split at he
    · rename_i y hy
      split at he
      · rename_i ys' hys
        cases he
        rw [ownIds_cons, List.map_append] at hn
        obtain ⟨u, hu1, hu2⟩ := hv 0 x rfl
        obtain ⟨g1, g2⟩ := cts_own h (cs := cs) (vs := fun i => vs (i + 1)) (fun i z hz => hv (i + 1) z (by simpa using hz)) hys (List.nodup_append.1 hn).2.1
        refine ⟨.cons hu1 (ct_cell h hu2 hy) g1 (fun b h1 h2 => Blks_apart h hn h1 h2) ?_, by simp [g2]⟩
        rintro b (⟨q, hq, hb⟩ | ⟨q, hq, hb⟩) <;> rw [ownIds_cons]
        · exact ⟨q, List.mem_append_left _ hq, hb⟩
        · exact ⟨q, List.mem_append_right _ hq, hb⟩
      · cases he
    · cases he

theorem cts_ro (h : SR w0 B Io R ρ Fr st a w) (hr : ∀ b, R b → R2 b) : ∀ {cs ys : List AVal} {vs : Nat → Option Value}, (∀ (i : Nat) x, cs[i]? = some x → ∃ u, vs i = some u ∧ CA w R ρ u x) → resCells st false cs = some ys →
    (∀ b, Blks st ρ (ownIds cs) b → R2 b) → CTs w R2 vs ys (fun _ => False) ∧ ys.length = cs.length ∧ ys.any isOwn1 = false
  | [], ys, vs, hv, he, hb => by cases he; exact ⟨⟨fun _ _ => False, fun i x hx => by simp at hx, fun _ _ _ _ h => h.elim, fun _ _ h => h.elim⟩, rfl, rfl⟩
  | x :: cs, ys, vs, hv, he, hb => by
    simp only [resCells] at he
    split at he
    · rename_i y hy
      split at he
      · rename_i ys' hys
        cases he
        obtain ⟨u, hu1, hu2⟩ := hv 0 x rfl
        obtain ⟨g1, g2, g3⟩ := cts_ro h hr (cs := cs) (vs := fun i => vs (i + 1)) (fun i z hz => hv (i + 1) z (by simpa using hz)) hys (fun b hb' => hb b (by
          obtain ⟨q, hq, hq'⟩ := hb'; rw [ownIds_cons]; exact ⟨q, List.mem_append_right _ hq, hq'⟩))
        have hra : RA w R2 u y := resCell_ro h hu2 hy hr (fun b hb' => by
          cases x <;> simp only [cellBlk] at hb'
          rename_i id row win
          refine hb b ⟨(id, row), by simp [ownIds], ?_, ?_⟩
          · simp only [resCell] at hy
            intro e; simp only [full, e] at hy; cases hy
          · cases row with
            | none => exact hb'
            | some r => exact hb')
        refine ⟨.cons hu1 hra.ct g1 (fun b _ h2 => h2) (fun b h => h.elim id id), by simp [g2], ?_⟩
        simp only [List.any_cons, g3, Bool.or_false]
        cases y <;> first | rfl | (simp only [RA] at hra)
      · cases he
    · cases he

/-- An argument handed over with its memory. -/
theorem resArg_own (h : SR w0 B Io R ρ Fr st a w) {v : Value} {x y : AVal} {fl : Bool} (hv : VA w R ρ v x) (he : resArg st fl x = some y) (ho : isOwn y = true ∨ fl = true) (hn : ((ownArg st x).map (·.1)).Nodup) : AT w R v (Blks st ρ (ownArg st x)) y := by
  have cell : (∀ cs, x ≠ .agg cs) → (∀ id c, x ≠ .ptr id c) → AT w R v (Blks st ρ (ownArg st x)) y := by
    intro h1 h2
    have e1 : resArg st fl x = resCell st fl x := by cases x <;> first | rfl | exact absurd rfl (h1 _) | exact absurd rfl (h2 _ _)
    have e2 : ownArg st x = ownIds [x] := by cases x <;> first | rfl | exact absurd rfl (h1 _) | exact absurd rfl (h2 _ _)
    rw [e1] at he
    rw [e2]
    have hfl : fl = true := by
      rcases ho with ho | ho
      · cases fl
        · exfalso
          cases x <;> simp only [resCell] at he
          all_goals first
            | (cases he; done)
            | (cases he; simp [isOwn, isOwn1] at ho; done)
            | (split at he <;> (cases he); simp [isOwn, isOwn1] at ho; done)
            | skip
        · rfl
      · exact ho
    subst hfl
    have hca : CA w R ρ v x := by
      cases x <;> first | exact hv | (simp [resCell] at he; done) | exact absurd rfl (h1 _)
    have hct := ct_cell h hca he
    have hy : (∀ cs, y ≠ .agg cs) ∧ ∀ cs, y ≠ .obox cs := by
      cases x <;> simp only [resCell] at he
      all_goals first
        | (cases he; done)
        | (cases he; simp; done)
        | (split at he
           all_goals first
             | (cases he; done)
             | (split at he
                all_goals first
                  | (cases he; simp; done)
                  | (cases he; done)
                  | (split at he
                     all_goals first
                       | (cases he; simp; done)
                       | (cases he; done))))
    rw [at_ct y hy.1 hy.2 (fun e => by subst e; exact hct)]; exact hct
  cases x
  case agg cs =>
    simp only [resArg] at he
    split at he
    · rename_i ys hys
      cases he
      obtain ⟨us, h1, h2, h3⟩ := hv
      have hpt : ∀ (i : Nat) z, cs[i]? = some z → ∃ u, us[i]? = some u ∧ CA w R ρ u z := fun i z hz => by
        have hi : i < us.size := by rw [h2]; exact lt_of_get hz
        exact ⟨us[i], by simp [hi], h3 i _ z (by simp [hi]) hz⟩
      have hfl : fl = true := by
        rcases ho with ho | ho
        · cases fl
          · exfalso
            obtain ⟨_, _, g3⟩ := cts_ro (R2 := fun _ => True) h (fun _ _ => trivial) hpt hys (fun _ _ => trivial)
            simp only [isOwn] at ho
            rw [g3] at ho; cases ho
          · rfl
        · exact ho
      subst hfl
      obtain ⟨g1, g2⟩ := cts_own h hpt hys hn
      exact ⟨us, h1, by rw [h2, g2], g1⟩
    · cases he
  case ptr id c =>
    simp only [resArg] at he
    split at he
    · split at he
      · rename_i cs hob
        split at he
        · rename_i ys hys
          cases he
          obtain ⟨b, off, h1, h2⟩ := hv
          obtain ⟨p, hp, hoa⟩ := h.ob id _ hob
          obtain ⟨b', off', arr, E, rfl, e2, e3⟩ := hoa
          rw [h1] at hp; cases hp
          have hoid : ownArg st (.ptr id 0) = (id, none) :: ownIds cs := by simp [ownArg, hob]
          rw [hoid] at hn ⊢
          simp only [List.map_cons, List.nodup_cons] at hn
          obtain ⟨g1, g2⟩ := cts_own h (vs := fun i => arr[off + i]?) e3 hys hn.2
          have hbb : blkR st ρ (id, none) b := ⟨by rw [hob]; simp, _, h1, rfl⟩
          refine ⟨b, off, arr, E, by simpa using h2, e2, ⟨(id, none), by simp, hbb⟩, Blks st ρ (ownIds cs), g1, fun hS => ?_, fun b' ⟨q, hq, hb'⟩ => ⟨q, by simp [hq], hb'⟩⟩
          exact Blks_apart h (q1 := [(id, none)]) (q2 := ownIds cs) (by simpa using hn) ⟨_, by simp, hbb⟩ hS
        · cases he
      · cases he
    · cases he
  all_goals exact cell (by simp) (by simp)

theorem resCell_true_ro (h : SR w0 B Io R ρ Fr st a w) {v : Value} {x y : AVal} (hv : CA w R ρ v x) (he : resCell st true x = some y) (ho : isOwn1 y = false) : RA w R v y := by
  have := ct_cell h hv he
  rw [ct_ra y] at this
  · exact this
  · intro T l e; subst e; simp [isOwn1] at ho
  · intro T l e; subst e; simp [isOwn1] at ho
theorem resCell_shape {fl : Bool} {x y : AVal} (he : resCell st fl x = some y) : (∀ cs, y ≠ .agg cs) ∧ (∀ cs, y ≠ .obox cs) ∧ isOwn y = isOwn1 y := by
  cases x <;> cases fl <;> simp only [resCell] at he
  all_goals first
    | (cases he; done)
    | (cases he; simp [isOwn]; done)
    | (split at he
       all_goals first
         | (cases he; done)
         | (cases he; simp [isOwn]; done)
         | (split at he
            all_goals first
              | (cases he; simp [isOwn]; done)
              | (cases he; done)
              | (split at he
                 all_goals first
                   | (cases he; simp [isOwn]; done)
                   | (cases he; done))))
theorem cts_true_ro (h : SR w0 B Io R ρ Fr st a w) (hr : ∀ b, R b → R2 b) : ∀ {cs ys : List AVal} {vs : Nat → Option Value}, (∀ (i : Nat) x, cs[i]? = some x → ∃ u, vs i = some u ∧ CA w R ρ u x) → resCells st true cs = some ys → ys.any isOwn1 = false →
    CTs w R2 vs ys (fun _ => False) ∧ ys.length = cs.length
  | [], ys, vs, hv, he, ho => by cases he; exact ⟨⟨fun _ _ => False, fun i x hx => by simp at hx, fun _ _ _ _ h => h.elim, fun _ _ h => h.elim⟩, rfl⟩
  | x :: cs, ys, vs, hv, he, ho => by
    simp only [resCells] at he
    split at he
    · rename_i y hy
      split at he
      · rename_i ys' hys
        cases he
        simp only [List.any_cons, Bool.or_eq_false_iff] at ho
        obtain ⟨u, hu1, hu2⟩ := hv 0 x rfl
        obtain ⟨g1, g2⟩ := cts_true_ro h hr (cs := cs) (vs := fun i => vs (i + 1)) (fun i z hz => hv (i + 1) z (by simpa using hz)) hys ho.2
        exact ⟨.cons hu1 ((resCell_true_ro h hu2 hy ho.1).mono (.refl _ _) hr).ct g1 (fun b _ h2 => h2) (fun b h => h.elim id id), by simp [g2]⟩
      · cases he
    · cases he

/-- An argument that is only read. -/
theorem resArg_ro (h : SR w0 B Io R ρ Fr st a w) (hr : ∀ b, R b → R2 b) {v : Value} {x y : AVal} {fl : Bool} (hv : VA w R ρ v x) (he : resArg st fl x = some y) (ho : isOwn y = false) (hb : ∀ b, Blks st ρ (ownArg st x) b → R2 b) : AT w R2 v (fun _ => False) y := by
  have cell : (∀ cs, x ≠ .agg cs) → (∀ id c, x ≠ .ptr id c) → AT w R2 v (fun _ => False) y := by
    intro h1 h2
    have e1 : resArg st fl x = resCell st fl x := by cases x <;> first | rfl | exact absurd rfl (h1 _) | exact absurd rfl (h2 _ _)
    have e2 : ownArg st x = ownIds [x] := by cases x <;> first | rfl | exact absurd rfl (h1 _) | exact absurd rfl (h2 _ _)
    rw [e1] at he
    rw [e2] at hb
    obtain ⟨s1, s2, s3⟩ := resCell_shape he
    rw [s3] at ho
    have hca : CA w R ρ v x := by
      cases x <;> first | exact hv | (cases fl <;> simp [resCell] at he; done) | exact absurd rfl (h1 _)
    by_cases hyu : y = .undef
    · subst hyu; exact trivial
    rw [at_ct y s1 s2 hyu]
    cases fl
    · refine (resCell_ro h hca he hr (fun b hb' => ?_)).ct
      cases x <;> simp only [cellBlk] at hb'
      rename_i id row win
      refine hb b ⟨(id, row), by simp [ownIds], ?_, ?_⟩
      · simp only [resCell] at he
        intro e; simp only [full, e] at he; cases he
      · cases row with
        | none => exact hb'
        | some r => exact hb'
    · exact ((resCell_true_ro h hca he ho).mono (.refl _ _) hr).ct
  cases x
  case agg cs =>
    simp only [resArg] at he
    split at he
    · rename_i ys hys
      cases he
      obtain ⟨us, h1, h2, h3⟩ := hv
      have hpt : ∀ (i : Nat) z, cs[i]? = some z → ∃ u, us[i]? = some u ∧ CA w R ρ u z := fun i z hz => by
        have hi : i < us.size := by rw [h2]; exact lt_of_get hz
        exact ⟨us[i], by simp [hi], h3 i _ z (by simp [hi]) hz⟩
      cases fl
      · obtain ⟨g1, g2, _⟩ := cts_ro h hr hpt hys hb
        exact ⟨us, h1, by rw [h2, g2], g1⟩
      · obtain ⟨g1, g2⟩ := cts_true_ro h hr hpt hys ho
        exact ⟨us, h1, by rw [h2, g2], g1⟩
    · cases he
  case ptr id c =>
    exfalso
    simp only [resArg] at he
    split at he
    · split at he
      · split at he
        · cases he; simp [isOwn] at ho
        · cases he
      · cases he
    · cases he
  all_goals exact cell (by simp) (by simp)

theorem idsOf_cons (x : AVal) (xs : List AVal) : idsOf st (x :: xs) = (ownArg st x).map (·.1) ++ idsOf st xs := rfl
def prsOf (st : St) : List AVal → List (Nat × Option Nat)
  | [] => []
  | x :: r => ownArg st x ++ prsOf st r
theorem prsOf_map (xs : List AVal) : (prsOf st xs).map (·.1) = idsOf st xs := by
  induction xs with
  | nil => rfl
  | cons x xs ih => simp [prsOf, idsOf, ih]

/-- The arguments as they are handed over. -/
theorem resArgs_sound (h : SR w0 B Io R ρ Fr st a w) (hr : ∀ b, R b → R2 b) : ∀ {xs ds : List AVal} {vs : List Value} {fl : List Bool}, vs.length = xs.length → (∀ (i : Nat) v x, vs[i]? = some v → xs[i]? = some x → VA w R ρ v x) → resArgs st fl xs = some ds →
    (idsOf st (pickOwn true ds xs)).Nodup → (∀ b, Blks st ρ (prsOf st (pickOwn false ds xs)) b → R2 b) →
    ds.length = xs.length ∧ ALs w R2 (vs.zip ds) (Blks st ρ (prsOf st (pickOwn true ds xs)))
  | [], ds, vs, fl, hl, hv, he, hn, hb => by
    cases fl <;> (cases he; exact ⟨rfl, fun _ _ => False, fun i p hp => by simp at hp, fun _ _ _ _ h => h.elim, fun _ _ h => h.elim⟩)
  | x :: xs, ds, vs, fl, hl, hv, he, hn, hb => by
    cases vs with
    | nil => simp at hl
    | cons v vs =>
      have he' : resArgs st fl (x :: xs) = match resArg st (fl.headD false) x with
          | some y => match resArgs st fl.tail xs with
            | some ys => some (y :: ys)
            | none => none
          | none => none := by cases fl <;> rfl
      rw [he'] at he
      split at he
      · rename_i y hy
        split at he
        · rename_i ys hys
          cases he
          have hv0 := hv 0 v x rfl rfl
          have hvt : ∀ (i : Nat) u z, vs[i]? = some u → xs[i]? = some z → VA w R ρ u z := fun i u z hu hz => hv (i + 1) u z (by simpa using hu) (by simpa using hz)
          cases ho : isOwn y with
          | true =>
            have e1 : pickOwn true (y :: ys) (x :: xs) = x :: pickOwn true ys xs := by simp [pickOwn, ho]
            have e2 : pickOwn false (y :: ys) (x :: xs) = pickOwn false ys xs := by simp [pickOwn, ho]
            rw [e1] at hn ⊢
            rw [e2] at hb
            rw [idsOf_cons] at hn
            obtain ⟨g1, g2⟩ := resArgs_sound h hr (by simpa using hl) hvt hys (List.nodup_append.1 hn).2.1 hb
            refine ⟨by simp [g1], .cons ((resArg_own h hv0 hy (.inl ho) (List.nodup_append.1 hn).1).mono (.refl _ _) hr (fun _ _ => rfl)) g2 (fun b h1 h2 => Blks_apart h (by rw [prsOf_map]; exact hn) h1 h2) ?_⟩
            rintro b (⟨q, hq, hb'⟩ | ⟨q, hq, hb'⟩)
            · exact ⟨q, List.mem_append_left _ hq, hb'⟩
            · exact ⟨q, List.mem_append_right _ hq, hb'⟩
          | false =>
            have e1 : pickOwn true (y :: ys) (x :: xs) = pickOwn true ys xs := by simp [pickOwn, ho]
            have e2 : pickOwn false (y :: ys) (x :: xs) = x :: pickOwn false ys xs := by simp [pickOwn, ho]
            rw [e1] at hn ⊢
            rw [e2] at hb
            obtain ⟨g1, g2⟩ := resArgs_sound h hr (by simpa using hl) hvt hys hn (fun b ⟨q, hq, hb'⟩ => hb b ⟨q, List.mem_append_right _ hq, hb'⟩)
            exact ⟨by simp [g1], .cons (resArg_ro h hr hv0 hy ho (fun b ⟨q, hq, hb'⟩ => hb b ⟨q, List.mem_append_left _ hq, hb'⟩)) g2 (fun b h1 _ => h1) (fun b h => h.elim (fun h => h.elim) id)⟩
        · cases he
      · cases he
end Go.OAI
