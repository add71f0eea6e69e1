/- Calls: what a function owes its callers; what the caller hands over. Calls: what comes back. Calls: several places that come back. -/
import Derived.Test.YtejiaikhdjanoaaGreatB9
namespace Go.OAI
set_option linter.unusedVariables false
variable {P : Program} {w0 : W0} {gw : W0} {w w' : World} {B : Nat} {Io R R2 : Nat → Prop} {ρ ρ' : Nat → Option Pl} {Fr : Nat → Prop} {st s : St} {a : Act}
def tupV : List Value → Value
  | [v] => v
  | vs => .tuple vs.toArray
def ownVals (ds : List AVal) (vs : List Value) : List Value :=
  match ds, vs with
  | d :: ds, v :: vs => match isOwn d with
    | true => v :: ownVals ds vs
    | false => ownVals ds vs
  | _, _ => []
def parG (vs us : List Value) (gb k : Nat) : Option Value :=
  match vs[k]? with
  | some v => some v
  | none => if gb ≤ k then us[k - gb]? else none
def CalleeOk (P : Program) (g : Nat) (c : Callee) : Prop :=
  ∀ (w : World) (R Io F : Nat → Prop) (vs us : List Value) (ds : List AVal) (x : c.X) (y : c.Y), (vs ++ us).length = ds.length → us.length = c.gp.length → (us ≠ [] → vs.length ≤ c.gb) →
    ALs ⟨w, R, parG vs us c.gb, F⟩ w R ((vs ++ us).zip ds) Io → KF w F w.heap.size Io →
    (∀ b, Io b → b < w.heap.size ∧ ¬ R b) → (∀ b, R b → b < w.heap.size) → c.inn ds = some x → c.G x = some y →
    Calls P g vs.toArray w fun e w' => ∃ rs : List (Value × AVal), e = .returned (tupV (rs.map (·.1))) ∧ rs.map (·.2) = resList (c.out y).1 ∧ tupOf (rs.map (·.2)) = (c.out y).1 ∧
      (ownVals ds (vs ++ us)).length = (c.out y).2.length ∧ ∃ R', ALs (gnil w) w' R' (rs ++ (ownVals ds (vs ++ us)).zip (c.out y).2) (fun b => b < w'.heap.size ∧ ¬ R' b ∧ (Io b ∨ w.heap.size ≤ b)) ∧
      (∀ b, R b → R' b) ∧ (∀ b, R' b → b < w'.heap.size ∧ (R b ∨ (Io b ∨ w.heap.size ≤ b))) ∧ (∀ b, b < w.heap.size → ¬ Io b → w'.heap[b]? = w.heap[b]?) ∧ w.heap.size ≤ w'.heap.size ∧ Quiet w w'
def blkR (st : St) (ρ : Nat → Option Pl) (q : Nat × Option Nat) (b : Nat) : Prop :=
  st.ob q.1 ≠ none ∧ match q.2 with
    | none => ∃ p, ρ q.1 = some p ∧ blkO p b
    | some r => ∃ S n, plS (ρ q.1) (some r) = some (S, n) ∧ S.blk b
def Blks (st : St) (ρ : Nat → Option Pl) (qs : List (Nat × Option Nat)) (b : Nat) : Prop := ∃ q ∈ qs, blkR st ρ q b
theorem blkR_obj (h : SR w0 B Io R ρ Fr st a w) {q : Nat × Option Nat} {b : Nat} (hb : blkR st ρ q b) : ∃ o p, st.ob q.1 = some o ∧ ρ q.1 = some p ∧ blkO p b := by
  obtain ⟨id, row⟩ := q
  obtain ⟨h1, h2⟩ := hb
  obtain ⟨o, e⟩ : ∃ o, st.ob id = some o := Option.ne_none_iff_exists'.1 h1
  cases row with
  | none => obtain ⟨p, g1, g2⟩ := h2; exact ⟨o, p, e, g1, g2⟩
  | some r =>
    obtain ⟨S, n, g1, g2⟩ := h2
    have g1 : plS (ρ id) (some r) = some (S, n) := g1
    obtain ⟨p, e2⟩ : ∃ p, ρ id = some p := by
      cases e2 : ρ id with
      | none => rw [e2] at g1; simp [plS] at g1
      | some p => exact ⟨p, rfl⟩
    rw [e2] at g1
    cases p with
    | box => simp [plS] at g1
    | sl => simp [plS] at g1
    | matH => simp [plS] at g1
    | mat S' n' rows =>
      simp only [plS] at g1
      split at g1
      · rename_i hr
        have g1' := Option.some.inj g1
        refine ⟨o, _, e, e2, Or.inr ⟨r, hr, ?_⟩⟩
        rw [g1']; exact g2
      · cases g1
theorem Blks_apart (h : SR w0 B Io R ρ Fr st a w) {q1 q2 : List (Nat × Option Nat)} (hn : (q1.map (·.1) ++ q2.map (·.1)).Nodup) {b : Nat} (h1 : Blks st ρ q1 b) (h2 : Blks st ρ q2 b) : False := by
  obtain ⟨x, hx, hb1⟩ := h1
  obtain ⟨y, hy, hb2⟩ := h2
  obtain ⟨o, p, g1, g2, g3⟩ := blkR_obj h hb1
  obtain ⟨o', p', f1, f2, f3⟩ := blkR_obj h hb2
  have hne : x.1 ≠ y.1 := fun e => (List.nodup_append.1 hn).2.2 x.1 (List.mem_map_of_mem hx) y.1 (List.mem_map_of_mem hy) e
  exact h.sep x.1 o y.1 o' p p' b hne g1 f1 g2 f2 g3 f3
theorem CTs.cons {vs : Nat → Option Value} {x : AVal} {cs : List AVal} {u : Value} {S0 S1 S : Nat → Prop} (h0 : vs 0 = some u) (h1 : CT w R u S0 x) (h2 : CTs w R (fun i => vs (i + 1)) cs S1) (h3 : ∀ b, S0 b → S1 b → False) (h4 : ∀ b, S0 b ∨ S1 b → S b) : CTs w R vs (x :: cs) S := by
  obtain ⟨Ss, g1, g2, g3⟩ := h2
  refine ⟨fun i => match i with | 0 => S0 | i + 1 => Ss i, fun i y hy => ?_, fun i j b hij hi hj => ?_, fun i b hb => ?_⟩
  · match i with
    | 0 => simp at hy; subst hy; exact ⟨u, h0, h1⟩
    | i + 1 => exact g1 i y (by simpa using hy)
  · match i, j with
    | 0, 0 => exact hij rfl
    | 0, j + 1 => exact h3 b hi (g3 j b hj)
    | i + 1, 0 => exact h3 b hj (g3 i b hi)
    | i + 1, j + 1 => exact g2 i j b (by omega) hi hj
  · match i with
    | 0 => exact h4 b (.inl hb)
    | i + 1 => exact h4 b (.inr (g3 i b hb))
theorem ALs.cons {p : Value × AVal} {L : List (Value × AVal)} {S0 S1 S : Nat → Prop} (h1 : AT gw w R p.1 S0 p.2) (h2 : ALs gw w R L S1) (h3 : ∀ b, S0 b → S1 b → False) (h4 : ∀ b, S0 b ∨ S1 b → S b) : ALs gw w R (p :: L) S := by
  obtain ⟨Ss, g1, g2, g3⟩ := h2
  refine ⟨fun i => match i with | 0 => S0 | i + 1 => Ss i, fun i y hy => ?_, fun i j b hij hi hj => ?_, fun i b hb => ?_⟩
  · match i with
    | 0 => simp at hy; subst hy; exact h1
    | i + 1 => exact g1 i y (by simpa using hy)
  · match i, j with
    | 0, 0 => exact hij rfl
    | 0, j + 1 => exact h3 b hi (g3 j b hj)
    | i + 1, 0 => exact h3 b hj (g3 i b hi)
    | i + 1, j + 1 => exact g2 i j b (by omega) hi hj
  · match i with
    | 0 => exact h4 b (.inl hb)
    | i + 1 => exact h4 b (.inr (g3 i b hb))
theorem ct_cell (h : SR w0 B Io R ρ Fr st a w) {v : Value} {x y : AVal} (hv : CA w0 w R ρ v x) (he : resCell st true x = some y) : CT w R v (Blks st ρ (ownIds [x])) y := by
  have h1 := resCell_own h hv he
  cases x with
  | sref id row win =>
    refine h1.sub fun b hb => ⟨(id, row), by simp [ownIds], ?_, ?_⟩
    · simp only [resCell] at he
      intro e; rw [e] at he; cases he
    · cases row with
      | none => exact hb
      | some r => exact hb
  | _ => exact h1.sub fun b hb => hb.elim
theorem ownIds_cons (x : AVal) (cs : List AVal) : ownIds (x :: cs) = ownIds [x] ++ ownIds cs := by
  cases x <;> simp [ownIds]
theorem cts_own (h : SR w0 B Io R ρ Fr st a w) : ∀ {cs ys : List AVal} {vs : Nat → Option Value}, (∀ (i : Nat) x, cs[i]? = some x → ∃ u, vs i = some u ∧ CA w0 w R ρ u x) → resCells st true cs = some ys → ((ownIds cs).map (·.1)).Nodup →
    CTs w R vs ys (Blks st ρ (ownIds cs)) ∧ ys.length = cs.length
  | [], ys, vs, hv, he, hn => by cases he; exact ⟨⟨fun _ _ => False, fun i x hx => by simp at hx, fun _ _ _ _ h => h.elim, fun _ _ h => h.elim⟩, rfl⟩
  | x :: cs, ys, vs, hv, he, hn => by
    simp only [resCells] at he
    split at he
    · rename_i y hy
      split at he
      · rename_i ys' hys
        cases he
        rw [ownIds_cons, List.map_append] at hn
        obtain ⟨u, hu1, hu2⟩ := hv 0 x rfl
        obtain ⟨g1, g2⟩ := cts_own h (cs := cs) (vs := fun i => vs (i + 1)) (fun i z hz => hv (i + 1) z (by simpa using hz)) hys (List.nodup_append.1 hn).2.1
        refine ⟨.cons hu1 (ct_cell h hu2 hy) g1 (fun b h1 h2 => Blks_apart h hn h1 h2) ?_, by simp [g2]⟩
        rintro b (⟨q, hq, hb⟩ | ⟨q, hq, hb⟩) <;> rw [ownIds_cons]
        · exact ⟨q, List.mem_append_left _ hq, hb⟩
        · exact ⟨q, List.mem_append_right _ hq, hb⟩
      · cases he
    · cases he
theorem cts_ro (h : SR w0 B Io R ρ Fr st a w) (hr : ∀ b, R b → R2 b) : ∀ {cs ys : List AVal} {vs : Nat → Option Value}, (∀ (i : Nat) x, cs[i]? = some x → ∃ u, vs i = some u ∧ CA w0 w R ρ u x) → resCells st false cs = some ys →
    (∀ b, Blks st ρ (ownIds cs) b → R2 b) → CTs w R2 vs ys (fun _ => False) ∧ ys.length = cs.length ∧ ys.any isOwn1 = false
  | [], ys, vs, hv, he, hb => by cases he; exact ⟨⟨fun _ _ => False, fun i x hx => by simp at hx, fun _ _ _ _ h => h.elim, fun _ _ h => h.elim⟩, rfl, rfl⟩
  | x :: cs, ys, vs, hv, he, hb => by
    simp only [resCells] at he
    split at he
    · rename_i y hy
      split at he
      · rename_i ys' hys
        cases he
        obtain ⟨u, hu1, hu2⟩ := hv 0 x rfl
        obtain ⟨g1, g2, g3⟩ := cts_ro h hr (cs := cs) (vs := fun i => vs (i + 1)) (fun i z hz => hv (i + 1) z (by simpa using hz)) hys (fun b hb' => hb b (by
          obtain ⟨q, hq, hq'⟩ := hb'; rw [ownIds_cons]; exact ⟨q, List.mem_append_right _ hq, hq'⟩))
        have hra : RA w R2 u y := resCell_ro h hu2 hy hr (fun b hb' => by
          cases x <;> simp only [cellBlk] at hb'
          rename_i id row win
          refine hb b ⟨(id, row), by simp [ownIds], ?_, ?_⟩
          · simp only [resCell] at hy
            intro e; simp only [full, e] at hy; cases hy
          · cases row with
            | none => exact hb'
            | some r => exact hb')
        refine ⟨.cons hu1 hra.ct g1 (fun b _ h2 => h2) (fun b h => h.elim id id), by simp [g2], ?_⟩
        simp only [List.any_cons, g3, Bool.or_false]
        cases y <;> first | rfl | (simp only [RA] at hra)
      · cases he
    · cases he
theorem resCell_nopv {fl : Bool} {x y : AVal} (he : resCell st fl x = some y) : (∀ ts c, y ≠ .rptr ts c) ∧ ∀ f ts, y ≠ .cfn f ts := by
  cases x <;> cases fl <;> simp only [resCell] at he
  all_goals first
    | (cases he; done)
    | (cases he; simp; done)
    | (split at he
       all_goals first
         | (cases he; done)
         | (cases he; simp; done)
         | (split at he
            all_goals first
              | (cases he; simp; done)
              | (cases he; done)
              | (split at he
                 all_goals first
                   | (cases he; simp; done)
                   | (cases he; done))))
theorem resArg_own (h : SR w0 B Io R ρ Fr st a w) {v : Value} {x y : AVal} {fl : Bool} (hv : VA w0 w R ρ v x) (he : resArg st fl x = some y) (ho : isOwn y = true ∨ fl = true) (hn : ((ownArg st x).map (·.1)).Nodup) : AT gw w R v (Blks st ρ (ownArg st x)) y := by
  have cell : (∀ cs, x ≠ .agg cs) → (∀ id c, x ≠ .ptr id c) → AT gw w R v (Blks st ρ (ownArg st x)) y := by
    intro h1 h2
    have e1 : resArg st fl x = resCell st fl x := by cases x <;> first | rfl | exact absurd rfl (h1 _) | exact absurd rfl (h2 _ _)
    have e2 : ownArg st x = ownIds [x] := by cases x <;> first | rfl | exact absurd rfl (h1 _) | exact absurd rfl (h2 _ _)
    rw [e1] at he
    rw [e2]
    have hfl : fl = true := by
      rcases ho with ho | ho
      · cases fl
        · exfalso
          cases x <;> simp only [resCell] at he
          all_goals first
            | (cases he; done)
            | (cases he; simp [isOwn, isOwn1] at ho; done)
            | (split at he <;> (cases he); simp [isOwn, isOwn1] at ho; done)
            | skip
        · rfl
      · exact ho
    subst hfl
    have hca : CA w0 w R ρ v x := by
      cases x <;> first | exact hv | (simp [resCell] at he; done) | exact absurd rfl (h1 _)
    have hct := ct_cell h hca he
    have hy : (∀ cs, y ≠ .agg cs) ∧ ∀ cs, y ≠ .obox cs := by
      cases x <;> simp only [resCell] at he
      all_goals first
        | (cases he; done)
        | (cases he; simp; done)
        | (split at he
           all_goals first
             | (cases he; done)
             | (split at he
                all_goals first
                  | (cases he; simp; done)
                  | (cases he; done)
                  | (split at he
                     all_goals first
                       | (cases he; simp; done)
                       | (cases he; done))))
    rw [at_ct y hy.1 hy.2 (fun e => by subst e; exact hct) (resCell_nopv he).1 (resCell_nopv he).2]; exact hct
  cases x
  case agg cs =>
    simp only [resArg] at he
    split at he
    · rename_i ys hys
      cases he
      obtain ⟨us, h1, h2, h3⟩ := hv
      have hpt : ∀ (i : Nat) z, cs[i]? = some z → ∃ u, us[i]? = some u ∧ CA w0 w R ρ u z := fun i z hz => by
        have hi : i < us.size := by rw [h2]; exact lt_of_get hz
        exact ⟨us[i], by simp [hi], h3 i _ z (by simp [hi]) hz⟩
      have hfl : fl = true := by
        rcases ho with ho | ho
        · cases fl
          · exfalso
            obtain ⟨_, _, g3⟩ := cts_ro (R2 := fun _ => True) h (fun _ _ => trivial) hpt hys (fun _ _ => trivial)
            simp only [isOwn] at ho
            rw [g3] at ho; cases ho
          · rfl
        · exact ho
      subst hfl
      obtain ⟨g1, g2⟩ := cts_own h hpt hys hn
      exact ⟨us, h1, by rw [h2, g2], g1⟩
    · cases he
  case ptr id c =>
    simp only [resArg] at he
    split at he
    · split at he
      · rename_i cs hob
        split at he
        · rename_i ys hys
          cases he
          obtain ⟨b, off, h1, h2⟩ := hv
          obtain ⟨p, hp, hoa⟩ := h.ob id _ hob
          obtain ⟨b', off', arr, E, rfl, e2, e3⟩ := hoa
          rw [h1] at hp; cases hp
          have hoid : ownArg st (.ptr id 0) = (id, none) :: ownIds cs := by simp [ownArg, hob]
          rw [hoid] at hn ⊢
          simp only [List.map_cons, List.nodup_cons] at hn
          obtain ⟨g1, g2⟩ := cts_own h (vs := fun i => arr[off + i]?) e3 hys hn.2
          have hbb : blkR st ρ (id, none) b := ⟨by rw [hob]; simp, _, h1, rfl⟩
          refine ⟨b, off, arr, E, by simpa using h2, e2, ⟨(id, none), by simp, hbb⟩, Blks st ρ (ownIds cs), g1, fun hS => ?_, fun b' ⟨q, hq, hb'⟩ => ⟨q, by simp [hq], hb'⟩⟩
          exact Blks_apart h (q1 := [(id, none)]) (q2 := ownIds cs) (by simpa using hn) ⟨_, by simp, hbb⟩ hS
        · cases he
      · cases he
    · cases he
  all_goals exact cell (by simp) (by simp)
theorem resCell_true_ro (h : SR w0 B Io R ρ Fr st a w) {v : Value} {x y : AVal} (hv : CA w0 w R ρ v x) (he : resCell st true x = some y) (ho : isOwn1 y = false) : RA w R v y := by
  have := ct_cell h hv he
  rw [ct_ra y] at this
  · exact this
  · intro T l e; subst e; simp [isOwn1] at ho
  · intro T l e; subst e; simp [isOwn1] at ho
theorem resCell_shape {fl : Bool} {x y : AVal} (he : resCell st fl x = some y) : (∀ cs, y ≠ .agg cs) ∧ (∀ cs, y ≠ .obox cs) ∧ isOwn y = isOwn1 y := by
  cases x <;> cases fl <;> simp only [resCell] at he
  all_goals first
    | (cases he; done)
    | (cases he; simp [isOwn]; done)
    | (split at he
       all_goals first
         | (cases he; done)
         | (cases he; simp [isOwn]; done)
         | (split at he
            all_goals first
              | (cases he; simp [isOwn]; done)
              | (cases he; done)
              | (split at he
                 all_goals first
                   | (cases he; simp [isOwn]; done)
                   | (cases he; done))))
theorem cts_true_ro (h : SR w0 B Io R ρ Fr st a w) (hr : ∀ b, R b → R2 b) : ∀ {cs ys : List AVal} {vs : Nat → Option Value}, (∀ (i : Nat) x, cs[i]? = some x → ∃ u, vs i = some u ∧ CA w0 w R ρ u x) → resCells st true cs = some ys → ys.any isOwn1 = false →
    CTs w R2 vs ys (fun _ => False) ∧ ys.length = cs.length
  | [], ys, vs, hv, he, ho => by cases he; exact ⟨⟨fun _ _ => False, fun i x hx => by simp at hx, fun _ _ _ _ h => h.elim, fun _ _ h => h.elim⟩, rfl⟩
  | x :: cs, ys, vs, hv, he, ho => by
    simp only [resCells] at he
    split at he
    · rename_i y hy
      split at he
      · rename_i ys' hys
        cases he
        simp only [List.any_cons, Bool.or_eq_false_iff] at ho
        obtain ⟨u, hu1, hu2⟩ := hv 0 x rfl
        obtain ⟨g1, g2⟩ := cts_true_ro h hr (cs := cs) (vs := fun i => vs (i + 1)) (fun i z hz => hv (i + 1) z (by simpa using hz)) hys ho.2
        exact ⟨.cons hu1 ((resCell_true_ro h hu2 hy ho.1).mono (.refl _ _) hr).ct g1 (fun b _ h2 => h2) (fun b h => h.elim id id), by simp [g2]⟩
      · cases he
    · cases he
theorem resArg_ro (h : SR w0 B Io R ρ Fr st a w) (hr : ∀ b, R b → R2 b) {v : Value} {x y : AVal} {fl : Bool} (hv : VA w0 w R ρ v x) (he : resArg st fl x = some y) (ho : isOwn y = false) (hb : ∀ b, Blks st ρ (ownArg st x) b → R2 b) : AT gw w R2 v (fun _ => False) y := by
  have cell : (∀ cs, x ≠ .agg cs) → (∀ id c, x ≠ .ptr id c) → AT gw w R2 v (fun _ => False) y := by
    intro h1 h2
    have e1 : resArg st fl x = resCell st fl x := by cases x <;> first | rfl | exact absurd rfl (h1 _) | exact absurd rfl (h2 _ _)
    have e2 : ownArg st x = ownIds [x] := by cases x <;> first | rfl | exact absurd rfl (h1 _) | exact absurd rfl (h2 _ _)
    rw [e1] at he
    rw [e2] at hb
    obtain ⟨s1, s2, s3⟩ := resCell_shape he
    rw [s3] at ho
    have hca : CA w0 w R ρ v x := by
      cases x <;> first | exact hv | (cases fl <;> simp [resCell] at he; done) | exact absurd rfl (h1 _)
    by_cases hyu : y = .undef
    · subst hyu; exact trivial
    rw [at_ct y s1 s2 hyu (resCell_nopv he).1 (resCell_nopv he).2]
    cases fl
    · refine (resCell_ro h hca he hr (fun b hb' => ?_)).ct
      cases x <;> simp only [cellBlk] at hb'
      rename_i id row win
      refine hb b ⟨(id, row), by simp [ownIds], ?_, ?_⟩
      · simp only [resCell] at he
        intro e; simp only [full, e] at he; cases he
      · cases row with
        | none => exact hb'
        | some r => exact hb'
    · exact ((resCell_true_ro h hca he ho).mono (.refl _ _) hr).ct
  cases x
  case agg cs =>
    simp only [resArg] at he
    split at he
    · rename_i ys hys
      cases he
      obtain ⟨us, h1, h2, h3⟩ := hv
      have hpt : ∀ (i : Nat) z, cs[i]? = some z → ∃ u, us[i]? = some u ∧ CA w0 w R ρ u z := fun i z hz => by
        have hi : i < us.size := by rw [h2]; exact lt_of_get hz
        exact ⟨us[i], by simp [hi], h3 i _ z (by simp [hi]) hz⟩
      cases fl
      · obtain ⟨g1, g2, _⟩ := cts_ro h hr hpt hys hb
        exact ⟨us, h1, by rw [h2, g2], g1⟩
      · obtain ⟨g1, g2⟩ := cts_true_ro h hr hpt hys ho
        exact ⟨us, h1, by rw [h2, g2], g1⟩
    · cases he
  case ptr id c =>
    exfalso
    simp only [resArg] at he
    split at he
    · split at he
      · split at he
        · cases he; simp [isOwn] at ho
        · cases he
      · cases he
    · cases he
  all_goals exact cell (by simp) (by simp)
theorem idsOf_cons (x : AVal) (xs : List AVal) : idsOf st (x :: xs) = (ownArg st x).map (·.1) ++ idsOf st xs := rfl
def prsOf (st : St) : List AVal → List (Nat × Option Nat)
  | [] => []
  | x :: r => ownArg st x ++ prsOf st r
theorem prsOf_map (xs : List AVal) : (prsOf st xs).map (·.1) = idsOf st xs := by
  induction xs with
  | nil => rfl
  | cons x xs ih => simp [prsOf, idsOf, ih]
theorem resArgs_sound (h : SR w0 B Io R ρ Fr st a w) (hr : ∀ b, R b → R2 b) : ∀ {xs ds : List AVal} {vs : List Value} {fl : List Bool}, vs.length = xs.length → (∀ (i : Nat) v x, vs[i]? = some v → xs[i]? = some x → VA w0 w R ρ v x) → resArgs st fl xs = some ds →
    (idsOf st (pickOwn true ds xs)).Nodup → (∀ b, Blks st ρ (prsOf st (pickOwn false ds xs)) b → R2 b) →
    ds.length = xs.length ∧ ALs gw w R2 (vs.zip ds) (Blks st ρ (prsOf st (pickOwn true ds xs)))
  | [], ds, vs, fl, hl, hv, he, hn, hb => by
    cases fl <;> (cases he; exact ⟨rfl, fun _ _ => False, fun i p hp => by simp at hp, fun _ _ _ _ h => h.elim, fun _ _ h => h.elim⟩)
  | x :: xs, ds, vs, fl, hl, hv, he, hn, hb => by
    cases vs with
    | nil => simp at hl
    | cons v vs =>
      have he' : resArgs st fl (x :: xs) = match resArg st (fl.headD false) x with
          | some y => match resArgs st fl.tail xs with
            | some ys => some (y :: ys)
            | none => none
          | none => none := by cases fl <;> rfl
      rw [he'] at he
      split at he
      · rename_i y hy
        split at he
        · rename_i ys hys
          cases he
          have hv0 := hv 0 v x rfl rfl
          have hvt : ∀ (i : Nat) u z, vs[i]? = some u → xs[i]? = some z → VA w0 w R ρ u z := fun i u z hu hz => hv (i + 1) u z (by simpa using hu) (by simpa using hz)
          cases ho : isOwn y with
          | true =>
            have e1 : pickOwn true (y :: ys) (x :: xs) = x :: pickOwn true ys xs := by simp [pickOwn, ho]
            have e2 : pickOwn false (y :: ys) (x :: xs) = pickOwn false ys xs := by simp [pickOwn, ho]
            rw [e1] at hn ⊢
            rw [e2] at hb
            rw [idsOf_cons] at hn
            obtain ⟨g1, g2⟩ := resArgs_sound h hr (by simpa using hl) hvt hys (List.nodup_append.1 hn).2.1 hb
            refine ⟨by simp [g1], .cons ((resArg_own h hv0 hy (.inl ho) (List.nodup_append.1 hn).1).mono (.refl _ _) hr (fun _ _ => rfl)) g2 (fun b h1 h2 => Blks_apart h (by rw [prsOf_map]; exact hn) h1 h2) ?_⟩
            rintro b (⟨q, hq, hb'⟩ | ⟨q, hq, hb'⟩)
            · exact ⟨q, List.mem_append_left _ hq, hb'⟩
            · exact ⟨q, List.mem_append_right _ hq, hb'⟩
          | false =>
            have e1 : pickOwn true (y :: ys) (x :: xs) = pickOwn true ys xs := by simp [pickOwn, ho]
            have e2 : pickOwn false (y :: ys) (x :: xs) = x :: pickOwn false ys xs := by simp [pickOwn, ho]
            rw [e1] at hn ⊢
            rw [e2] at hb
            obtain ⟨g1, g2⟩ := resArgs_sound h hr (by simpa using hl) hvt hys hn (fun b ⟨q, hq, hb'⟩ => hb b ⟨q, List.mem_append_right _ hq, hb'⟩)
            exact ⟨by simp [g1], .cons (resArg_ro h hr hv0 hy ho (fun b ⟨q, hq, hb'⟩ => hb b ⟨q, List.mem_append_left _ hq, hb'⟩)) g2 (fun b h1 _ => h1) (fun b h => h.elim (fun h => h.elim) id)⟩
        · cases he
      · cases he
variable {P : Program} {w0 : W0} {gw : W0} {w w' : World} {B : Nat} {Io Io2 R R2 R3 : Nat → Prop} {ρ ρk : Nat → Option Pl} {Fr Frk : Nat → Prop} {st stk : St} {a : Act}
def LInv (st : St) (ρ : Nat → Option Pl) (Io2 : Nat → Prop) (z : Nat) (stk : St) (ρk : Nat → Option Pl) : Prop :=
  ∀ id o p b, stk.ob id = some o → ρk id = some p → blkO p b → (Io2 b ∨ z ≤ b) ∨ (¬ Io2 b ∧ ∃ o p, st.ob id = some o ∧ ρ id = some p ∧ blkO p b)
structure Bk (w0 : W0) (B : Nat) (Io : Nat → Prop) (R : Nat → Prop) (ρ : Nat → Option Pl) (st : St) (a : Act) (w w' : World) (Io2 R3 : Nat → Prop) (ρk : Nat → Option Pl) (Frk : Nat → Prop) (stk : St) : Prop where
  sr : SR w0 B Io R3 ρk Frk stk a w'
  le : Leρ ρ ρk
  li : LInv st ρ Io2 w.heap.size stk ρk
structure Ctx (w0 : W0) (B : Nat) (Io : Nat → Prop) (R : Nat → Prop) (ρ : Nat → Option Pl) (Fr : Nat → Prop) (st : St) (a : Act) (w w' : World) (Io2 R3 : Nat → Prop) : Prop where
  sr : SR w0 B Io R ρ Fr st a w
  rr : ∀ b, R b → R3 b
  same : ∀ b, b < w.heap.size → ¬ Io2 b → w'.heap[b]? = w.heap[b]?
  size : w.heap.size ≤ w'.heap.size
  ioR : ∀ b, Io2 b → ¬ R b
  r3 : ∀ b, R3 b → R b ∨ (Io2 b ∨ w.heap.size ≤ b)
def Now (Io2 : Nat → Prop) (z : Nat) (R3 : Nat → Prop) (B : Nat) (Io : Nat → Prop) (stk : St) (ρk : Nat → Option Pl) (w' : World) (S : Nat → Prop) : Prop :=
  Fits R3 B Io stk ρk w' S ∧ ∀ b, S b → Io2 b ∨ z ≤ b
theorem back_cell (c : Ctx w0 B Io R ρ Fr st a w w' Io2 R3) (k : Bk w0 B Io R ρ st a w w' Io2 R3 ρk Frk stk) {v : Value} {x y : AVal} {S : Nat → Prop} (hx : CA w0 w R ρ v x) (hy : CT w' R3 v S y) (hS : Now Io2 w.heap.size R3 B Io stk ρk w' S)
    {os : List (Nat × Option Obj)} (he : backCell st x y = some os) (hoth : ∀ q ∈ ownIds [x], st.ob q.1 ≠ none → ∀ p b, ρ q.1 = some p → blkO p b → ¬ blkR st ρ q b → ¬ Io2 b) :
    Bk w0 B Io R ρ st a w w' Io2 R3 ρk Frk (stk.obs os) ∧ ∀ b, Live (stk.obs os) ρk b → Live stk ρk b ∨ S b ∨ (¬ Io2 b ∧ b < w.heap.size) := by
  have nil : Bk w0 B Io R ρ st a w w' Io2 R3 ρk Frk (stk.obs []) ∧ ∀ b, Live (stk.obs []) ρk b → Live stk ρk b ∨ S b ∨ (¬ Io2 b ∧ b < w.heap.size) := ⟨k, fun b h => .inl h⟩
  unfold backCell at he
  split at he
  · rename_i id T l
    split at he
    · rename_i U l0 hob
      split at he
      · rename_i hTU
        have hTU := of_decide_eq_true hTU
        subst hTU
        cases he
        obtain ⟨S1, n, hp, hw⟩ := hx
        obtain ⟨p, hp', hoa⟩ := c.sr.ob id _ hob
        obtain ⟨S2, rfl, hown⟩ := hoa
        rw [hp'] at hp; simp only [plS] at hp; cases hp
        obtain ⟨Sp, q1, q2, q3⟩ := hy
        have hw : v = .slice S1.A l0.length S1.cap := hw
        rw [hw] at q1
        simp only [Value.slice.injEq] at q1
        obtain ⟨a1, a2, a3⟩ := q1
        have hSp : Sp = S1 := by
          cases Sp; cases S1; simp only at a1 a3
          have b1 := q2.1
          have b2 := hown.1
          simp only at b1 b2
          simp [a1, a3, b1, b2]
        subst hSp
        have hren := k.sr.renew (id := id) (o := .sl T l) (k.le id _ hp') ⟨Sp, by rw [a2], q2⟩ (fun b hb => (hS.1 b (q3 b hb)).1) (fun id' o' p' b hne h1 h2 h3 h4 => (hS.1 b (q3 b h3)).2 ⟨id', o', p', h1, h2, h4⟩)
        refine ⟨⟨hren, k.le, fun id' o' p' b h1 h2 h3 => ?_⟩, fun b hb => ?_⟩
        · by_cases e : id' = id
          · subst e
            rw [k.le id' _ hp'] at h2; cases h2
            exact .inl (hS.2 b (q3 b h3))
          · simp only [obs_one, e, if_false] at h1
            exact k.li id' o' p' b h1 h2 h3
        · obtain ⟨id', o', p', h1, h2, h3⟩ := hb
          by_cases e : id' = id
          · subst e
            rw [k.le id' _ hp'] at h2; cases h2
            exact .inr (.inl (q3 b h3))
          · simp only [obs_one, e, if_false] at h1
            exact .inl ⟨id', o', p', h1, h2, h3⟩
      · cases he
    · cases he
  · cases he; exact nil
  · rename_i id i T l
    split at he
    · rename_i T' m hob
      split at he
      · rename_i hT
        subst hT
        cases he
        obtain ⟨S1, n, hp, hw⟩ := hx
        obtain ⟨p, hp', hoa⟩ := c.sr.ob id _ hob
        obtain ⟨S2, rows, rfl, m1, m2, m3, m4, m5, m6⟩ := hoa
        have hp0 := hp
        rw [hp'] at hp; simp only [plS] at hp
        split at hp
        · rename_i hi
          have hpi := Option.some.inj hp
          obtain ⟨rfl, rfl⟩ : S1 = (rows i).1 ∧ n = (rows i).2 := by rw [hpi]; exact ⟨rfl, rfl⟩
          obtain ⟨g1, g2⟩ := m4 i _ (List.getElem?_eq_getElem hi)
          obtain ⟨Sp, q1, q2, q3⟩ := hy
          have hw : v = .slice (rows i).1.A (rows i).2 (rows i).1.cap := hw
          rw [hw] at q1
          simp only [Value.slice.injEq] at q1
          obtain ⟨a1, a2, a3⟩ := q1
          have hSp : Sp = (rows i).1 := by
            have b1 := q2.1
            have b2 := g2.1
            generalize (rows i).1 = Z at *
            cases Sp; cases Z; simp only at a1 a3 b1 b2
            simp [a1, a3, b1, b2]
          subst hSp
          have hoth' : ∀ b, blkO (.mat S2 m.length rows) b → ¬ (rows i).1.blk b → ¬ Io2 b := fun b hb hnb =>
            hoth (id, some i) (by simp [ownIds]) (by rw [hob]; simp) _ b hp' hb (fun ⟨_, S', n', e1, e2⟩ => hnb (by
              have e1 : plS (ρ id) (some i) = some (S', n') := e1
              rw [hp0] at e1; cases e1; exact e2))
          have hlt : ∀ b, blkO (.mat S2 m.length rows) b → b < w.heap.size ∧ ¬ R b ∧ (B ≤ b ∨ Io b) := fun b hb => c.sr.own id _ _ b hob hp' hb
          have hsameR : Same R w w' := fun b hb => c.same b (c.sr.rlt b hb) fun hio => c.ioR b hio hb
          have hrow : ∀ j, j < m.length → j ≠ i → ∀ b, (rows j).1.blk b → w'.heap[b]? = w.heap[b]? := fun j hj hne b hb =>
            c.same b (hlt b (.inr ⟨j, hj, hb⟩)).1 (hoth' b (.inr ⟨j, hj, hb⟩) fun h => m5 j i b hj hi hne hb h)
          have hren := k.sr.renew (id := id) (o := .mat T (m.set i l)) (k.le id _ hp') (by
            refine ⟨S2, rows, by simp, m1, by simpa using m2, fun hc => ?_, fun j r hr => ?_, by simpa using m5, by simpa using m6⟩
            · obtain ⟨b, off, arr, E, e1, e2, e3, e4⟩ := m3 hc
              have hblk : S2.blk b := ⟨hc, off, e1⟩
              refine ⟨b, off, arr, E, e1, ?_, e3, fun j r hr => ?_⟩
              · rw [c.same b (hlt b (.inl hblk)).1 (hoth' b (.inl hblk) fun h => m6 i b hi hblk h)]; exact e2
              · by_cases hji : j = i
                · subst hji
                  rw [List.getElem?_set_self hi] at hr; cases hr
                  have := e4 j _ (List.getElem?_eq_getElem hi)
                  rw [this, ← g1, a2]
                · rw [List.getElem?_set_ne (Ne.symm hji)] at hr
                  exact e4 j r hr
            · by_cases hji : j = i
              · subst hji
                rw [List.getElem?_set_self hi] at hr; cases hr
                exact ⟨a2, q2⟩
              · rw [List.getElem?_set_ne (Ne.symm hji)] at hr
                obtain ⟨z1, z2⟩ := m4 j r hr
                exact ⟨z1, z2.mono hsameR c.rr (hrow j (lt_of_get hr) hji)⟩) (fun b hb => by
            by_cases hbr : (rows i).1.blk b
            · exact (hS.1 b (q3 b hbr)).1
            · obtain ⟨z1, z2, z3⟩ := hlt b hb
              refine ⟨Nat.lt_of_lt_of_le z1 c.size, fun h3 => ?_, z3⟩
              rcases c.r3 b h3 with h | h | h
              · exact z2 h
              · exact hoth' b hb hbr h
              · omega) (fun id' o' p' b hne h1 h2 h3 h4 => by
            by_cases hbr : (rows i).1.blk b
            · exact (hS.1 b (q3 b hbr)).2 ⟨id', o', p', h1, h2, h4⟩
            · have hnio := hoth' b h3 hbr
              have hb1 := (hlt b h3).1
              rcases k.li id' o' p' b h1 h2 h4 with (h | h) | ⟨_, o2, p2, f1, f2, f3⟩
              · exact hnio h
              · omega
              · exact c.sr.sep id' o2 id _ p2 _ b hne f1 hob f2 hp' f3 h3)
          have key : ∀ b, blkO (.mat S2 m.length rows) b → S b ∨ (¬ Io2 b ∧ b < w.heap.size) := fun b hb => by
            by_cases hbr : (rows i).1.blk b
            · exact .inl (q3 b hbr)
            · exact .inr ⟨hoth' b hb hbr, (hlt b hb).1⟩
          refine ⟨⟨hren, k.le, fun id' o' p' b h1 h2 h3 => ?_⟩, fun b hb => ?_⟩
          · by_cases e : id' = id
            · subst e
              rw [k.le id' _ hp'] at h2; cases h2
              rcases key b h3 with h | h
              · exact .inl (hS.2 b h)
              · exact .inr ⟨h.1, _, _, hob, hp', h3⟩
            · simp only [obs_one, e, if_false] at h1
              exact k.li id' o' p' b h1 h2 h3
          · obtain ⟨id', o', p', h1, h2, h3⟩ := hb
            by_cases e : id' = id
            · subst e
              rw [k.le id' _ hp'] at h2; cases h2
              exact .inr (key b h3)
            · simp only [obs_one, e, if_false] at h1
              exact .inl ⟨id', o', p', h1, h2, h3⟩
        · cases hp
      · cases he
    · cases he
  · cases he
  · cases he; exact nil
variable {P : Program} {w0 : W0} {gw : W0} {w w' : World} {B : Nat} {Io Io2 R R2 R3 : Nat → Prop} {ρ ρk : Nat → Option Pl} {Fr Frk : Nat → Prop} {st stk : St} {a : Act}
def Other (st : St) (ρ : Nat → Option Pl) (Io2 : Nat → Prop) (qs : List (Nat × Option Nat)) : Prop :=
  ∀ q ∈ qs, st.ob q.1 ≠ none → ∀ p b, ρ q.1 = some p → blkO p b → ¬ blkR st ρ q b → ¬ Io2 b
theorem other_of (h : SR w0 B Io R ρ Fr st a w) {prs : List (Nat × Option Nat)} (hn : (prs.map (·.1)).Nodup) : Other st ρ (Blks st ρ prs) prs := by
  intro q hq hq0 p b hp hb hnb ⟨q', hq', hb'⟩
  obtain ⟨o, e⟩ : ∃ o, st.ob q.1 = some o := Option.ne_none_iff_exists'.1 hq0
  obtain ⟨o', p', f1, f2, f3⟩ := blkR_obj h hb'
  by_cases hqq : q'.1 = q.1
  · have : q' = q := by
      clear hb' f1 f2 f3 hnb hb hp e hq0
      induction prs with
      | nil => simp at hq
      | cons x xs ih =>
        simp only [List.map_cons, List.nodup_cons] at hn
        rcases List.mem_cons.1 hq with e1 | e1 <;> rcases List.mem_cons.1 hq' with e2 | e2
        · rw [e1, e2]
        · exact absurd (List.mem_map_of_mem (f := (·.1)) e2) (by rw [hqq, e1]; exact hn.1)
        · exact absurd (List.mem_map_of_mem (f := (·.1)) e1) (by rw [← hqq, e2]; exact hn.1)
        · exact ih hn.2 e1 e2
    subst this
    exact hnb hb'
  · exact h.sep q'.1 o' q.1 o p' p b hqq f1 e f2 hp f3 hb
theorem back_cells (c : Ctx w0 B Io R ρ Fr st a w w' Io2 R3) : ∀ {xs ys : List AVal} {stk : St} {vs : Nat → Option Value} {S : Nat → Prop} {os : List (Nat × Option Obj)}, Bk w0 B Io R ρ st a w w' Io2 R3 ρk Frk stk →
    (∀ (i : Nat) x, xs[i]? = some x → ∃ u, vs i = some u ∧ CA w0 w R ρ u x) → CTs w' R3 vs ys S → Now Io2 w.heap.size R3 B Io stk ρk w' S → backCells st xs ys = some os → Other st ρ Io2 (ownIds xs) →
    Bk w0 B Io R ρ st a w w' Io2 R3 ρk Frk (stk.obs os) ∧ ∀ b, Live (stk.obs os) ρk b → Live stk ρk b ∨ S b ∨ (¬ Io2 b ∧ b < w.heap.size)
  | [], [], stk, vs, S, os, k, hv, hc, hS, he, ho => by cases he; exact ⟨k, fun b h => .inl h⟩
  | [], _ :: _, stk, vs, S, os, k, hv, hc, hS, he, ho => by cases he
  | _ :: _, [], stk, vs, S, os, k, hv, hc, hS, he, ho => by cases he
  | x :: xs, y :: ys, stk, vs, S, os, k, hv, hc, hS, he, ho => by
    simp only [backCells] at he
    split at he
    · rename_i o1 h1
      split at he
      · rename_i o2 h2
        cases he
        obtain ⟨u, S0, S1, g1, g2, g3, g4, g5⟩ := hc.tail
        obtain ⟨u', e1, e2⟩ := hv 0 x rfl
        rw [g1] at e1; cases e1
        obtain ⟨k1, l1⟩ := back_cell c k e2 g2 ⟨fun b hb => hS.1 b (g5 b (.inl hb)), fun b hb => hS.2 b (g5 b (.inl hb))⟩ h1 (fun q hq => ho q (by rw [ownIds_cons]; exact List.mem_append_left _ hq))
        obtain ⟨k2, l2⟩ := back_cells c k1 (fun i z hz => hv (i + 1) z (by simpa using hz)) g3 ⟨fun b hb => ⟨(hS.1 b (g5 b (.inr hb))).1, fun hl => by
          rcases l1 b hl with h | h | h
          · exact (hS.1 b (g5 b (.inr hb))).2 h
          · exact g4 b h hb
          · rcases hS.2 b (g5 b (.inr hb)) with h' | h'
            · exact h.1 h'
            · have := h.2; omega⟩, fun b hb => hS.2 b (g5 b (.inr hb))⟩ h2 (fun q hq => ho q (by rw [ownIds_cons]; exact List.mem_append_right _ hq))
        rw [obs_append]
        refine ⟨k2, fun b hb => ?_⟩
        rcases l2 b hb with h | h | h
        · rcases l1 b h with h | h | h
          · exact .inl h
          · exact .inr (.inl (g5 b (.inl h)))
          · exact .inr (.inr h)
        · exact .inr (.inl (g5 b (.inr h)))
        · exact .inr (.inr h)
      · cases he
    · cases he
theorem Inst.fresh {i j : Nat} {S : Nat → Prop} {os : List (Nat × Option Obj)} {ρ' : Nat → Option Pl} (h : SR w0 B Io R ρ Fr st a w) (hf : ∀ t, i ≤ t → t < j → Fr t) (hi : Inst w0 B Io R ρ Fr st a w i j S os ρ')
    {id : Nat} {o : Obj} {p : Pl} {b : Nat} (hid : i ≤ id ∧ id < j) (h1 : (st.obs os).ob id = some o) (h2 : ρ' id = some p) (h3 : blkO p b) : S b := by
  rcases hi.live b ⟨id, o, p, h1, h2, h3⟩ with ⟨id', o', p', g1, g2, g3⟩ | h
  · exfalso
    have hne : ¬ (i ≤ id' ∧ id' < j) := fun e => by rw [h.fr id' (hf id' e.1 e.2)] at g2; cases g2
    obtain ⟨q1, q2⟩ := hi.old id' hne
    exact hi.sr.sep id' o' id o p' p b (fun e => hne (by rw [e]; exact hid)) (q1.trans g1) h1 (q2.trans g2) h2 g3 h3
  · exact h
theorem Bk.inst (k : Bk w0 B Io R ρ st a w w' Io2 R3 ρk Frk stk) {i j : Nat} {S : Nat → Prop} {os : List (Nat × Option Obj)} {ρ' : Nat → Option Pl} (hf : ∀ t, i ≤ t → t < j → Frk t) (hi : Inst w0 B Io R3 ρk Frk stk a w' i j S os ρ')
    (hS : ∀ b, S b → Io2 b ∨ w.heap.size ≤ b) : Bk w0 B Io R ρ st a w w' Io2 R3 ρ' (fun t => Frk t ∧ ¬ (i ≤ t ∧ t < j)) (stk.obs os) :=
  ⟨hi.sr, fun id p hp => hi.le id p (k.le id p hp), fun id o p b h1 h2 h3 => by
    by_cases hid : i ≤ id ∧ id < j
    · exact .inl (hS b (hi.fresh k.sr hf hid h1 h2 h3))
    · obtain ⟨q1, q2⟩ := hi.old id hid
      exact k.li id o p b (q1.symm.trans h1) (q2.symm.trans h2) h3⟩
theorem back_arg (c : Ctx w0 B Io R ρ Fr st a w w' Io2 R3) (k : Bk w0 B Io R ρ st a w w' Io2 R3 ρk Frk stk) {i j : Nat} (hf : ∀ t, i ≤ t → t < j → Frk t) {v : Value} {x y : AVal} {S : Nat → Prop} (hx : VA w0 w R ρ v x) (hy : AT gw w' R3 v S y)
    (hS : Now Io2 w.heap.size R3 B Io stk ρk w' S) {os : List (Nat × Option Obj)} (he : backArg st x y i = some (os, j)) (ho : Other st ρ Io2 (ownArg st x)) :
    ∃ ρ', Bk w0 B Io R ρ st a w w' Io2 R3 ρ' (fun t => Frk t ∧ ¬ (i ≤ t ∧ t < j)) (stk.obs os) ∧ Leρ ρk ρ' ∧ i ≤ j ∧ ∀ b, Live (stk.obs os) ρ' b → Live stk ρk b ∨ S b ∨ (¬ Io2 b ∧ b < w.heap.size) := by
  have one : ∀ os, j = i → Bk w0 B Io R ρ st a w w' Io2 R3 ρk Frk (stk.obs os) ∧ (∀ b, Live (stk.obs os) ρk b → Live stk ρk b ∨ S b ∨ (¬ Io2 b ∧ b < w.heap.size)) → ∃ ρ', Bk w0 B Io R ρ st a w w' Io2 R3 ρ' (fun t => Frk t ∧ ¬ (i ≤ t ∧ t < j)) (stk.obs os) ∧ Leρ ρk ρ' ∧ i ≤ j ∧ ∀ b, Live (stk.obs os) ρ' b → Live stk ρk b ∨ S b ∨ (¬ Io2 b ∧ b < w.heap.size) :=
    fun os e h => ⟨ρk, ⟨h.1.sr.weaken fun t ht => ht.1, h.1.le, h.1.li⟩, .refl _, by omega, h.2⟩
  unfold backArg at he
  split at he
  · cases he
    exact one _ rfl ⟨k, fun b h => .inl h⟩
  · rename_i id ys
    cases he
    obtain ⟨b, off, h1, h2⟩ := hx
    obtain ⟨b', off', arr, E, f1, f2, f3, S', f4, f5, f6⟩ := hy
    rw [h2] at f1
    simp only [Value.pointer.injEq, Option.some.injEq, Addr.mk.injEq] at f1
    obtain ⟨rfl, hoff, _⟩ := f1
    have hoff : off = off' := by omega
    subst hoff
    obtain ⟨ρ', g1, g2, g3⟩ := inst_cells k.sr hf f4 (fun b' hb' => hS.1 b' (f6 b' hb'))
    have k1 := k.inst hf g1 (fun b' hb' => hS.2 b' (f6 b' hb'))
    have hp : ρ' id = some (.box b off) := g1.le id _ (k.le id _ h1)
    have hren := k1.sr.renew (id := id) (o := .box (instCells ys i).1) hp ⟨b, off, arr, E, rfl, f2, g3⟩ (fun b' hb' => by
      have hb' : b = b' := hb'
      subst hb'
      exact (hS.1 b f3).1) (fun id' o' p' b' hne q1 q2 q3 q4 => by
      have q3 : b = b' := q3
      subst q3
      rcases g1.live b ⟨id', o', p', q1, q2, q4⟩ with h | h
      · exact (hS.1 b f3).2 h
      · exact f5 h)
    refine ⟨ρ', ⟨by rw [obs_append]; exact hren, k1.le, fun id' o' p' b' q1 q2 q3 => ?_⟩, g1.le, g1.ij, fun b' hb' => ?_⟩
    · rw [obs_append] at q1
      by_cases e : id' = id
      · subst e
        rw [hp] at q2; cases q2
        have q3 : b = b' := q3
        subst q3
        exact .inl (hS.2 b f3)
      · simp only [obs_one, e, if_false] at q1
        exact k1.li id' o' p' b' q1 q2 q3
    · rw [obs_append] at hb'
      obtain ⟨id', o', p', q1, q2, q3⟩ := hb'
      by_cases e : id' = id
      · subst e
        rw [hp] at q2; cases q2
        have q3 : b = b' := q3
        subst q3
        exact .inr (.inl f3)
      · simp only [obs_one, e, if_false] at q1
        rcases g1.live b' ⟨id', o', p', q1, q2, q3⟩ with h | h
        · exact .inl h
        · exact .inr (.inl (f6 b' h))
  · rename_i xs ys
    split at he
    · rename_i o1 h1
      cases he
      obtain ⟨us, q1, q2, q3⟩ := hx
      obtain ⟨us', r1, r2, r3⟩ := hy
      rw [q1] at r1; cases r1
      refine one _ rfl (back_cells c k (fun t z hz => ?_) r3 hS h1 ho)
      have ht : t < us.size := by rw [q2]; exact lt_of_get hz
      exact ⟨us[t], by simp [ht], q3 t _ z (by simp [ht]) hz⟩
    · cases he
  · rename_i n0 n1 n2
    clear n1 n2
    split at he
    · rename_i o1 h1
      cases he
      cases x
      case sref id row win =>
        have hy' : (∀ cs, y ≠ .agg cs) ∧ (∀ cs, y ≠ .obox cs) ∧ (∀ ts c, y ≠ .rptr ts c) ∧ ∀ f ts, y ≠ .cfn f ts := by
          refine ⟨?_, ?_, ?_, ?_⟩
          · intro cs e; subst e; cases row <;> cases win <;> simp [backCell] at h1
          · intro cs e; subst e; cases row <;> cases win <;> simp [backCell] at h1
          · intro cs c e; subst e; cases row <;> cases win <;> simp [backCell] at h1
          · intro cs c e; subst e; cases row <;> cases win <;> simp [backCell] at h1
        rw [at_ct y hy'.1 hy'.2.1 n0 hy'.2.2.1 hy'.2.2.2] at hy
        have hx : CA w0 w R ρ v (.sref id row win) := hx
        exact one _ rfl (back_cell c k hx hy hS h1 ho)
      all_goals
        have e : os = [] := by
          unfold backCell at h1
          simpa using h1.symm
        subst e
        exact one _ rfl ⟨k, fun b h => .inl h⟩
    · cases he
theorem backArg_le {x y : AVal} {i j : Nat} {os : List (Nat × Option Obj)} (he : backArg st x y i = some (os, j)) : i ≤ j := by
  unfold backArg at he
  split at he
  · cases he; exact Nat.le_refl _
  · cases he; exact instCells_le _ _
  · split at he <;> cases he; exact Nat.le_refl _
  · split at he <;> cases he; exact Nat.le_refl _
theorem backArgs_le : ∀ {xs ys : List AVal} {i j : Nat} {os : List (Nat × Option Obj)}, backArgs st xs ys i = some (os, j) → i ≤ j
  | [], [], i, j, os, he => by cases he; exact Nat.le_refl _
  | [], _ :: _, i, j, os, he => by cases he
  | _ :: _, [], i, j, os, he => by cases he
  | x :: xs, y :: ys, i, j, os, he => by
    simp only [backArgs] at he
    split at he
    · rename_i o1 j1 h1
      split at he
      · rename_i o2 j2 h2
        cases he
        exact Nat.le_trans (backArg_le h1) (backArgs_le h2)
      · cases he
    · cases he
theorem back_args (c : Ctx w0 B Io R ρ Fr st a w w' Io2 R3) : ∀ {xs ys : List AVal} {vs : List Value} {ρk : Nat → Option Pl} {Frk : Nat → Prop} {stk : St} {i j : Nat} {C : Nat → Prop} {os : List (Nat × Option Obj)}, Bk w0 B Io R ρ st a w w' Io2 R3 ρk Frk stk →
    (∀ t, i ≤ t → t < j → Frk t) → vs.length = xs.length → (∀ (t : Nat) v x, vs[t]? = some v → xs[t]? = some x → VA w0 w R ρ v x) → ALs gw w' R3 (vs.zip ys) C → Now Io2 w.heap.size R3 B Io stk ρk w' C → backArgs st xs ys i = some (os, j) → Other st ρ Io2 (prsOf st xs) →
    ∃ ρ', Bk w0 B Io R ρ st a w w' Io2 R3 ρ' (fun t => Frk t ∧ ¬ (i ≤ t ∧ t < j)) (stk.obs os) ∧ Leρ ρk ρ' ∧ i ≤ j ∧ ∀ b, Live (stk.obs os) ρ' b → Live stk ρk b ∨ C b ∨ (¬ Io2 b ∧ b < w.heap.size)
  | [], [], vs, ρk, Frk, stk, i, j, C, os, k, hf, hl, hv, hc, hS, he, ho => by
    cases he
    exact ⟨ρk, ⟨k.sr.weaken fun t ht => ht.1, k.le, k.li⟩, .refl _, Nat.le_refl _, fun b h => .inl h⟩
  | [], _ :: _, vs, ρk, Frk, stk, i, j, C, os, k, hf, hl, hv, hc, hS, he, ho => by cases he
  | _ :: _, [], vs, ρk, Frk, stk, i, j, C, os, k, hf, hl, hv, hc, hS, he, ho => by cases he
  | x :: xs, y :: ys, [], ρk, Frk, stk, i, j, C, os, k, hf, hl, hv, hc, hS, he, ho => by simp at hl
  | x :: xs, y :: ys, v :: vs, ρk, Frk, stk, i, j, C, os, k, hf, hl, hv, hc, hS, he, ho => by
    simp only [backArgs] at he
    split at he
    · rename_i o1 j1 h1
      split at he
      · rename_i o2 j2 h2
        cases he
        obtain ⟨S0, S1, g2, g3, g4, g5⟩ := ALs.tail (show ALs gw w' R3 ((v, y) :: vs.zip ys) C from hc)
        obtain ⟨ρ1, k1, le1, ij1, l1⟩ := back_arg c k (fun t q1 q2 => hf t q1 (Nat.lt_of_lt_of_le q2 (backArgs_le h2))) (hv 0 v x rfl rfl) g2 ⟨fun b hb => hS.1 b (g5 b (.inl hb)), fun b hb => hS.2 b (g5 b (.inl hb))⟩ h1 (fun q hq => ho q (List.mem_append_left _ hq))
        obtain ⟨ρ2, k2, le2, ij2, l2⟩ := back_args c k1 (fun t ht ht' => ⟨hf t (by omega) ht', fun e => by omega⟩) (by simpa using hl) (fun t u z hu hz => hv (t + 1) u z (by simpa using hu) (by simpa using hz)) g3
          ⟨fun b hb => ⟨(hS.1 b (g5 b (.inr hb))).1, fun hl => by
            rcases l1 b hl with h | h | h
            · exact (hS.1 b (g5 b (.inr hb))).2 h
            · exact g4 b h hb
            · rcases hS.2 b (g5 b (.inr hb)) with h' | h'
              · exact h.1 h'
              · have := h.2; omega⟩, fun b hb => hS.2 b (g5 b (.inr hb))⟩ h2 (fun q hq => ho q (List.mem_append_right _ hq))
        rw [obs_append]
        refine ⟨ρ2, ⟨k2.sr.weaken fun t ht => ⟨⟨ht.1, fun e => ht.2 ⟨e.1, by omega⟩⟩, fun e => ht.2 ⟨by omega, e.2⟩⟩, k2.le, k2.li⟩, fun id p hp => le2 id p (le1 id p hp), by omega, fun b hb => ?_⟩
        rcases l2 b hb with h | h | h
        · rcases l1 b h with h | h | h
          · exact .inl h
          · exact .inr (.inl (g5 b (.inl h)))
          · exact .inr (.inr h)
        · exact .inr (.inl (g5 b (.inr h)))
        · exact .inr (.inr h)
      · cases he
    · cases he
end Go.OAI
