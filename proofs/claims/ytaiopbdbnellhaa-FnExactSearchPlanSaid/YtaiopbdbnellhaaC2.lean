/- Calls: several places that come back. -/
import Derived.Test.YtaiopbdbnellhaaC1
namespace Go.OAI
set_option linter.unusedVariables false

variable {P : Program} {w0 : W0} {w w' : World} {B : Nat} {Io Io2 R R2 R3 : Nat → Prop} {ρ ρk : Nat → Option Pl} {Fr Frk : Nat → Prop} {st stk : St} {a : Act}

def Other (st : St) (ρ : Nat → Option Pl) (Io2 : Nat → Prop) (qs : List (Nat × Option Nat)) : Prop :=
  ∀ q ∈ qs, st.ob q.1 ≠ none → ∀ p b, ρ q.1 = some p → blkO p b → ¬ blkR st ρ q b → ¬ Io2 b

theorem other_of (h : SR w0 B Io R ρ Fr st a w) {prs : List (Nat × Option Nat)} (hn : (prs.map (·.1)).Nodup) : Other st ρ (Blks st ρ prs) prs := by
  intro q hq hq0 p b hp hb hnb ⟨q', hq', hb'⟩
  obtain ⟨o, e⟩ : ∃ o, st.ob q.1 = some o := Option.ne_none_iff_exists'.1 hq0
  obtain ⟨o', p', f1, f2, f3⟩ := blkR_obj h hb'
  by_cases hqq : q'.1 = q.1
  · have : q' = q := by
      clear hb' f1 f2 f3 hnb hb hp e hq0
      induction prs with
      | nil => simp at hq
      | cons x xs ih =>
        simp only [List.map_cons, List.nodup_cons] at hn
        rcases List.mem_cons.1 hq with e1 | e1 <;> rcases List.mem_cons.1 hq' with e2 | e2
        · rw [e1, e2]
        · exact absurd (List.mem_map_of_mem (f := (·.1)) e2) (by rw [hqq, e1]; exact hn.1)
        · exact absurd (List.mem_map_of_mem (f := (·.1)) e1) (by rw [← hqq, e2]; exact hn.1)
        · exact ih hn.2 e1 e2
    subst this
    exact hnb hb'
  · exact h.sep q'.1 o' q.1 o p' p b hqq f1 e f2 hp f3 hb

theorem back_cells (c : Ctx w0 B Io R ρ Fr st a w w' Io2 R3) : ∀ {xs ys : List AVal} {stk : St} {vs : Nat → Option Value} {S : Nat → Prop} {os : List (Nat × Option Obj)}, Bk w0 B Io R ρ st a w w' Io2 R3 ρk Frk stk →
    (∀ (i : Nat) x, xs[i]? = some x → ∃ u, vs i = some u ∧ CA w R ρ u x) → CTs w' R3 vs ys S → Now Io2 w.heap.size R3 B Io stk ρk w' S → backCells st xs ys = some os → Other st ρ Io2 (ownIds xs) →
    Bk w0 B Io R ρ st a w w' Io2 R3 ρk Frk (stk.obs os) ∧ ∀ b, Live (stk.obs os) ρk b → Live stk ρk b ∨ S b ∨ (¬ Io2 b ∧ b < w.heap.size)
  | [], [], stk, vs, S, os, k, hv, hc, hS, he, ho => by cases he; exact ⟨k, fun b h => .inl h⟩
  | [], _ :: _, stk, vs, S, os, k, hv, hc, hS, he, ho => by cases he
  | _ :: _, [], stk, vs, S, os, k, hv, hc, hS, he, ho => by cases he
  | x :: xs, y :: ys, stk, vs, S, os, k, hv, hc, hS, he, ho => by
    simp only [backCells] at he
    split at he
    · rename_i o1 h1
      split at he
      · rename_i o2 h2
        cases he
        obtain ⟨u, S0, S1, g1, g2, g3, g4, g5⟩ := hc.tail
        obtain ⟨u', e1, e2⟩ := hv 0 x rfl
        rw [g1] at e1; cases e1
        obtain ⟨k1, l1⟩ := back_cell c k e2 g2 ⟨fun b hb => hS.1 b (g5 b (.inl hb)), fun b hb => hS.2 b (g5 b (.inl hb))⟩ h1 (fun q hq => ho q (by rw [ownIds_cons]; exact List.mem_append_left _ hq))
        obtain ⟨k2, l2⟩ := back_cells c k1 (fun i z hz => hv (i + 1) z (by simpa using hz)) g3 ⟨fun b hb => ⟨(hS.1 b (g5 b (.inr hb))).1, fun hl => by
          rcases l1 b hl with h | h | h
          · exact (hS.1 b (g5 b (.inr hb))).2 h
          · exact g4 b h hb
          · rcases hS.2 b (g5 b (.inr hb)) with h' | h'
            · exact h.1 h'
            · have := h.2; omega⟩, fun b hb => hS.2 b (g5 b (.inr hb))⟩ h2 (fun q hq => ho q (by rw [ownIds_cons]; exact List.mem_append_right _ hq))
        rw [obs_append]
        refine ⟨k2, fun b hb => ?_⟩
        rcases l2 b hb with h | h | h
        · rcases l1 b h with h | h | h
          · exact .inl h
          · exact .inr (.inl (g5 b (.inl h)))
          · exact .inr (.inr h)
        · exact .inr (.inl (g5 b (.inr h)))
        · exact .inr (.inr h)
      · cases he
    · cases he

/-- What is laid in lies in the memory that came. -/
theorem Inst.fresh {i j : Nat} {S : Nat → Prop} {os : List (Nat × Option Obj)} {ρ' : Nat → Option Pl} (h : SR w0 B Io R ρ Fr st a w) (hf : ∀ t, i ≤ t → t < j → Fr t) (hi : Inst w0 B Io R ρ Fr st a w i j S os ρ')
    {id : Nat} {o : Obj} {p : Pl} {b : Nat} (hid : i ≤ id ∧ id < j) (h1 : (st.obs os).ob id = some o) (h2 : ρ' id = some p) (h3 : blkO p b) : S b := by
  rcases hi.live b ⟨id, o, p, h1, h2, h3⟩ with ⟨id', o', p', g1, g2, g3⟩ | h
  · exfalso
    have hne : ¬ (i ≤ id' ∧ id' < j) := fun e => by rw [h.fr id' (hf id' e.1 e.2)] at g2; cases g2
    obtain ⟨q1, q2⟩ := hi.old id' hne
    exact hi.sr.sep id' o' id o p' p b (fun e => hne (by rw [e]; exact hid)) (q1.trans g1) h1 (q2.trans g2) h2 g3 h3
  · exact h

theorem Bk.inst (k : Bk w0 B Io R ρ st a w w' Io2 R3 ρk Frk stk) {i j : Nat} {S : Nat → Prop} {os : List (Nat × Option Obj)} {ρ' : Nat → Option Pl} (hf : ∀ t, i ≤ t → t < j → Frk t) (hi : Inst w0 B Io R3 ρk Frk stk a w' i j S os ρ')
    (hS : ∀ b, S b → Io2 b ∨ w.heap.size ≤ b) : Bk w0 B Io R ρ st a w w' Io2 R3 ρ' (fun t => Frk t ∧ ¬ (i ≤ t ∧ t < j)) (stk.obs os) :=
  ⟨hi.sr, fun id p hp => hi.le id p (k.le id p hp), fun id o p b h1 h2 h3 => by
    by_cases hid : i ≤ id ∧ id < j
    · exact .inl (hS b (hi.fresh k.sr hf hid h1 h2 h3))
    · obtain ⟨q1, q2⟩ := hi.old id hid
      exact k.li id o p b (q1.symm.trans h1) (q2.symm.trans h2) h3⟩

theorem back_arg (c : Ctx w0 B Io R ρ Fr st a w w' Io2 R3) (k : Bk w0 B Io R ρ st a w w' Io2 R3 ρk Frk stk) {i j : Nat} (hf : ∀ t, i ≤ t → t < j → Frk t) {v : Value} {x y : AVal} {S : Nat → Prop} (hx : VA w R ρ v x) (hy : AT w' R3 v S y)
    (hS : Now Io2 w.heap.size R3 B Io stk ρk w' S) {os : List (Nat × Option Obj)} (he : backArg st x y i = some (os, j)) (ho : Other st ρ Io2 (ownArg st x)) :
    ∃ ρ', Bk w0 B Io R ρ st a w w' Io2 R3 ρ' (fun t => Frk t ∧ ¬ (i ≤ t ∧ t < j)) (stk.obs os) ∧ Leρ ρk ρ' ∧ i ≤ j ∧ ∀ b, Live (stk.obs os) ρ' b → Live stk ρk b ∨ S b ∨ (¬ Io2 b ∧ b < w.heap.size) := by
  have one : ∀ os, j = i → Bk w0 B Io R ρ st a w w' Io2 R3 ρk Frk (stk.obs os) ∧ (∀ b, Live (stk.obs os) ρk b → Live stk ρk b ∨ S b ∨ (¬ Io2 b ∧ b < w.heap.size)) → ∃ ρ', Bk w0 B Io R ρ st a w w' Io2 R3 ρ' (fun t => Frk t ∧ ¬ (i ≤ t ∧ t < j)) (stk.obs os) ∧ Leρ ρk ρ' ∧ i ≤ j ∧ ∀ b, Live (stk.obs os) ρ' b → Live stk ρk b ∨ S b ∨ (¬ Io2 b ∧ b < w.heap.size) :=
    fun os e h => ⟨ρk, ⟨h.1.sr.weaken fun t ht => ht.1, h.1.le, h.1.li⟩, .refl _, by omega, h.2⟩
  unfold backArg at he
  split at he
  · cases he
    exact one _ rfl ⟨k, fun b h => .inl h⟩
  · rename_i id ys
    cases he
    obtain ⟨b, off, h1, h2⟩ := hx
    obtain ⟨b', off', arr, E, f1, f2, f3, S', f4, f5, f6⟩ := hy
    rw [h2] at f1
    simp only [Value.pointer.injEq, Option.some.injEq, Addr.mk.injEq] at f1
    obtain ⟨rfl, hoff, _⟩ := f1
    have hoff : off = off' := by omega
    subst hoff
    obtain ⟨ρ', g1, g2, g3⟩ := inst_cells k.sr hf f4 (fun b' hb' => hS.1 b' (f6 b' hb'))
    have k1 := k.inst hf g1 (fun b' hb' => hS.2 b' (f6 b' hb'))
    have hp : ρ' id = some (.box b off) := g1.le id _ (k.le id _ h1)
    have hren := k1.sr.renew (id := id) (o := .box (instCells ys i).1) hp ⟨b, off, arr, E, rfl, f2, g3⟩ (fun b' hb' => by
      have hb' : b = b' := hb'
      subst hb'
      exact (hS.1 b f3).1) (fun id' o' p' b' hne q1 q2 q3 q4 => by
      have q3 : b = b' := q3
      subst q3
      rcases g1.live b ⟨id', o', p', q1, q2, q4⟩ with h | h
      · exact (hS.1 b f3).2 h
      · exact f5 h)
    refine ⟨ρ', ⟨by rw [obs_append]; exact hren, k1.le, fun id' o' p' b' q1 q2 q3 => ?_⟩, g1.le, g1.ij, fun b' hb' => ?_⟩
    · rw [obs_append] at q1
      by_cases e : id' = id
      · subst e
        rw [hp] at q2; cases q2
        have q3 : b = b' := q3
        subst q3
        exact .inl (hS.2 b f3)
      · simp only [obs_one, e, if_false] at q1
        exact k1.li id' o' p' b' q1 q2 q3
    · rw [obs_append] at hb'
      obtain ⟨id', o', p', q1, q2, q3⟩ := hb'
      by_cases e : id' = id
      · subst e
        rw [hp] at q2; cases q2
        have q3 : b = b' := q3
        subst q3
        exact .inr (.inl f3)
      · simp only [obs_one, e, if_false] at q1
        rcases g1.live b' ⟨id', o', p', q1, q2, q3⟩ with h | h
        · exact .inl h
        · exact .inr (.inl (f6 b' h))
  · rename_i xs ys
    split at he
    · rename_i o1 h1
      cases he
      obtain ⟨us, q1, q2, q3⟩ := hx
      obtain ⟨us', r1, r2, r3⟩ := hy
      rw [q1] at r1; cases r1
      refine one _ rfl (back_cells c k (fun t z hz => ?_) r3 hS h1 ho)
      have ht : t < us.size := by rw [q2]; exact lt_of_get hz
      exact ⟨us[t], by simp [ht], q3 t _ z (by simp [ht]) hz⟩
    · cases he
  · rename_i n0 n1 n2
    clear n1 n2
    split at he
    · rename_i o1 h1
      cases he
      cases x
      case sref id row win =>
        have hy' : (∀ cs, y ≠ .agg cs) ∧ ∀ cs, y ≠ .obox cs := by
          constructor
          · intro cs e; subst e; cases row <;> cases win <;> simp [backCell] at h1
          · intro cs e; subst e; cases row <;> cases win <;> simp [backCell] at h1
        rw [at_ct y hy'.1 hy'.2 n0] at hy
        have hx : CA w R ρ v (.sref id row win) := hx
        exact one _ rfl (back_cell c k hx hy hS h1 ho)
      all_goals
        have e : os = [] := by
          unfold backCell at h1
          simpa using h1.symm
        subst e
        exact one _ rfl ⟨k, fun b h => .inl h⟩
    · cases he

theorem prsOf_cons (x : AVal) (xs : List AVal) : prsOf st (x :: xs) = ownArg st x ++ prsOf st xs := rfl
theorem backArg_le {x y : AVal} {i j : Nat} {os : List (Nat × Option Obj)} (he : backArg st x y i = some (os, j)) : i ≤ j := by
  unfold backArg at he
  split at he
  · cases he; exact Nat.le_refl _
  · cases he; exact instCells_le _ _
  · split at he <;> cases he; exact Nat.le_refl _
  · split at he <;> cases he; exact Nat.le_refl _
theorem backArgs_le : ∀ {xs ys : List AVal} {i j : Nat} {os : List (Nat × Option Obj)}, backArgs st xs ys i = some (os, j) → i ≤ j
  | [], [], i, j, os, he => by cases he; exact Nat.le_refl _
  | [], _ :: _, i, j, os, he => by cases he
  | _ :: _, [], i, j, os, he => by cases he
  | x :: xs, y :: ys, i, j, os, he => by
    simp only [backArgs] at he
    split at he
    · rename_i o1 j1 h1
      split at he
      · rename_i o2 j2 h2
        cases he
        exact Nat.le_trans (backArg_le h1) (backArgs_le h2)
      · cases he
    · cases he
theorem back_args (c : Ctx w0 B Io R ρ Fr st a w w' Io2 R3) : ∀ {xs ys : List AVal} {vs : List Value} {ρk : Nat → Option Pl} {Frk : Nat → Prop} {stk : St} {i j : Nat} {C : Nat → Prop} {os : List (Nat × Option Obj)}, Bk w0 B Io R ρ st a w w' Io2 R3 ρk Frk stk →
    (∀ t, i ≤ t → t < j → Frk t) → vs.length = xs.length → (∀ (t : Nat) v x, vs[t]? = some v → xs[t]? = some x → VA w R ρ v x) → ALs w' R3 (vs.zip ys) C → Now Io2 w.heap.size R3 B Io stk ρk w' C → backArgs st xs ys i = some (os, j) → Other st ρ Io2 (prsOf st xs) →
    ∃ ρ', Bk w0 B Io R ρ st a w w' Io2 R3 ρ' (fun t => Frk t ∧ ¬ (i ≤ t ∧ t < j)) (stk.obs os) ∧ Leρ ρk ρ' ∧ i ≤ j ∧ ∀ b, Live (stk.obs os) ρ' b → Live stk ρk b ∨ C b ∨ (¬ Io2 b ∧ b < w.heap.size)
  | [], [], vs, ρk, Frk, stk, i, j, C, os, k, hf, hl, hv, hc, hS, he, ho => by
    cases he
    exact ⟨ρk, ⟨k.sr.weaken fun t ht => ht.1, k.le, k.li⟩, .refl _, Nat.le_refl _, fun b h => .inl h⟩
  | [], _ :: _, vs, ρk, Frk, stk, i, j, C, os, k, hf, hl, hv, hc, hS, he, ho => by cases he
  | _ :: _, [], vs, ρk, Frk, stk, i, j, C, os, k, hf, hl, hv, hc, hS, he, ho => by cases he
  | x :: xs, y :: ys, [], ρk, Frk, stk, i, j, C, os, k, hf, hl, hv, hc, hS, he, ho => by simp at hl
  | x :: xs, y :: ys, v :: vs, ρk, Frk, stk, i, j, C, os, k, hf, hl, hv, hc, hS, he, ho => by
    simp only [backArgs] at he
    split at he
    · rename_i o1 j1 h1
      split at he
      · rename_i o2 j2 h2
        cases he
        obtain ⟨S0, S1, g2, g3, g4, g5⟩ := ALs.tail (show ALs w' R3 ((v, y) :: vs.zip ys) C from hc)
        obtain ⟨ρ1, k1, le1, ij1, l1⟩ := back_arg c k (fun t q1 q2 => hf t q1 (Nat.lt_of_lt_of_le q2 (backArgs_le h2))) (hv 0 v x rfl rfl) g2 ⟨fun b hb => hS.1 b (g5 b (.inl hb)), fun b hb => hS.2 b (g5 b (.inl hb))⟩ h1 (fun q hq => ho q (List.mem_append_left _ hq))
        obtain ⟨ρ2, k2, le2, ij2, l2⟩ := back_args c k1 (fun t ht ht' => ⟨hf t (by omega) ht', fun e => by omega⟩) (by simpa using hl) (fun t u z hu hz => hv (t + 1) u z (by simpa using hu) (by simpa using hz)) g3
          ⟨fun b hb => ⟨(hS.1 b (g5 b (.inr hb))).1, fun hl => by
            rcases l1 b hl with h | h | h
            · exact (hS.1 b (g5 b (.inr hb))).2 h
            · exact g4 b h hb
            · rcases hS.2 b (g5 b (.inr hb)) with h' | h'
              · exact h.1 h'
              · have := h.2; omega⟩, fun b hb => hS.2 b (g5 b (.inr hb))⟩ h2 (fun q hq => ho q (List.mem_append_right _ hq))
        rw [obs_append]
        refine ⟨ρ2, ⟨k2.sr.weaken fun t ht => ⟨⟨ht.1, fun e => ht.2 ⟨e.1, by omega⟩⟩, fun e => ht.2 ⟨by omega, e.2⟩⟩, k2.le, k2.li⟩, fun id p hp => le2 id p (le1 id p hp), by omega, fun b hb => ?_⟩
        rcases l2 b hb with h | h | h
        · rcases l1 b h with h | h | h
          · exact .inl h
          · exact .inr (.inl (g5 b (.inl h)))
          · exact .inr (.inr h)
        · exact .inr (.inl (g5 b (.inr h)))
        · exact .inr (.inr h)
      · cases he
    · cases he
end Go.OAI
