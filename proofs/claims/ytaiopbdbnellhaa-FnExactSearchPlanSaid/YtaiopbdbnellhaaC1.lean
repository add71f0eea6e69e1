/- Calls: what comes back. -/
import Derived.Test.YtaiopbdbnellhaaC0
namespace Go.OAI
set_option linter.unusedVariables false

variable {P : Program} {w0 : W0} {w w' : World} {B : Nat} {Io Io2 R R2 R3 : Nat → Prop} {ρ ρk : Nat → Option Pl} {Fr Frk : Nat → Prop} {st stk : St} {a : Act}

/-- What each block of a live object is, behind a call: of memory that came back, or as it was. -/
def LInv (st : St) (ρ : Nat → Option Pl) (Io2 : Nat → Prop) (z : Nat) (stk : St) (ρk : Nat → Option Pl) : Prop :=
  ∀ id o p b, stk.ob id = some o → ρk id = some p → blkO p b → (Io2 b ∨ z ≤ b) ∨ (¬ Io2 b ∧ ∃ o p, st.ob id = some o ∧ ρ id = some p ∧ blkO p b)

/-- How things stand behind a call, while what came back is laid in. -/
structure Bk (w0 : W0) (B : Nat) (Io : Nat → Prop) (R : Nat → Prop) (ρ : Nat → Option Pl) (st : St) (a : Act) (w w' : World) (Io2 R3 : Nat → Prop) (ρk : Nat → Option Pl) (Frk : Nat → Prop) (stk : St) : Prop where
  sr : SR w0 B Io R3 ρk Frk stk a w'
  le : Leρ ρ ρk
  li : LInv st ρ Io2 w.heap.size stk ρk

structure Ctx (w0 : W0) (B : Nat) (Io : Nat → Prop) (R : Nat → Prop) (ρ : Nat → Option Pl) (Fr : Nat → Prop) (st : St) (a : Act) (w w' : World) (Io2 R3 : Nat → Prop) : Prop where
  sr : SR w0 B Io R ρ Fr st a w
  rr : ∀ b, R b → R3 b
  same : ∀ b, b < w.heap.size → ¬ Io2 b → w'.heap[b]? = w.heap[b]?
  size : w.heap.size ≤ w'.heap.size
  ioR : ∀ b, Io2 b → ¬ R b
  r3 : ∀ b, R3 b → R b ∨ (Io2 b ∨ w.heap.size ≤ b)

/-- What may be laid in now. -/
def Now (Io2 : Nat → Prop) (z : Nat) (R3 : Nat → Prop) (B : Nat) (Io : Nat → Prop) (stk : St) (ρk : Nat → Option Pl) (w' : World) (S : Nat → Prop) : Prop :=
  Fits R3 B Io stk ρk w' S ∧ ∀ b, S b → Io2 b ∨ z ≤ b

theorem back_cell (c : Ctx w0 B Io R ρ Fr st a w w' Io2 R3) (k : Bk w0 B Io R ρ st a w w' Io2 R3 ρk Frk stk) {v : Value} {x y : AVal} {S : Nat → Prop} (hx : CA w R ρ v x) (hy : CT w' R3 v S y) (hS : Now Io2 w.heap.size R3 B Io stk ρk w' S)
    {os : List (Nat × Option Obj)} (he : backCell st x y = some os) (hoth : ∀ q ∈ ownIds [x], st.ob q.1 ≠ none → ∀ p b, ρ q.1 = some p → blkO p b → ¬ blkR st ρ q b → ¬ Io2 b) :
    Bk w0 B Io R ρ st a w w' Io2 R3 ρk Frk (stk.obs os) ∧ ∀ b, Live (stk.obs os) ρk b → Live stk ρk b ∨ S b ∨ (¬ Io2 b ∧ b < w.heap.size) := by
  have nil : Bk w0 B Io R ρ st a w w' Io2 R3 ρk Frk (stk.obs []) ∧ ∀ b, Live (stk.obs []) ρk b → Live stk ρk b ∨ S b ∨ (¬ Io2 b ∧ b < w.heap.size) := ⟨k, fun b h => .inl h⟩
  unfold backCell at he
  split at he
  · rename_i id T l
    split at he
    · rename_i U l0 hob
      split at he
      · rename_i hTU
        have hTU := of_decide_eq_true hTU
        subst hTU
        cases he
        obtain ⟨S1, n, hp, hw⟩ := hx
        obtain ⟨p, hp', hoa⟩ := c.sr.ob id _ hob
        obtain ⟨S2, rfl, hown⟩ := hoa
        rw [hp'] at hp; simp only [plS] at hp; cases hp
        obtain ⟨Sp, q1, q2, q3⟩ := hy
        have hw : v = .slice S1.A l0.length S1.cap := hw
        rw [hw] at q1
        simp only [Value.slice.injEq] at q1
        obtain ⟨a1, a2, a3⟩ := q1
        have hSp : Sp = S1 := by
          cases Sp; cases S1; simp only at a1 a3
          have b1 := q2.1
          have b2 := hown.1
          simp only at b1 b2
          simp [a1, a3, b1, b2]
        subst hSp
        have hren := k.sr.renew (id := id) (o := .sl T l) (k.le id _ hp') ⟨Sp, by rw [a2], q2⟩ (fun b hb => (hS.1 b (q3 b hb)).1) (fun id' o' p' b hne h1 h2 h3 h4 => (hS.1 b (q3 b h3)).2 ⟨id', o', p', h1, h2, h4⟩)
        refine ⟨⟨hren, k.le, fun id' o' p' b h1 h2 h3 => ?_⟩, fun b hb => ?_⟩
        · by_cases e : id' = id
          · subst e
            rw [k.le id' _ hp'] at h2; cases h2
            exact .inl (hS.2 b (q3 b h3))
          · simp only [obs_one, e, if_false] at h1
            exact k.li id' o' p' b h1 h2 h3
        · obtain ⟨id', o', p', h1, h2, h3⟩ := hb
          by_cases e : id' = id
          · subst e
            rw [k.le id' _ hp'] at h2; cases h2
            exact .inr (.inl (q3 b h3))
          · simp only [obs_one, e, if_false] at h1
            exact .inl ⟨id', o', p', h1, h2, h3⟩
      · cases he
    · cases he
  · cases he; exact nil
  · rename_i id i T l
    split at he
    · rename_i T' m hob
      split at he
      · rename_i hT
        subst hT
        cases he
        obtain ⟨S1, n, hp, hw⟩ := hx
        obtain ⟨p, hp', hoa⟩ := c.sr.ob id _ hob
        obtain ⟨S2, rows, rfl, m1, m2, m3, m4, m5, m6⟩ := hoa
        have hp0 := hp
        rw [hp'] at hp; simp only [plS] at hp
        split at hp
        · rename_i hi
          have hpi := Option.some.inj hp
          obtain ⟨rfl, rfl⟩ : S1 = (rows i).1 ∧ n = (rows i).2 := by rw [hpi]; exact ⟨rfl, rfl⟩
          obtain ⟨g1, g2⟩ := m4 i _ (List.getElem?_eq_getElem hi)
          obtain ⟨Sp, q1, q2, q3⟩ := hy
          have hw : v = .slice (rows i).1.A (rows i).2 (rows i).1.cap := hw
          rw [hw] at q1
          simp only [Value.slice.injEq] at q1
          obtain ⟨a1, a2, a3⟩ := q1
          have hSp : Sp = (rows i).1 := by
            have b1 := q2.1
            have b2 := g2.1
            generalize (rows i).1 = Z at *
            cases Sp; cases Z; simp only at a1 a3 b1 b2
            simp [a1, a3, b1, b2]
          subst hSp
          have hoth' : ∀ b, blkO (.mat S2 m.length rows) b → ¬ (rows i).1.blk b → ¬ Io2 b := fun b hb hnb =>
            hoth (id, some i) (by simp [ownIds]) (by rw [hob]; simp) _ b hp' hb (fun ⟨_, S', n', e1, e2⟩ => hnb (by
              have e1 : plS (ρ id) (some i) = some (S', n') := e1
              rw [hp0] at e1; cases e1; exact e2))
          have hlt : ∀ b, blkO (.mat S2 m.length rows) b → b < w.heap.size ∧ ¬ R b ∧ (B ≤ b ∨ Io b) := fun b hb => c.sr.own id _ _ b hob hp' hb
          have hsameR : Same R w w' := fun b hb => c.same b (c.sr.rlt b hb) fun hio => c.ioR b hio hb
          have hrow : ∀ j, j < m.length → j ≠ i → ∀ b, (rows j).1.blk b → w'.heap[b]? = w.heap[b]? := fun j hj hne b hb =>
            c.same b (hlt b (.inr ⟨j, hj, hb⟩)).1 (hoth' b (.inr ⟨j, hj, hb⟩) fun h => m5 j i b hj hi hne hb h)
          have hren := k.sr.renew (id := id) (o := .mat T (m.set i l)) (k.le id _ hp') (by
            refine ⟨S2, rows, by simp, m1, by simpa using m2, fun hc => ?_, fun j r hr => ?_, by simpa using m5, by simpa using m6⟩
            · obtain ⟨b, off, arr, E, e1, e2, e3, e4⟩ := m3 hc
              have hblk : S2.blk b := ⟨hc, off, e1⟩
              refine ⟨b, off, arr, E, e1, ?_, e3, fun j r hr => ?_⟩
              · rw [c.same b (hlt b (.inl hblk)).1 (hoth' b (.inl hblk) fun h => m6 i b hi hblk h)]; exact e2
              · by_cases hji : j = i
                · subst hji
                  rw [List.getElem?_set_self hi] at hr; cases hr
                  have := e4 j _ (List.getElem?_eq_getElem hi)
                  rw [this, ← g1, a2]
                · rw [List.getElem?_set_ne (Ne.symm hji)] at hr
                  exact e4 j r hr
            · by_cases hji : j = i
              · subst hji
                rw [List.getElem?_set_self hi] at hr; cases hr
                exact ⟨a2, q2⟩
              · rw [List.getElem?_set_ne (Ne.symm hji)] at hr
                obtain ⟨z1, z2⟩ := m4 j r hr
                exact ⟨z1, z2.mono hsameR c.rr (hrow j (lt_of_get hr) hji)⟩) (fun b hb => by
            by_cases hbr : (rows i).1.blk b
            · exact (hS.1 b (q3 b hbr)).1
            · obtain ⟨z1, z2, z3⟩ := hlt b hb
              refine ⟨Nat.lt_of_lt_of_le z1 c.size, fun h3 => ?_, z3⟩
              rcases c.r3 b h3 with h | h | h
              · exact z2 h
              · exact hoth' b hb hbr h
              · omega) (fun id' o' p' b hne h1 h2 h3 h4 => by
            by_cases hbr : (rows i).1.blk b
            · exact (hS.1 b (q3 b hbr)).2 ⟨id', o', p', h1, h2, h4⟩
            · have hnio := hoth' b h3 hbr
              have hb1 := (hlt b h3).1
              rcases k.li id' o' p' b h1 h2 h4 with (h | h) | ⟨_, o2, p2, f1, f2, f3⟩
              · exact hnio h
              · omega
              · exact c.sr.sep id' o2 id _ p2 _ b hne f1 hob f2 hp' f3 h3)
          have key : ∀ b, blkO (.mat S2 m.length rows) b → S b ∨ (¬ Io2 b ∧ b < w.heap.size) := fun b hb => by
            by_cases hbr : (rows i).1.blk b
            · exact .inl (q3 b hbr)
            · exact .inr ⟨hoth' b hb hbr, (hlt b hb).1⟩
          refine ⟨⟨hren, k.le, fun id' o' p' b h1 h2 h3 => ?_⟩, fun b hb => ?_⟩
          · by_cases e : id' = id
            · subst e
              rw [k.le id' _ hp'] at h2; cases h2
              rcases key b h3 with h | h
              · exact .inl (hS.2 b h)
              · exact .inr ⟨h.1, _, _, hob, hp', h3⟩
            · simp only [obs_one, e, if_false] at h1
              exact k.li id' o' p' b h1 h2 h3
          · obtain ⟨id', o', p', h1, h2, h3⟩ := hb
            by_cases e : id' = id
            · subst e
              rw [k.le id' _ hp'] at h2; cases h2
              exact .inr (key b h3)
            · simp only [obs_one, e, if_false] at h1
              exact .inl ⟨id', o', p', h1, h2, h3⟩
        · cases hp
      · cases he
    · cases he
  · cases he
  · cases he; exact nil
end Go.OAI
