/- What is handed over at a call and back: how it lies in memory, apart from any frame. -/
import Derived.Test.YtaiopbdbnellhaaB7
namespace Go.OAI
set_option linter.unusedVariables false

variable {P : Program} {w0 : W0} {w w' : World} {B : Nat} {Io R R2 : Nat → Prop} {ρ : Nat → Option Pl} {Fr : Nat → Prop} {st s : St} {a : Act}

/-- A cell that is handed over; what is handed over with its memory lies in blocks of S. -/
def CT (w : World) (R : Nat → Prop) (v : Value) (S : Nat → Prop) : AVal → Prop
  | .osl T l => ∃ Sp : SPl, v = .slice Sp.A l.length Sp.cap ∧ SlOwn w R T Sp l ∧ ∀ b, Sp.blk b → S b
  | .omat T l => ∃ Sp rows, v = .slice Sp.A l.length Sp.cap ∧ OA w R (fun _ => none) (.mat Sp l.length rows) (.mat T l) ∧ ∀ b, blkO (.mat Sp l.length rows) b → S b
  | x => RA w R v x

/-- Several cells, their memories apart. -/
def CTs (w : World) (R : Nat → Prop) (vs : Nat → Option Value) (cs : List AVal) (S : Nat → Prop) : Prop :=
  ∃ Ss : Nat → Nat → Prop, (∀ (i : Nat) x, cs[i]? = some x → ∃ u, vs i = some u ∧ CT w R u (Ss i) x) ∧ (∀ i j b, i ≠ j → Ss i b → Ss j b → False) ∧ ∀ i b, Ss i b → S b

/-- An argument or a result. -/
def AT (w : World) (R : Nat → Prop) (v : Value) (S : Nat → Prop) : AVal → Prop
  | .agg cs => ∃ us : Array Value, v = .agg us ∧ us.size = cs.length ∧ CTs w R (fun i => us[i]?) cs S
  | .obox cs => ∃ b off arr E, v = .pointer (some ⟨b, off, none⟩) ∧ w.heap[b]? = some (.cells arr E (0, 0)) ∧ S b ∧ ∃ S', CTs w R (fun i => arr[off + i]?) cs S' ∧ ¬ S' b ∧ ∀ b', S' b' → S b'
  | .undef => True      -- given up
  | x => CT w R v S x

theorem ct_ra {v : Value} {S : Nat → Prop} (x : AVal) (h1 : ∀ T l, x ≠ .osl T l) (h2 : ∀ T l, x ≠ .omat T l) : CT w R v S x = RA w R v x := by
  cases x <;> first | rfl | exact absurd rfl (h1 _ _) | exact absurd rfl (h2 _ _)
theorem at_ct {v : Value} {S : Nat → Prop} (x : AVal) (h1 : ∀ cs, x ≠ .agg cs) (h2 : ∀ cs, x ≠ .obox cs) (h3 : x ≠ .undef) : AT w R v S x = CT w R v S x := by
  cases x <;> first | rfl | exact absurd rfl (h1 _) | exact absurd rfl (h2 _) | exact absurd rfl h3
theorem RA.ct {v : Value} {S : Nat → Prop} {x : AVal} (h : RA w R v x) : CT w R v S x := by
  cases x <;> first | exact h | (simp only [RA] at h)
theorem CT.mono (hs : Same R w w') (hr : ∀ b, R b → R2 b) {v : Value} {S : Nat → Prop} {x : AVal} (hS : ∀ b, S b → w'.heap[b]? = w.heap[b]?) (h : CT w R v S x) : CT w' R2 v S x := by
  cases x
  case osl =>
    obtain ⟨Sp, h1, h2, h3⟩ := h
    exact ⟨Sp, h1, h2.mono hs hr (fun b hb => hS b (h3 b hb)), h3⟩
  case omat =>
    obtain ⟨Sp, rows, h1, h2, h3⟩ := h
    exact ⟨Sp, rows, h1, h2.mono hs hr (.refl _) (fun b hb => hS b (h3 b hb)), h3⟩
  all_goals
    rw [ct_ra _ (by simp) (by simp)] at h ⊢
    exact RA.mono hs hr h
theorem CT.sub {v : Value} {S S' : Nat → Prop} {x : AVal} (hS : ∀ b, S b → S' b) (h : CT w R v S x) : CT w R v S' x := by
  cases x <;> first
    | exact h
    | skip
  · obtain ⟨Sp, h1, h2, h3⟩ := h
    exact ⟨Sp, h1, h2, fun b hb => hS b (h3 b hb)⟩
  · obtain ⟨Sp, rows, h1, h2, h3⟩ := h
    exact ⟨Sp, rows, h1, h2, fun b hb => hS b (h3 b hb)⟩
theorem CTs.mono (hs : Same R w w') (hr : ∀ b, R b → R2 b) {vs : Nat → Option Value} {S : Nat → Prop} {cs : List AVal} (hS : ∀ b, S b → w'.heap[b]? = w.heap[b]?) (h : CTs w R vs cs S) : CTs w' R2 vs cs S := by
  obtain ⟨Ss, h1, h2, h3⟩ := h
  refine ⟨Ss, fun i x hx => ?_, h2, h3⟩
  obtain ⟨u, g1, g2⟩ := h1 i x hx
  exact ⟨u, g1, g2.mono hs hr (fun b hb => hS b (h3 i b hb))⟩
theorem AT.mono (hs : Same R w w') (hr : ∀ b, R b → R2 b) {v : Value} {S : Nat → Prop} {x : AVal} (hS : ∀ b, S b → w'.heap[b]? = w.heap[b]?) (h : AT w R v S x) : AT w' R2 v S x := by
  cases x
  case agg =>
    obtain ⟨us, h1, h2, h3⟩ := h
    exact ⟨us, h1, h2, h3.mono hs hr hS⟩
  case obox =>
    obtain ⟨b, off, arr, E, h1, h2, h3, S', h4, h5, h6⟩ := h
    exact ⟨b, off, arr, E, h1, by rw [hS b h3]; exact h2, h3, S', h4.mono hs hr (fun b' hb' => hS b' (h6 b' hb')), h5, h6⟩
  case undef => exact trivial
  all_goals
    rw [at_ct _ (by simp) (by simp) (by simp)] at h ⊢
    exact CT.mono hs hr hS h

/-! ### Out of a frame -/
/-- A window of a slice with its memory. -/
theorem SlOwn.window {T : Ty} {S : SPl} {l : List T.den} {v : Value} {win : Option (Nat × Nat)} {n : Nat} (h : SlOwn w R T S l) (hn : n = l.length) (hw : WV S n v win) :
    ∃ S' : SPl, v = .slice S'.A (winL win l).length S'.cap ∧ SlOwn w R T S' (winL win l) ∧ ∀ b, S'.blk b → S.blk b := by
  obtain ⟨A', q1, q2, q3⟩ := hw.open (c := l) hn
  have hwl := winL_le hw (c := l) hn
  obtain ⟨h1, h2, h3⟩ := h
  refine ⟨⟨A', S.cap - winOff win, S.st⟩, q1, ⟨h1, by show _ ≤ S.cap - winOff win; omega, fun hc => ?_⟩, fun b hb => ?_⟩
  · have hc : S.cap - winOff win ≠ 0 := hc
    obtain ⟨b, off, arr, E, e1, e2, e3, e4⟩ := h3 (by omega)
    have hcap : winOff win * T.cells + (S.cap - winOff win) * T.cells = S.cap * T.cells := by rw [← Nat.add_mul]; congr 1; omega
    refine ⟨b, off + winOff win * T.cells, arr, E, ?_, e2, ?_, fun j x hx => ?_⟩
    · show A' = _
      rw [q3 (by omega), e1, h1]; simp [add_none]
    · show off + winOff win * T.cells + (S.cap - winOff win) * T.cells ≤ arr.size
      omega
    · have hx' : l[winOff win + j]? = some x := by
        cases win with
        | none => simpa [winL, winOff] using hx
        | some p =>
          obtain ⟨o', n'⟩ := p
          simp only [winL, winOff] at hx ⊢
          have hj := lt_of_get hx
          rw [List.getElem?_take_of_lt (by simp at hj; omega), List.getElem?_drop] at hx
          exact hx
      obtain ⟨us, g1, g2⟩ := e4 _ x hx'
      refine ⟨us, g1, fun c u hu => ?_⟩
      have := g2 c u hu
      rw [Nat.add_mul] at this
      rw [show off + winOff win * T.cells + (j * T.cells + c) = off + (winOff win * T.cells + j * T.cells + c) by omega]
      exact this
  · obtain ⟨hc, off, e⟩ := hb
    have hc : S.cap - winOff win ≠ 0 := hc
    have e : A' = _ := e
    obtain ⟨b', off', arr, E, e1, _⟩ := h3 (by omega)
    rw [q3 (by omega), e1] at e
    simp [add_none] at e
    exact ⟨by omega, off', by rw [e1, e.1]⟩

/-- A slice whose memory is only read from now on. -/
theorem SlOwn.toRT {T : Ty} {S : SPl} {l : List T.den} (h : SlOwn w R T S l) (hr : ∀ b, R b → R2 b) (hb : ∀ b, S.blk b → R2 b) : RT w R2 (.slice T) [.slice S.A l.length S.cap] l := by
  obtain ⟨h1, h2, h3⟩ := h
  refine ⟨S.A, S.cap, rfl, h2, fun hA => ?_, fun i x hx => ?_⟩
  · by_cases hc : S.cap = 0
    · exact hc
    · obtain ⟨b, off, arr, E, e1, _⟩ := h3 hc
      rw [e1] at hA; cases hA
  · have hc : S.cap ≠ 0 := by have := lt_of_get hx; omega
    obtain ⟨b, off, arr, E, e1, e2, e3, e4⟩ := h3 hc
    obtain ⟨us, g1, g2⟩ := e4 i x hx
    exact ⟨b, off, us, e1, hb b ⟨hc, off, e1⟩, g1.len, g1.mono (.refl _ _) hr, fun c u hu => by rw [cellAt_of e2]; exact g2 c u hu⟩
theorem mat_toRT {T : Ty} {S : SPl} {rows : Nat → SPl × Nat} {l : List (List T.den)} (h : OA w R ρ (.mat S l.length rows) (.mat T l)) (hr : ∀ b, R b → R2 b) (hb : ∀ b, blkO (.mat S l.length rows) b → R2 b) {v : Value} {win : Option (Nat × Nat)} (hw : WV S l.length v win) :
    RT w R2 (.slice (.slice T)) [v] (winL win l) := by
  obtain ⟨S', rows', e, m1, m2, m3, m4, m5, m6⟩ := h
  cases e
  obtain ⟨A', q1, q2, q3⟩ := hw.open (c := l) rfl
  refine ⟨A', S.cap - winOff win, by rw [q1], by omega, fun hA => ?_, fun i x hx => ?_⟩
  · by_cases hc : winOff win < S.cap
    · obtain ⟨b, off, arr, E, e1, _⟩ := m3 (by omega)
      rw [q3 hc, e1] at hA; cases hA
    · omega
  · have hx' : l[winOff win + i]? = some x := by
      cases win with
      | none => simpa [winL, winOff] using hx
      | some p =>
        obtain ⟨o', n'⟩ := p
        simp only [winL, winOff] at hx ⊢
        have hj := lt_of_get hx
        rw [List.getElem?_take_of_lt (by simp at hj; omega), List.getElem?_drop] at hx
        exact hx
    have hlt := lt_of_get hx'
    obtain ⟨b, off, arr, E, e1, e2, e3, e4⟩ := m3 (by omega)
    obtain ⟨g1, g2⟩ := m4 _ x hx'
    have hrow := g2.toRT hr (fun b' hb' => hb b' (Or.inr ⟨_, hlt, hb'⟩))
    refine ⟨b, off + winOff win, [.slice (rows (winOff win + i)).1.A x.length (rows (winOff win + i)).1.cap], ?_, hb b (Or.inl ⟨by omega, off, e1⟩), rfl, hrow, fun c u hu => ?_⟩
    · rw [q3 (by omega), e1, m1]; simp [add_none]
    · match c with
      | 0 =>
        simp at hu; subst hu
        rw [cellAt_of e2]
        have := e4 _ x hx'
        rw [show off + winOff win + (i * Ty.cells (.slice T) + 0) = off + (winOff win + i) by simp [Ty.cells]; omega]
        exact this
      | c + 1 => simp at hu

/-- The blocks of an object that a cell names. -/
def cellBlk (ρ : Nat → Option Pl) (x : AVal) (b : Nat) : Prop :=
  match x with
  | .sref id row _ => match row with
    | none => ∃ p, ρ id = some p ∧ blkO p b
    | some _ => ∃ S n, plS (ρ id) row = some (S, n) ∧ S.blk b
  | _ => False

theorem resCell_own (h : SR w0 B Io R ρ Fr st a w) {v : Value} {x y : AVal} (hv : CA w R ρ v x) (he : resCell st true x = some y) : CT w R v (cellBlk ρ x) y := by
  cases x <;> simp only [resCell] at he
  all_goals first
    | (cases he; done)
    | (cases he; exact RA.ct hv)
    | skip
  rename_i id row win
  obtain ⟨S, n, hp, hw⟩ := hv
  split at he
  · rename_i T l hob
    obtain ⟨q, hq, hoa⟩ := h.ob id _ hob
    obtain ⟨S', rfl, hown⟩ := hoa
    split at he
    · cases he
      rw [hq] at hp; simp only [plS] at hp; cases hp
      obtain ⟨S2, g1, g2, g3⟩ := hown.window rfl hw
      exact ⟨S2, g1, g2, fun b hb => ⟨_, hq, g3 b hb⟩⟩
    · cases he
  · rename_i T l hob
    obtain ⟨q, hq, hoa⟩ := h.ob id _ hob
    have hoa0 := hoa
    obtain ⟨S', rows, rfl, m1, m2, m3, m4, m5, m6⟩ := hoa
    split at he
    · split at he
      · cases he
        rw [hq] at hp; simp only [plS] at hp; cases hp
        exact ⟨S, rows, hw, ⟨S, rows, rfl, m1, m2, m3, m4, m5, m6⟩, fun b hb => ⟨_, hq, hb⟩⟩
      · cases he
    · rename_i i
      cases he
      have hp0 := hp
      rw [hq] at hp; simp only [plS] at hp
      split at hp
      · rename_i hi
        have hp' := Option.some.inj hp
        obtain ⟨rfl, rfl⟩ : S = (rows i).1 ∧ n = (rows i).2 := by rw [hp']; exact ⟨rfl, rfl⟩
        obtain ⟨g1, g2⟩ := m4 i _ (List.getElem?_eq_getElem hi)
        have ei : l.getD i [] = l[i] := by simp [List.getD, List.getElem?_eq_getElem hi]
        rw [ei]
        obtain ⟨S2, q1, q2, q3⟩ := g2.window g1 hw
        exact ⟨S2, q1, q2, fun b hb => ⟨_, _, hp0, q3 b hb⟩⟩
      · cases hp
  · cases he

theorem resCell_ro (h : SR w0 B Io R ρ Fr st a w) {v : Value} {x y : AVal} (hv : CA w R ρ v x) (he : resCell st false x = some y) (hr : ∀ b, R b → R2 b) (hb : ∀ b, cellBlk ρ x b → R2 b) : RA w R2 v y := by
  cases x <;> simp only [resCell] at he
  all_goals first
    | (cases he; done)
    | (cases he; exact RA.mono (.refl _ _) hr hv)
    | skip
  rename_i id row win
  obtain ⟨S, n, hp, hw⟩ := hv
  split at he
  · rename_i T c hf
    cases he
    unfold full at hf
    split at hf
    · rename_i T l hob
      obtain ⟨q, hq, hoa⟩ := h.ob id _ hob
      obtain ⟨S', rfl, hown⟩ := hoa
      split at hf
      · cases hf
        rw [hq] at hp; simp only [plS] at hp; cases hp
        obtain ⟨S2, g1, g2, g3⟩ := hown.window rfl hw
        show RT _ _ _ _ _
        rw [g1]
        exact g2.toRT hr (fun b hb' => hb b ⟨_, hq, g3 b hb'⟩)
      · cases hf
    · rename_i T l hob
      obtain ⟨q, hq, hoa⟩ := h.ob id _ hob
      have hoa0 := hoa
      obtain ⟨S', rows, rfl, m1, m2, m3, m4, m5, m6⟩ := hoa
      split at hf
      · cases hf
        rw [hq] at hp; simp only [plS] at hp; cases hp
        exact mat_toRT hoa0 hr (fun b hb' => hb b ⟨_, hq, hb'⟩) hw
      · rename_i i
        cases hf
        have hp0 := hp
        rw [hq] at hp; simp only [plS] at hp
        split at hp
        · rename_i hi
          have hp' := Option.some.inj hp
          obtain ⟨rfl, rfl⟩ : S = (rows i).1 ∧ n = (rows i).2 := by rw [hp']; exact ⟨rfl, rfl⟩
          obtain ⟨g1, g2⟩ := m4 i _ (List.getElem?_eq_getElem hi)
          have ei : l.getD i [] = l[i] := by simp [List.getD, List.getElem?_eq_getElem hi]
          rw [ei]
          obtain ⟨S2, q1, q2, q3⟩ := g2.window g1 hw
          show RT _ _ _ _ _
          rw [q1]
          exact q2.toRT hr (fun b hb' => hb b ⟨_, _, hp0, q3 b hb'⟩)
        · cases hp
    · cases hf
  · cases he
end Go.OAI
