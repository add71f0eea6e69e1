/- How the evaluator's state lies in memory. -/
import Derived.Test.YtaiopbdbnellhaaA1
namespace Go.OAI
set_option linter.unusedVariables false

def cellAt (w : World) (b o : Nat) : Option Value := w.cell? ⟨b, o, none⟩

/-- The cells 'vs' hold the datum x, which is only read: all that it names lies in blocks of R. -/
def RT (w : World) (R : Nat → Prop) : (T : Ty) → List Value → T.den → Prop
  | .int k, vs, n => vs = [.int k n]
  | .bool, vs, b => vs = [.bool b]
  | .str, vs, s => vs = [.string s]
  | .slice t, vs, l => ∃ A cap, vs = [.slice A l.length cap] ∧ l.length ≤ cap ∧ (A = none → cap = 0) ∧
      ∀ i x, l[i]? = some x → ∃ b o us, A = some ⟨b, o, none⟩ ∧ R b ∧ us.length = t.cells ∧ RT w R t us x ∧ ∀ c u, us[c]? = some u → cellAt w b (o + (i * t.cells + c)) = some u
  | .pair a b, vs, x => ∃ us ws, vs = us ++ ws ∧ RT w R a us x.1 ∧ RT w R b ws x.2
  | .unit, vs, _ => vs = []

theorem RT.len {w : World} {R : Nat → Prop} : ∀ {T : Ty} {vs : List Value} {x : T.den}, RT w R T vs x → vs.length = T.cells
  | .int _, _, _, h | .bool, _, _, h | .str, _, _, h => by cases h; rfl
  | .slice _, _, _, h => by obtain ⟨_, _, rfl, _⟩ := h; rfl
  | .pair a b, _, _, h => by obtain ⟨us, ws, rfl, h1, h2⟩ := h; simp [Ty.cells, h1.len, h2.len]
  | .unit, _, _, h => by cases h; rfl

/-- Two worlds alike at the blocks of R. -/
def Same (R : Nat → Prop) (w w' : World) : Prop := ∀ b, R b → w'.heap[b]? = w.heap[b]?
theorem Same.cellAt {R : Nat → Prop} {w w' : World} (h : Same R w w') {b o : Nat} (hb : R b) : cellAt w' b o = cellAt w b o := by
  unfold Go.OAI.cellAt World.cell?; rw [h b hb]
theorem Same.refl (R : Nat → Prop) (w : World) : Same R w w := fun _ _ => rfl
theorem Same.trans {R : Nat → Prop} {w w' w'' : World} (h : Same R w w') (h' : Same R w' w'') : Same R w w'' := fun b hb => (h' b hb).trans (h b hb)
theorem Same.mono {R R' : Nat → Prop} {w w' : World} (h : Same R w w') (hr : ∀ b, R' b → R b) : Same R' w w' := fun b hb => h b (hr b hb)

theorem RT.mono {w w' : World} {R R' : Nat → Prop} (hs : Same R w w') (hr : ∀ b, R b → R' b) : ∀ {T : Ty} {vs : List Value} {x : T.den}, RT w R T vs x → RT w' R' T vs x
  | .int _, _, _, h | .bool, _, _, h | .str, _, _, h | .unit, _, _, h => h
  | .slice t, _, l, h => by
    obtain ⟨A, cap, h1, h2, h3, h4⟩ := h
    refine ⟨A, cap, h1, h2, h3, fun i x hx => ?_⟩
    obtain ⟨b, o, us, e1, e2, e3, e4, e5⟩ := h4 i x hx
    exact ⟨b, o, us, e1, hr b e2, e3, RT.mono hs hr e4, fun c u hu => by rw [hs.cellAt e2]; exact e5 c u hu⟩
  | .pair a b, _, _, h => by
    obtain ⟨us, ws, rfl, h1, h2⟩ := h
    exact ⟨us, ws, rfl, RT.mono hs hr h1, RT.mono hs hr h2⟩

/-- A plain value: a number, a bool, a string, a slice that is only read, nil. -/
def RA (w : World) (R : Nat → Prop) (v : Value) : AVal → Prop
  | .int k n => v = .int k n
  | .bool b => v = .bool b
  | .str s => v = .string s
  | .sl T l => RT w R (.slice T) [v] l
  | .nils => v = .slice none 0 0
  | _ => False
theorem RA.mono {w w' : World} {R R' : Nat → Prop} (hs : Same R w w') (hr : ∀ b, R b → R' b) {v : Value} {a : AVal} (h : RA w R v a) : RA w' R' v a := by
  cases a <;> simp only [RA] at h ⊢ <;> first | exact h | exact RT.mono hs hr h

/-- The cells of a datum, one by one. -/
theorem RT.flat {w : World} {R : Nat → Prop} : ∀ {T : Ty} {vs : List Value} {x : T.den}, RT w R T vs x → (T.flat x).length = vs.length ∧ ∀ (c : Nat) u a, vs[c]? = some u → (T.flat x)[c]? = some a → RA w R u a
  | .int _, _, _, h | .bool, _, _, h | .str, _, _, h => by
    cases h
    refine ⟨rfl, fun c u a hu ha => ?_⟩
    match c with
    | 0 => simp [Ty.flat] at hu ha; subst hu; subst ha; rfl
    | c + 1 => simp at hu
  | .slice t, _, l, h => by
    obtain ⟨A, cap, rfl, h'⟩ := id h
    refine ⟨rfl, fun c u a hu ha => ?_⟩
    match c with
    | 0 => simp [Ty.flat] at hu ha; subst hu; subst ha; exact h
    | c + 1 => simp at hu
  | .pair p q, _, x, h => by
    obtain ⟨us, ws, rfl, h1, h2⟩ := h
    obtain ⟨l1, f1⟩ := h1.flat
    obtain ⟨l2, f2⟩ := h2.flat
    refine ⟨by simp [Ty.flat, l1, l2], fun c u a hu ha => ?_⟩
    simp only [Ty.flat] at ha
    by_cases hc : c < us.length
    · rw [List.getElem?_append_left hc] at hu
      rw [List.getElem?_append_left (by omega)] at ha
      exact f1 c u a hu ha
    · rw [List.getElem?_append_right (by omega)] at hu ha
      rw [l1] at ha
      exact f2 _ u a hu ha
  | .unit, _, _, h => by cases h; exact ⟨rfl, fun c u a hu _ => by simp at hu⟩

/-! ### Where the frame's own objects lie -/
/-- A slice's place: its address, its capacity, the cells of an element. -/
structure SPl where
  A : Option Addr
  cap : Nat
  st : Nat
inductive Pl where
  | box (b off : Nat)
  | sl (S : SPl) (n : Nat)
  | mat (S : SPl) (n : Nat) (rows : Nat → SPl × Nat)

/-- The value of a slice (or of a window of it) at a place. -/
def WV (S : SPl) (n : Nat) (v : Value) : Option (Nat × Nat) → Prop
  | none => v = .slice S.A n S.cap
  | some (o, m) => o + m ≤ n ∧ ∃ A', v = .slice A' m (S.cap - o) ∧ (o < S.cap → A' = S.A.map (·.add (o * S.st)))

/-- The place of a slice, or of a row of a matrix. -/
def plS (p : Option Pl) (row : Option Nat) : Option (SPl × Nat) :=
  match p, row with
  | some (.sl S n), none => some (S, n)
  | some (.mat S n _), none => some (S, n)
  | some (.mat _ n rows), some i => if i < n then some (rows i) else none
  | _, _ => none

/-- A value, not a struct's nor several. -/
def CA (w : World) (R : Nat → Prop) (ρ : Nat → Option Pl) (v : Value) : AVal → Prop
  | .undef => v.oneCell' = true
  | .sref id row win => ∃ S n, plS (ρ id) row = some (S, n) ∧ WV S n v win
  | .ptr id c => ∃ b off, ρ id = some (.box b off) ∧ v = .pointer (some ⟨b, off + c, none⟩)
  | .eptr id row i c => ∃ S n b off, plS (ρ id) row = some (S, n) ∧ S.A = some ⟨b, off, none⟩ ∧ i < n ∧ v = .pointer (some ⟨b, off + (i * S.st + c), none⟩)
  | .vptr cs c => ∃ b off, v = .pointer (some ⟨b, off + c, none⟩) ∧ R b ∧ ∀ k x, cs[k]? = some x → ∃ u, cellAt w b (off + k) = some u ∧ RA w R u x
  | .fn f caps => caps = [] ∧ v = .func (.func f) #[] #[]
  | a => RA w R v a

theorem RT.unflat {w : World} {R : Nat → Prop} {ρ : Nat → Option Pl} : ∀ {T : Ty} {vs : List Value} {cs r : List AVal} {x : T.den}, T.unflat cs = some (x, r) → vs.length = cs.length →
    (∀ (c : Nat) u a, vs[c]? = some u → cs[c]? = some a → CA w R ρ u a) → RT w R T (vs.take T.cells) x ∧ T.cells ≤ cs.length ∧ r = cs.drop T.cells
  | .int k, v :: vs, .int k' n :: cs, r, x, h, hl, hr => by
    simp only [Ty.unflat] at h
    split at h
    · rename_i hk; cases h; subst hk
      have := hr 0 v _ rfl rfl
      simp only [CA, RA] at this
      exact ⟨by simp [Ty.cells, RT, this], by simp [Ty.cells], by simp [Ty.cells]⟩
    · cases h
  | .bool, v :: vs, .bool b :: cs, r, x, h, hl, hr => by
    cases h
    have := hr 0 v _ rfl rfl
    simp only [CA, RA] at this
    exact ⟨by simp [Ty.cells, RT, this], by simp [Ty.cells], by simp [Ty.cells]⟩
  | .str, v :: vs, .str b :: cs, r, x, h, hl, hr => by
    cases h
    have := hr 0 v _ rfl rfl
    simp only [CA, RA] at this
    exact ⟨by simp [Ty.cells, RT, this], by simp [Ty.cells], by simp [Ty.cells]⟩
  | .slice t, v :: vs, .sl t' l :: cs, r, x, h, hl, hr => by
    simp only [Ty.unflat] at h
    split at h
    · rename_i hk; cases h; subst hk
      have := hr 0 v _ rfl rfl
      exact ⟨by simpa [Ty.cells, Ty.castL, CA, RA] using this, by simp [Ty.cells], by simp [Ty.cells]⟩
    · cases h
  | .slice t, v :: vs, .nils :: cs, r, x, h, hl, hr => by
    cases h
    have := hr 0 v _ rfl rfl
    simp only [CA, RA] at this
    subst this
    exact ⟨⟨none, 0, by simp [Ty.cells], by simp, fun _ => rfl, fun i x hx => by simp at hx⟩, by simp [Ty.cells], by simp [Ty.cells]⟩
  | .pair a b, vs, cs, r, x, h, hl, hr => by
    simp only [Ty.unflat] at h
    split at h
    · rename_i x1 r1 h1
      split at h
      · rename_i x2 r2 h2
        cases h
        obtain ⟨e1, e2, e3⟩ := RT.unflat (ρ := ρ) (T := a) h1 hl hr
        subst e3
        obtain ⟨g1, g2, g3⟩ := RT.unflat (ρ := ρ) (T := b) (vs := vs.drop a.cells) h2 (by simp [hl]) (fun c u y hu hy => hr (a.cells + c) u y (by simpa using hu) (by simpa using hy))
        refine ⟨⟨vs.take a.cells, (vs.drop a.cells).take b.cells, ?_, e1, g1⟩, ?_, ?_⟩
        · simp only [Ty.cells]; rw [List.take_add]
        · simp [Ty.cells] at g2 ⊢; omega
        · rw [g3, List.drop_drop]; rfl
      · cases h
    · cases h
  | .unit, vs, cs, r, x, h, hl, hr => by cases h; exact ⟨by simp [Ty.cells, RT], by simp [Ty.cells], by simp [Ty.cells]⟩
  | .int _, _, [], _, _, h, _, _ | .bool, _, [], _, _, h, _, _ | .str, _, [], _, _, h, _, _ | .slice _, _, [], _, _, h, _, _ => by simp [Ty.unflat] at h
  | .int _, [], _ :: _, _, _, _, h, _ | .bool, [], _ :: _, _, _, _, h, _ | .str, [], _ :: _, _, _, _, h, _ | .slice _, [], _ :: _, _, _, _, h, _ => by simp at h

theorem WV.one {S : SPl} {n : Nat} {v : Value} : ∀ {win : Option (Nat × Nat)}, WV S n v win → v.oneCell' = true
  | none, h => by simp only [WV] at h; subst h; rfl
  | some (o, m), h => by simp only [WV] at h; obtain ⟨_, A', h, _⟩ := h; subst h; rfl
theorem CA.one {w : World} {R : Nat → Prop} {ρ : Nat → Option Pl} {v : Value} {a : AVal} (h : CA w R ρ v a) : v.oneCell' = true := by
  cases a <;> simp only [CA, RA] at h
  all_goals first
    | exact h
    | (subst h; rfl)
    | (obtain ⟨A, cap, h, _⟩ := h; cases h; rfl)
    | (obtain ⟨b, off, h, _⟩ := h; subst h; rfl)
    | (obtain ⟨b, off, _, h⟩ := h; subst h; rfl)
    | (obtain ⟨_, h⟩ := h; subst h; rfl)
    | (obtain ⟨S, n, b, off, _, _, _, h⟩ := h; subst h; rfl)
    | (obtain ⟨S, n, _, h⟩ := h; exact WV.one h)
def VA1 (w : World) (R : Nat → Prop) (ρ : Nat → Option Pl) (v : Value) : AVal → Prop
  | .undef => True
  | .agg cs => ∃ us : Array Value, v = .agg us ∧ us.size = cs.length ∧ ∀ (i : Nat) u x, us[i]? = some u → cs[i]? = some x → CA w R ρ u x
  | a => CA w R ρ v a
def VA (w : World) (R : Nat → Prop) (ρ : Nat → Option Pl) (v : Value) : AVal → Prop
  | .tup xs => ∃ us : Array Value, v = .tuple us ∧ us.size = xs.length ∧ ∀ (i : Nat) u x, us[i]? = some u → xs[i]? = some x → VA1 w R ρ u x
  | a => VA1 w R ρ v a

/-- A slice's content in memory of the frame's own. -/
def SlOwn (w : World) (R : Nat → Prop) (T : Ty) (S : SPl) (l : List T.den) : Prop :=
  S.st = T.cells ∧ l.length ≤ S.cap ∧ (S.cap ≠ 0 → ∃ b off arr E, S.A = some ⟨b, off, none⟩ ∧ w.heap[b]? = some (.cells arr E (0, 0)) ∧ off + S.cap * T.cells ≤ arr.size ∧
    ∀ i x, l[i]? = some x → ∃ us, RT w R T us x ∧ ∀ c u, us[c]? = some u → arr[off + (i * T.cells + c)]? = some u)
def SPl.blk (S : SPl) (b : Nat) : Prop := S.cap ≠ 0 ∧ ∃ off, S.A = some ⟨b, off, none⟩

/-- An object at its place. -/
def OA (w : World) (R : Nat → Prop) (ρ : Nat → Option Pl) (p : Pl) : Obj → Prop
  | .box cs => ∃ b off arr E, p = .box b off ∧ w.heap[b]? = some (.cells arr E (0, 0)) ∧ ∀ k x, cs[k]? = some x → ∃ u, arr[off + k]? = some u ∧ CA w R ρ u x
  | .sl T l => ∃ S, p = .sl S l.length ∧ SlOwn w R T S l
  | .mat T l => ∃ S rows, p = .mat S l.length rows ∧ S.st = 1 ∧ l.length ≤ S.cap ∧
      (S.cap ≠ 0 → ∃ b off arr E, S.A = some ⟨b, off, none⟩ ∧ w.heap[b]? = some (.cells arr E (0, 0)) ∧ off + S.cap ≤ arr.size ∧
        ∀ i r, l[i]? = some r → arr[off + i]? = some (.slice (rows i).1.A r.length (rows i).1.cap)) ∧
      (∀ i r, l[i]? = some r → (rows i).2 = r.length ∧ SlOwn w R T (rows i).1 r) ∧
      (∀ i j b, i < l.length → j < l.length → i ≠ j → (rows i).1.blk b → (rows j).1.blk b → False) ∧
      (∀ i b, i < l.length → S.blk b → (rows i).1.blk b → False)
/-- The blocks of an object. -/
def blkO (p : Pl) (b : Nat) : Prop :=
  match p with
  | .box b' _ => b' = b
  | .sl S _ => S.blk b
  | .mat S n rows => S.blk b ∨ ∃ i, i < n ∧ (rows i).1.blk b

/-- Nothing but memory moved; nothing is locked or freed. -/
def Quiet (w w' : World) : Prop := w'.os = w.os ∧ w'.output = w.output ∧ ∀ a, w'.frozen? a = w.frozen? a
theorem Quiet.refl (w : World) : Quiet w w := ⟨rfl, rfl, fun _ => rfl⟩
theorem Quiet.trans {w w' w'' : World} (h : Quiet w w') (h' : Quiet w' w'') : Quiet w w'' := ⟨h'.1.trans h.1, h'.2.1.trans h.2.1, fun a => (h'.2.2 a).trans (h.2.2 a)⟩
/-- What a frame was entered with: the world; the blocks that are only read. -/
structure W0 where
  w : World
  R : Nat → Prop
  par : Nat → Option Value := fun _ => none
/-- What holds while a frame runs: w0 the world in which it was entered; B its heap; Io the blocks that were handed to it with their memory. -/
structure SR (w0 : W0) (B : Nat) (Io : Nat → Prop) (R : Nat → Prop) (ρ : Nat → Option Pl) (Fr : Nat → Prop) (st : St) (a : Act) (w : World) : Prop where
  size : a.tmps.size = st.n
  dfr : a.defers = []
  tm : ∀ t, VA w R ρ (a.tmps.getD t undef) (st.tm t)
  ob : ∀ id o, st.ob id = some o → ∃ p, ρ id = some p ∧ OA w R ρ p o
  sep : ∀ id o id' o' p p' b, id ≠ id' → st.ob id = some o → st.ob id' = some o' → ρ id = some p → ρ id' = some p' → blkO p b → blkO p' b → False
  own : ∀ id o p b, st.ob id = some o → ρ id = some p → blkO p b → b < w.heap.size ∧ ¬ R b ∧ (B ≤ b ∨ Io b)
  rlt : ∀ b, R b → b < w.heap.size
  frame : ∀ b, b < B → ¬ Io b → w.heap[b]? = w0.w.heap[b]?
  size0 : B ≤ w.heap.size
  fr : ∀ i, Fr i → ρ i = none
  r0 : ∀ b, w0.R b → R b
  q : Quiet w0.w w
  par : ∀ k v, k ∈ st.pr → w0.par k = some v → a.tmps.getD k undef = v
  r1 : ∀ b, R b → w0.R b ∨ (B ≤ b ∨ Io b)
end Go.OAI
