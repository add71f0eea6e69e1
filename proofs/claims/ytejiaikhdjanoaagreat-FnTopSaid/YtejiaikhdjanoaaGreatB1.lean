/- How the evaluator's state lies in memory. Small laws: what stays when the world grows; one value laid into a slot; one object made, changed or ended. -/
import Derived.Test.YtejiaikhdjanoaaGreatA1
namespace Go.OAI
set_option linter.unusedVariables false
def cellAt (w : World) (b o : Nat) : Option Value := w.cell? ⟨b, o, none⟩
def RT (w : World) (R : Nat → Prop) : (T : Ty) → List Value → T.den → Prop
  | .int k, vs, n => vs = [.int k n]
  | .bool, vs, b => vs = [.bool b]
  | .str, vs, s => vs = [.string s]
  | .slice t, vs, l => ∃ A cap, vs = [.slice A l.length cap] ∧ l.length ≤ cap ∧ (A = none → cap = 0) ∧
      ∀ i x, l[i]? = some x → ∃ b o us, A = some ⟨b, o, none⟩ ∧ R b ∧ us.length = t.cells ∧ RT w R t us x ∧ ∀ c u, us[c]? = some u → cellAt w b (o + (i * t.cells + c)) = some u
  | .pair a b, vs, x => ∃ us ws, vs = us ++ ws ∧ RT w R a us x.1 ∧ RT w R b ws x.2
  | .unit, vs, _ => vs = []
theorem RT.len {w : World} {R : Nat → Prop} : ∀ {T : Ty} {vs : List Value} {x : T.den}, RT w R T vs x → vs.length = T.cells
  | .int _, _, _, h | .bool, _, _, h | .str, _, _, h => by cases h; rfl
  | .slice _, _, _, h => by obtain ⟨_, _, rfl, _⟩ := h; rfl
  | .pair a b, _, _, h => by obtain ⟨us, ws, rfl, h1, h2⟩ := h; simp [Ty.cells, h1.len, h2.len]
  | .unit, _, _, h => by cases h; rfl
def Same (R : Nat → Prop) (w w' : World) : Prop := ∀ b, R b → w'.heap[b]? = w.heap[b]?
theorem Same.cellAt {R : Nat → Prop} {w w' : World} (h : Same R w w') {b o : Nat} (hb : R b) : cellAt w' b o = cellAt w b o := by
  unfold Go.OAI.cellAt World.cell?; rw [h b hb]
theorem Same.refl (R : Nat → Prop) (w : World) : Same R w w := fun _ _ => rfl
theorem RT.mono {w w' : World} {R R' : Nat → Prop} (hs : Same R w w') (hr : ∀ b, R b → R' b) : ∀ {T : Ty} {vs : List Value} {x : T.den}, RT w R T vs x → RT w' R' T vs x
  | .int _, _, _, h | .bool, _, _, h | .str, _, _, h | .unit, _, _, h => h
  | .slice t, _, l, h => by
    obtain ⟨A, cap, h1, h2, h3, h4⟩ := h
    refine ⟨A, cap, h1, h2, h3, fun i x hx => ?_⟩
    obtain ⟨b, o, us, e1, e2, e3, e4, e5⟩ := h4 i x hx
    exact ⟨b, o, us, e1, hr b e2, e3, RT.mono hs hr e4, fun c u hu => by rw [hs.cellAt e2]; exact e5 c u hu⟩
  | .pair a b, _, _, h => by
    obtain ⟨us, ws, rfl, h1, h2⟩ := h
    exact ⟨us, ws, rfl, RT.mono hs hr h1, RT.mono hs hr h2⟩
def RA (w : World) (R : Nat → Prop) (v : Value) : AVal → Prop
  | .int k n => v = .int k n
  | .bool b => v = .bool b
  | .str s => v = .string s
  | .sl T l => RT w R (.slice T) [v] l
  | .nils => v = .slice none 0 0
  | _ => False
theorem RA.mono {w w' : World} {R R' : Nat → Prop} (hs : Same R w w') (hr : ∀ b, R b → R' b) {v : Value} {a : AVal} (h : RA w R v a) : RA w' R' v a := by
  cases a <;> simp only [RA] at h ⊢ <;> first | exact h | exact RT.mono hs hr h
theorem RT.flat {w : World} {R : Nat → Prop} : ∀ {T : Ty} {vs : List Value} {x : T.den}, RT w R T vs x → (T.flat x).length = vs.length ∧ ∀ (c : Nat) u a, vs[c]? = some u → (T.flat x)[c]? = some a → RA w R u a
  | .int _, _, _, h | .bool, _, _, h | .str, _, _, h => by
    cases h
    refine ⟨rfl, fun c u a hu ha => ?_⟩
    match c with
    | 0 => simp [Ty.flat] at hu ha; subst hu; subst ha; rfl
    | c + 1 => simp at hu
  | .slice t, _, l, h => by
    obtain ⟨A, cap, rfl, h'⟩ := id h
    refine ⟨rfl, fun c u a hu ha => ?_⟩
    match c with
    | 0 => simp [Ty.flat] at hu ha; subst hu; subst ha; exact h
    | c + 1 => simp at hu
  | .pair p q, _, x, h => by
    obtain ⟨us, ws, rfl, h1, h2⟩ := h
    obtain ⟨l1, f1⟩ := h1.flat
    obtain ⟨l2, f2⟩ := h2.flat
    refine ⟨by simp [Ty.flat, l1, l2], fun c u a hu ha => ?_⟩
    simp only [Ty.flat] at ha
    by_cases hc : c < us.length
    · rw [List.getElem?_append_left hc] at hu
      rw [List.getElem?_append_left (by omega)] at ha
      exact f1 c u a hu ha
    · rw [List.getElem?_append_right (by omega)] at hu ha
      rw [l1] at ha
      exact f2 _ u a hu ha
  | .unit, _, _, h => by cases h; exact ⟨rfl, fun c u a hu _ => by simp at hu⟩
structure SPl where
  A : Option Addr
  cap : Nat
  st : Nat
inductive Pl where
  | box (b off : Nat)
  | sl (S : SPl) (n : Nat)
  | mat (S : SPl) (n : Nat) (rows : Nat → SPl × Nat)
  | matH (S : SPl) (n : Nat) (rows : Nat → SPl × Nat) (h : Nat)
def WV (S : SPl) (n : Nat) (v : Value) : Option (Nat × Nat) → Prop
  | none => v = .slice S.A n S.cap
  | some (o, m) => o + m ≤ n ∧ ∃ A', v = .slice A' m (S.cap - o) ∧ (o < S.cap → A' = S.A.map (·.add (o * S.st)))
def plS (p : Option Pl) (row : Option Nat) : Option (SPl × Nat) :=
  match p, row with
  | some (.sl S n), none => some (S, n)
  | some (.mat S n _), none => some (S, n)
  | some (.matH S n _ _), none => some (S, n)
  | some (.mat _ n rows), some i => if i < n then some (rows i) else none
  | _, _ => none
structure W0 where
  w : World
  R : Nat → Prop
  par : Nat → Option Value := fun _ => none
  F : Nat → Prop := fun _ => False
def RP (w0 : W0) (v : Value) (ts : List Nat) (c : Nat) : Prop :=
  ∃ b off, v = .pointer (some ⟨b, off + c, none⟩) ∧ w0.F b ∧ ∀ k t, ts[k]? = some t → ∃ u, cellAt w0.w b (off + k) = some u ∧ w0.par t = some u ∧ u.oneCell' = true
def RF (w0 : W0) (v : Value) (f : Nat) (ts : List Nat) : Prop :=
  ∃ us : Array Value, v = .func (.func f) #[] us ∧ us.size = ts.length ∧ ∀ (i : Nat) u t, us[i]? = some u → ts[i]? = some t → w0.par t = some u
def PA (ρ : Nat → Option Pl) (v : Value) : AVal → Prop
  | .ptr id c => ∃ b off, ρ id = some (.box b off) ∧ v = .pointer (some ⟨b, off + c, none⟩)
  | _ => False
def CA (w0 : W0) (w : World) (R : Nat → Prop) (ρ : Nat → Option Pl) (v : Value) : AVal → Prop
  | .undef => v.oneCell' = true
  | .sref id row win => ∃ S n, plS (ρ id) row = some (S, n) ∧ WV S n v win
  | .ptr id c => ∃ b off, ρ id = some (.box b off) ∧ v = .pointer (some ⟨b, off + c, none⟩)
  | .eptr id row i c => ∃ S n b off, plS (ρ id) row = some (S, n) ∧ S.A = some ⟨b, off, none⟩ ∧ i < n ∧ v = .pointer (some ⟨b, off + (i * S.st + c), none⟩)
  | .vptr cs c => ∃ b off, v = .pointer (some ⟨b, off + c, none⟩) ∧ R b ∧ ∀ k x, cs[k]? = some x → ∃ u, cellAt w b (off + k) = some u ∧ RA w R u x
  | .fn f caps => ∃ us : Array Value, v = .func (.func f) #[] us ∧ us.size = caps.length ∧ ∀ (i : Nat) u x, us[i]? = some u → caps[i]? = some x → PA ρ u x
  | .rptr ts c => RP w0 v ts c
  | .cfn f ts => RF w0 v f ts
  | a => RA w R v a
theorem RT.unflat {w0 : W0} {w : World} {R : Nat → Prop} {ρ : Nat → Option Pl} : ∀ {T : Ty} {vs : List Value} {cs r : List AVal} {x : T.den}, T.unflat cs = some (x, r) → vs.length = cs.length →
    (∀ (c : Nat) u a, vs[c]? = some u → cs[c]? = some a → CA w0 w R ρ u a) → RT w R T (vs.take T.cells) x ∧ T.cells ≤ cs.length ∧ r = cs.drop T.cells
  | .int k, v :: vs, .int k' n :: cs, r, x, h, hl, hr => by
    simp only [Ty.unflat] at h
    split at h
    · rename_i hk; cases h; subst hk
      have := hr 0 v _ rfl rfl
      simp only [CA, RA] at this
      exact ⟨by simp [Ty.cells, RT, this], by simp [Ty.cells], by simp [Ty.cells]⟩
    · cases h
  | .bool, v :: vs, .bool b :: cs, r, x, h, hl, hr => by
    cases h
    have := hr 0 v _ rfl rfl
    simp only [CA, RA] at this
    exact ⟨by simp [Ty.cells, RT, this], by simp [Ty.cells], by simp [Ty.cells]⟩
  | .str, v :: vs, .str b :: cs, r, x, h, hl, hr => by
    cases h
    have := hr 0 v _ rfl rfl
    simp only [CA, RA] at this
    exact ⟨by simp [Ty.cells, RT, this], by simp [Ty.cells], by simp [Ty.cells]⟩
  | .slice t, v :: vs, .sl t' l :: cs, r, x, h, hl, hr => by
    simp only [Ty.unflat] at h
    split at h
    · rename_i hk; cases h; subst hk
      have := hr 0 v _ rfl rfl
      exact ⟨by simpa [Ty.cells, Ty.castL, CA, RA] using this, by simp [Ty.cells], by simp [Ty.cells]⟩
    · cases h
  | .slice t, v :: vs, .nils :: cs, r, x, h, hl, hr => by
    cases h
    have := hr 0 v _ rfl rfl
    simp only [CA, RA] at this
    subst this
    exact ⟨⟨none, 0, by simp [Ty.cells], by simp, fun _ => rfl, fun i x hx => by simp at hx⟩, by simp [Ty.cells], by simp [Ty.cells]⟩
  | .pair a b, vs, cs, r, x, h, hl, hr => by
    simp only [Ty.unflat] at h
    split at h
    · rename_i x1 r1 h1
      split at h
      · rename_i x2 r2 h2
        cases h
        obtain ⟨e1, e2, e3⟩ := RT.unflat (ρ := ρ) (T := a) h1 hl hr
        subst e3
        obtain ⟨g1, g2, g3⟩ := RT.unflat (ρ := ρ) (T := b) (vs := vs.drop a.cells) h2 (by simp [hl]) (fun c u y hu hy => hr (a.cells + c) u y (by simpa using hu) (by simpa using hy))
        refine ⟨⟨vs.take a.cells, (vs.drop a.cells).take b.cells, ?_, e1, g1⟩, ?_, ?_⟩
        · simp only [Ty.cells]; rw [List.take_add]
        · simp [Ty.cells] at g2 ⊢; omega
        · rw [g3, List.drop_drop]; rfl
      · cases h
    · cases h
  | .unit, vs, cs, r, x, h, hl, hr => by cases h; exact ⟨by simp [Ty.cells, RT], by simp [Ty.cells], by simp [Ty.cells]⟩
  | .int _, _, [], _, _, h, _, _ | .bool, _, [], _, _, h, _, _ | .str, _, [], _, _, h, _, _ | .slice _, _, [], _, _, h, _, _ => by simp [Ty.unflat] at h
  | .int _, [], _ :: _, _, _, _, h, _ | .bool, [], _ :: _, _, _, _, h, _ | .str, [], _ :: _, _, _, _, h, _ | .slice _, [], _ :: _, _, _, _, h, _ => by simp at h
theorem WV.one {S : SPl} {n : Nat} {v : Value} : ∀ {win : Option (Nat × Nat)}, WV S n v win → v.oneCell' = true
  | none, h => by simp only [WV] at h; subst h; rfl
  | some (o, m), h => by simp only [WV] at h; obtain ⟨_, A', h, _⟩ := h; subst h; rfl
theorem CA.one {w0 : W0} {w : World} {R : Nat → Prop} {ρ : Nat → Option Pl} {v : Value} {a : AVal} (h : CA w0 w R ρ v a) : v.oneCell' = true := by
  cases a <;> simp only [CA, RA] at h
  all_goals first
    | exact h
    | (subst h; rfl)
    | (obtain ⟨A, cap, h, _⟩ := h; cases h; rfl)
    | (obtain ⟨b, off, h, _⟩ := h; subst h; rfl)
    | (obtain ⟨b, off, _, h⟩ := h; subst h; rfl)
    | (obtain ⟨us, h, _⟩ := h; subst h; rfl)
    | (obtain ⟨b, off, h, _⟩ := h; cases h; rfl)
    | (obtain ⟨us, h, _⟩ := h; cases h; rfl)
    | (obtain ⟨S, n, b, off, _, _, _, h⟩ := h; subst h; rfl)
    | (obtain ⟨S, n, _, h⟩ := h; exact WV.one h)
def VA1 (w0 : W0) (w : World) (R : Nat → Prop) (ρ : Nat → Option Pl) (v : Value) : AVal → Prop
  | .undef => True
  | .agg cs => ∃ us : Array Value, v = .agg us ∧ us.size = cs.length ∧ ∀ (i : Nat) u x, us[i]? = some u → cs[i]? = some x → CA w0 w R ρ u x
  | a => CA w0 w R ρ v a
def VA (w0 : W0) (w : World) (R : Nat → Prop) (ρ : Nat → Option Pl) (v : Value) : AVal → Prop
  | .tup xs => ∃ us : Array Value, v = .tuple us ∧ us.size = xs.length ∧ ∀ (i : Nat) u x, us[i]? = some u → xs[i]? = some x → VA1 w0 w R ρ u x
  | a => VA1 w0 w R ρ v a
def SlOwn (w : World) (R : Nat → Prop) (T : Ty) (S : SPl) (l : List T.den) : Prop :=
  S.st = T.cells ∧ l.length ≤ S.cap ∧ (S.cap ≠ 0 → ∃ b off arr E, S.A = some ⟨b, off, none⟩ ∧ w.heap[b]? = some (.cells arr E (0, 0)) ∧ off + S.cap * T.cells ≤ arr.size ∧
    ∀ i x, l[i]? = some x → ∃ us, RT w R T us x ∧ ∀ c u, us[c]? = some u → arr[off + (i * T.cells + c)]? = some u)
def SPl.blk (S : SPl) (b : Nat) : Prop := S.cap ≠ 0 ∧ ∃ off, S.A = some ⟨b, off, none⟩
def OA (w0 : W0) (w : World) (R : Nat → Prop) (ρ : Nat → Option Pl) (p : Pl) : Obj → Prop
  | .box cs => ∃ b off arr E, p = .box b off ∧ w.heap[b]? = some (.cells arr E (0, 0)) ∧ ∀ k x, cs[k]? = some x → ∃ u, arr[off + k]? = some u ∧ CA w0 w R ρ u x
  | .sl T l => ∃ S, p = .sl S l.length ∧ SlOwn w R T S l
  | .mat T l => ∃ S rows, p = .mat S l.length rows ∧ S.st = 1 ∧ l.length ≤ S.cap ∧
      (S.cap ≠ 0 → ∃ b off arr E, S.A = some ⟨b, off, none⟩ ∧ w.heap[b]? = some (.cells arr E (0, 0)) ∧ off + S.cap ≤ arr.size ∧
        ∀ i r, l[i]? = some r → arr[off + i]? = some (.slice (rows i).1.A r.length (rows i).1.cap)) ∧
      (∀ i r, l[i]? = some r → (rows i).2 = r.length ∧ SlOwn w R T (rows i).1 r) ∧
      (∀ i j b, i < l.length → j < l.length → i ≠ j → (rows i).1.blk b → (rows j).1.blk b → False) ∧
      (∀ i b, i < l.length → S.blk b → (rows i).1.blk b → False)
  | .matH T l h o => ∃ S rows, p = .matH S l.length rows h ∧ S.st = 1 ∧ l.length ≤ S.cap ∧
      (S.cap ≠ 0 → ∃ b off arr E, S.A = some ⟨b, off, none⟩ ∧ w.heap[b]? = some (.cells arr E (0, 0)) ∧ off + S.cap ≤ arr.size ∧
        ∀ i r, l[i]? = some r → arr[off + i]? = some (.slice (rows i).1.A r.length (rows i).1.cap)) ∧
      (∀ i r, l[i]? = some r → i ≠ h → (rows i).2 = r.length ∧ SlOwn w R T (rows i).1 r) ∧
      (∀ i j b, i < l.length → j < l.length → i ≠ h → j ≠ h → i ≠ j → (rows i).1.blk b → (rows j).1.blk b → False) ∧
      (∀ i b, i < l.length → i ≠ h → S.blk b → (rows i).1.blk b → False) ∧
      ∀ r, l[h]? = some r → ρ o = some (.sl (rows h).1 r.length)
def blkO (p : Pl) (b : Nat) : Prop :=
  match p with
  | .box b' _ => b' = b
  | .sl S _ => S.blk b
  | .mat S n rows => S.blk b ∨ ∃ i, i < n ∧ (rows i).1.blk b
  | .matH S n rows h => S.blk b ∨ ∃ i, i < n ∧ i ≠ h ∧ (rows i).1.blk b
def Quiet (w w' : World) : Prop := w'.os = w.os ∧ w'.output = w.output
theorem Quiet.refl (w : World) : Quiet w w := ⟨rfl, rfl⟩
theorem Quiet.trans {w w' w'' : World} (h : Quiet w w') (h' : Quiet w' w'') : Quiet w w'' := ⟨h'.1.trans h.1, h'.2.trans h.2⟩
def tmv (w0 : W0) (a : Act) (t : Nat) : Value :=
  if t < a.tmps.size then a.tmps.getD t undef else (w0.par t).getD undef
theorem tmv_lt {w0 : W0} {a : Act} {t : Nat} (h : t < a.tmps.size) : tmv w0 a t = a.tmps.getD t undef := by unfold tmv; rw [if_pos h]
theorem tmv_ge {w0 : W0} {a : Act} {t : Nat} (h : ¬ t < a.tmps.size) : tmv w0 a t = (w0.par t).getD undef := by unfold tmv; rw [if_neg h]
structure KF (w : World) (F : Nat → Prop) (B : Nat) (Io : Nat → Prop) : Prop where
  st : ∀ b, F b → b < B ∧ ¬ Io b
  ng : ∀ b, b < NG → F b
  tt : TT w
structure SR (w0 : W0) (B : Nat) (Io : Nat → Prop) (R : Nat → Prop) (ρ : Nat → Option Pl) (Fr : Nat → Prop) (st : St) (a : Act) (w : World) : Prop where
  size : a.tmps.size = st.n
  dfr : a.defers = []
  tm : ∀ t, VA w0 w R ρ (tmv w0 a t) (st.tm t)
  ob : ∀ id o, st.ob id = some o → ∃ p, ρ id = some p ∧ OA w0 w R ρ p o
  sep : ∀ id o id' o' p p' b, id ≠ id' → st.ob id = some o → st.ob id' = some o' → ρ id = some p → ρ id' = some p' → blkO p b → blkO p' b → False
  own : ∀ id o p b, st.ob id = some o → ρ id = some p → blkO p b → b < w.heap.size ∧ ¬ R b ∧ (B ≤ b ∨ Io b)
  rlt : ∀ b, R b → b < w.heap.size
  frame : ∀ b, b < B → ¬ Io b → w.heap[b]? = w0.w.heap[b]?
  size0 : B ≤ w.heap.size
  fr : ∀ i, Fr i → ρ i = none
  r0 : ∀ b, w0.R b → R b
  q : Quiet w0.w w
  par : ∀ k v, k ∈ st.pr → w0.par k = some v → tmv w0 a k = v
  f0 : KF w0.w w0.F B Io
  r1 : ∀ b, R b → w0.R b ∨ (B ≤ b ∨ Io b)
def Leρ (ρ ρ' : Nat → Option Pl) : Prop := ∀ id p, ρ id = some p → ρ' id = some p
theorem Leρ.refl (ρ : Nat → Option Pl) : Leρ ρ ρ := fun _ _ h => h
theorem plS_mono {ρ ρ' : Nat → Option Pl} (h : Leρ ρ ρ') {id : Nat} {row : Option Nat} {x : SPl × Nat} (hp : plS (ρ id) row = some x) : plS (ρ' id) row = some x := by
  cases e : ρ id with
  | none => rw [e] at hp; simp [plS] at hp
  | some p => rw [h id p e, ← e]; exact hp
theorem PA.mono {ρ ρ' : Nat → Option Pl} (hρ : Leρ ρ ρ') {v : Value} {a : AVal} (h : PA ρ v a) : PA ρ' v a := by
  cases a <;> first
    | exact h
    | skip
  obtain ⟨b, off, h1, h2⟩ := h
  exact ⟨b, off, hρ _ _ h1, h2⟩
theorem CA.mono {w0 : W0} {w w' : World} {R R' : Nat → Prop} {ρ ρ' : Nat → Option Pl} (hs : Same R w w') (hr : ∀ b, R b → R' b) (hρ : Leρ ρ ρ') {v : Value} {a : AVal} (h : CA w0 w R ρ v a) : CA w0 w' R' ρ' v a := by
  cases a <;> simp only [CA] at h ⊢ <;> first
    | exact RA.mono hs hr h
    | exact h
    | skip
  · obtain ⟨b, off, h1, h2, h3⟩ := h
    refine ⟨b, off, h1, hr b h2, fun k x hx => ?_⟩
    obtain ⟨u, e1, e2⟩ := h3 k x hx
    exact ⟨u, by rw [hs.cellAt h2]; exact e1, e2.mono hs hr⟩
  · obtain ⟨S, n, h1, h2⟩ := h
    exact ⟨S, n, plS_mono hρ h1, h2⟩
  · obtain ⟨b, off, h1, h2⟩ := h
    exact ⟨b, off, hρ _ _ h1, h2⟩
  · obtain ⟨S, n, b, off, h1, h2⟩ := h
    exact ⟨S, n, b, off, plS_mono hρ h1, h2⟩
  · obtain ⟨us, h1, h2, h3⟩ := h
    exact ⟨us, h1, h2, fun i u x hu hx => (h3 i u x hu hx).mono hρ⟩
theorem VA1.mono {w0 : W0} {w w' : World} {R R' : Nat → Prop} {ρ ρ' : Nat → Option Pl} (hs : Same R w w') (hr : ∀ b, R b → R' b) (hρ : Leρ ρ ρ') {v : Value} {a : AVal} (h : VA1 w0 w R ρ v a) : VA1 w0 w' R' ρ' v a := by
  cases a <;> simp only [VA1] at h ⊢ <;> first
    | exact CA.mono hs hr hρ h
    | skip
  obtain ⟨us, h1, h2, h3⟩ := h
  exact ⟨us, h1, h2, fun i u x hu hx => (h3 i u x hu hx).mono hs hr hρ⟩
theorem VA.mono {w0 : W0} {w w' : World} {R R' : Nat → Prop} {ρ ρ' : Nat → Option Pl} (hs : Same R w w') (hr : ∀ b, R b → R' b) (hρ : Leρ ρ ρ') {v : Value} {a : AVal} (h : VA w0 w R ρ v a) : VA w0 w' R' ρ' v a := by
  cases a <;> simp only [VA] at h ⊢ <;> first
    | exact VA1.mono hs hr hρ h
    | skip
  obtain ⟨us, h1, h2, h3⟩ := h
  exact ⟨us, h1, h2, fun i u x hu hx => (h3 i u x hu hx).mono hs hr hρ⟩
theorem VA.of1 {w0 : W0} {w : World} {R : Nat → Prop} {ρ : Nat → Option Pl} {v : Value} {a : AVal} (h : VA1 w0 w R ρ v a) : VA w0 w R ρ v a := by
  cases a <;> first | exact h | (simp only [VA1, CA, RA] at h)
theorem VA1.ofC {w0 : W0} {w : World} {R : Nat → Prop} {ρ : Nat → Option Pl} {v : Value} {a : AVal} (h : CA w0 w R ρ v a) : VA1 w0 w R ρ v a := by
  cases a <;> first | exact h | exact trivial | (simp only [CA, RA] at h)
theorem VA.ofC {w0 : W0} {w : World} {R : Nat → Prop} {ρ : Nat → Option Pl} {v : Value} {a : AVal} (h : CA w0 w R ρ v a) : VA w0 w R ρ v a := .of1 (.ofC h)
theorem CA.ofR {w0 : W0} {w : World} {R : Nat → Prop} {ρ : Nat → Option Pl} {v : Value} {a : AVal} (h : RA w R v a) : CA w0 w R ρ v a := by
  cases a <;> first | exact h | (simp only [RA] at h)
theorem SlOwn.mono {w w' : World} {R R' : Nat → Prop} (hs : Same R w w') (hr : ∀ b, R b → R' b) {T : Ty} {S : SPl} {l : List T.den} (hb : ∀ b, S.blk b → w'.heap[b]? = w.heap[b]?) (h : SlOwn w R T S l) : SlOwn w' R' T S l := by
  obtain ⟨h1, h2, h3⟩ := h
  refine ⟨h1, h2, fun hc => ?_⟩
  obtain ⟨b, off, arr, E, e1, e2, e3, e4⟩ := h3 hc
  refine ⟨b, off, arr, E, e1, by rw [hb b ⟨hc, off, e1⟩]; exact e2, e3, fun i x hx => ?_⟩
  obtain ⟨us, g1, g2⟩ := e4 i x hx
  exact ⟨us, g1.mono hs hr, g2⟩
theorem OA.mono {w0 : W0} {w w' : World} {R R' : Nat → Prop} {ρ ρ' : Nat → Option Pl} (hs : Same R w w') (hr : ∀ b, R b → R' b) (hρ : Leρ ρ ρ') {p : Pl} {o : Obj} (hb : ∀ b, blkO p b → w'.heap[b]? = w.heap[b]?) (h : OA w0 w R ρ p o) : OA w0 w' R' ρ' p o := by
  cases o with
  | box cs =>
    obtain ⟨b, off, arr, E, rfl, h2, h3⟩ := h
    refine ⟨b, off, arr, E, rfl, by rw [hb b rfl]; exact h2, fun k x hx => ?_⟩
    obtain ⟨u, e1, e2⟩ := h3 k x hx
    exact ⟨u, e1, e2.mono hs hr hρ⟩
  | sl T l =>
    obtain ⟨S, rfl, h2⟩ := h
    exact ⟨S, rfl, h2.mono hs hr hb⟩
  | mat T l =>
    obtain ⟨S, rows, rfl, h1, h2, h3, h4, h5, h6⟩ := h
    refine ⟨S, rows, rfl, h1, h2, fun hc => ?_, fun i r hr' => ?_, h5, h6⟩
    · obtain ⟨b, off, arr, E, e1, e2, e3⟩ := h3 hc
      exact ⟨b, off, arr, E, e1, by rw [hb b (Or.inl ⟨hc, off, e1⟩)]; exact e2, e3⟩
    · obtain ⟨g1, g2⟩ := h4 i r hr'
      have hi : i < l.length := by
        rcases Nat.lt_or_ge i l.length with h | h
        · exact h
        · simp [List.getElem?_eq_none h] at hr'
      exact ⟨g1, g2.mono hs hr (fun b hb' => hb b (Or.inr ⟨i, hi, hb'⟩))⟩
  | matH T l h0 o0 =>
    obtain ⟨S, rows, rfl, h1, h2, h3, h4, h5, h6, h7⟩ := h
    refine ⟨S, rows, rfl, h1, h2, fun hc => ?_, fun i r hr' hne => ?_, h5, h6, fun r hr' => hρ _ _ (h7 r hr')⟩
    · obtain ⟨b, off, arr, E, e1, e2, e3⟩ := h3 hc
      exact ⟨b, off, arr, E, e1, by rw [hb b (Or.inl ⟨hc, off, e1⟩)]; exact e2, e3⟩
    · obtain ⟨g1, g2⟩ := h4 i r hr' hne
      have hi : i < l.length := by
        rcases Nat.lt_or_ge i l.length with h | h
        · exact h
        · simp [List.getElem?_eq_none h] at hr'
      exact ⟨g1, g2.mono hs hr (fun b hb' => hb b (Or.inr ⟨i, hi, hne, hb'⟩))⟩
def Grows (w w' : World) : Prop := ∀ b, b < w.heap.size → w'.heap[b]? = w.heap[b]?
theorem Grows.size {w w' : World} (h : Grows w w') : w.heap.size ≤ w'.heap.size := by
  rcases Nat.lt_or_ge w'.heap.size w.heap.size with hl | hl
  · have := h w'.heap.size hl
    simp at this
    omega
  · exact hl
variable {w0 : W0} {w w' : World} {B : Nat} {Io R : Nat → Prop} {ρ ρ' : Nat → Option Pl} {Fr Fr' : Nat → Prop} {st : St} {a : Act}
theorem SR.grow (h : SR w0 B Io R ρ Fr st a w) (hg : Grows w w') (hq : Quiet w w') : SR w0 B Io R ρ Fr st a w' where
  size := h.size
  dfr := h.dfr
  tm := fun t => (h.tm t).mono (fun b hb => hg b (h.rlt b hb)) (fun _ hb => hb) (.refl _)
  ob := fun id o ho => by
    obtain ⟨p, h1, h2⟩ := h.ob id o ho
    exact ⟨p, h1, h2.mono (fun b hb => hg b (h.rlt b hb)) (fun _ hb => hb) (.refl _) (fun b hb => hg b (h.own id o p b ho h1 hb).1)⟩
  sep := h.sep
  own := fun id o p b ho hp hb => by
    have := h.own id o p b ho hp hb
    exact ⟨Nat.lt_of_lt_of_le this.1 hg.size, this.2⟩
  rlt := fun b hb => Nat.lt_of_lt_of_le (h.rlt b hb) hg.size
  frame := fun b hb hn => by rw [hg b (Nat.lt_of_lt_of_le hb h.size0)]; exact h.frame b hb hn
  size0 := Nat.le_trans h.size0 hg.size
  r0 := h.r0
  r1 := h.r1
  q := h.q.trans hq
  par := h.par
  f0 := h.f0
  fr := h.fr
theorem put_tmv (w0 : W0) (a : Act) (d : Nat) (v : Value) (t : Nat) : tmv w0 (a.put (some d) v) t = if t = d ∧ d < a.tmps.size then v else tmv w0 a t := by
  have e : (a.put (some d) v).tmps.size = a.tmps.size := by simp [Act.put]
  unfold tmv
  rw [e]
  by_cases h : t < a.tmps.size
  · rw [if_pos h, if_pos h]
    simp only [Act.put]
    by_cases h' : t = d
    · subst h'; simp [h]
    · have : ¬ d = t := fun e => h' e.symm
      simp [h', this]
  · rw [if_neg h, if_neg h, if_neg (by rintro ⟨rfl, h'⟩; exact h h')]
theorem setTm_tm (st : St) (d : Nat) (v : AVal) (t : Nat) : (st.setTm d v).tm t = if t = d ∧ d < st.n then v else st.tm t := by
  unfold St.setTm
  by_cases h : d < st.n <;> simp [h]
@[simp] theorem setTm_ob (st : St) (d : Nat) (v : AVal) : (st.setTm d v).ob = st.ob := by
  unfold St.setTm; split <;> rfl
@[simp] theorem setTm_n (st : St) (d : Nat) (v : AVal) : (st.setTm d v).n = st.n := by
  unfold St.setTm; split <;> rfl
@[simp] theorem setTm_nx (st : St) (d : Nat) (v : AVal) : (st.setTm d v).nx = st.nx := by
  unfold St.setTm; split <;> rfl
@[simp] theorem put_ob (st : St) (d : Option Nat) (v : AVal) : (st.put d v).ob = st.ob := by cases d <;> simp [St.put]
@[simp] theorem put_n (st : St) (d : Option Nat) (v : AVal) : (st.put d v).n = st.n := by cases d <;> simp [St.put]
@[simp] theorem put_nx (st : St) (d : Option Nat) (v : AVal) : (st.put d v).nx = st.nx := by cases d <;> simp [St.put]
theorem SR.put (h : SR w0 B Io R ρ Fr st a w) (d : Option Nat) {v : Value} {x : AVal} (hv : VA w0 w R ρ v x) : SR w0 B Io R ρ Fr (st.put d x) (a.put d v) w := by
  cases d with
  | none => exact h
  | some d =>
    refine { size := ?_, dfr := h.dfr, tm := ?_, ob := ?_, sep := ?_, own := ?_, rlt := h.rlt, frame := h.frame, size0 := h.size0, fr := h.fr, r0 := h.r0, r1 := h.r1, q := h.q, par := ?_, f0 := h.f0 }
    · simpa [Act.put] using h.size
    · intro t
      rw [put_tmv]
      simp only [St.put, setTm_tm, ← h.size]
      split
      · exact hv
      · exact h.tm t
    · simpa using h.ob
    · simpa using h.sep
    · simpa using h.own
    · intro k u hk hu
      simp only [St.put, St.setTm] at hk
      split at hk
      · rename_i hd
        have hk := List.mem_filter.1 hk
        rw [put_tmv]
        have : ¬ k = d := by simpa using hk.2
        simp only [this, false_and, if_false]
        exact h.par k u hk.1 hu
      · rename_i hd
        have hd := of_decide_eq_false hd
        rw [put_tmv]
        have : ¬ (k = d ∧ d < a.tmps.size) := fun e => hd (by rw [← h.size]; exact e.2)
        simp only [this, if_false]
        exact h.par k u hk hu
theorem SR.undef (h : SR w0 B Io R ρ Fr st a w) (d : Option Nat) (v : Value) : SR w0 B Io R ρ Fr (st.put d .undef) (a.put d v) w := h.put d trivial
theorem SR.skipped (h : SR w0 B Io R ρ Fr st a w) (d : Option Nat) : SR w0 B Io R ρ Fr (st.put d (.tup [])) (a.put d Go.undef) w := h.put d ⟨#[], rfl, rfl, fun i u x hu => by simp at hu⟩
theorem SR.ρmono (h : SR w0 B Io R ρ Fr st a w) {id : Nat} (hf : Fr id) (p : Pl) : Leρ ρ (fun i => if i = id then some p else ρ i) := fun i q hq => by
  by_cases e : i = id
  · subst e; rw [h.fr i hf] at hq; cases hq
  · simp [e, hq]
theorem SR.new (h : SR w0 B Io R ρ Fr st a w) {id : Nat} (hf : Fr id) {o : Obj} {p : Pl}
    (ho : OA w0 w R (fun i => if i = id then some p else ρ i) p o) (hb : ∀ b, blkO p b → b < w.heap.size ∧ ¬ R b ∧ (B ≤ b ∨ Io b))
    (hsep : ∀ id' o' p' b, st.ob id' = some o' → ρ id' = some p' → blkO p b → blkO p' b → False) :
    SR w0 B Io R (fun i => if i = id then some p else ρ i) (fun i => Fr i ∧ i ≠ id) { st with ob := fun i => if i = id then some o else st.ob i } a w where
  size := h.size
  dfr := h.dfr
  tm := fun t => (h.tm t).mono (.refl _ _) (fun _ hb => hb) (h.ρmono hf p)
  ob := fun i o' ho' => by
    by_cases e : i = id
    · simp only [e, if_true] at ho' ⊢
      cases ho'
      exact ⟨p, rfl, ho⟩
    · simp only [e, if_false] at ho' ⊢
      obtain ⟨q, h1, h2⟩ := h.ob i o' ho'
      exact ⟨q, h1, h2.mono (.refl _ _) (fun _ hb => hb) (h.ρmono hf p) (fun _ _ => rfl)⟩
  sep := fun i o1 j o2 p1 p2 b hij h1 h2 g1 g2 b1 b2 => by
    by_cases e : i = id
    · subst e
      have e' : ¬ j = i := fun h => hij h.symm
      simp only [if_true, e', if_false] at h1 h2 g1 g2
      cases g1
      exact hsep j o2 p2 b h2 g2 b1 b2
    · by_cases e' : j = id
      · subst e'
        simp only [e, if_false, if_true] at h1 h2 g1 g2
        cases g2
        exact hsep i o1 p1 b h1 g1 b2 b1
      · simp only [e, e', if_false] at h1 h2 g1 g2
        exact h.sep i o1 j o2 p1 p2 b hij h1 h2 g1 g2 b1 b2
  own := fun i o' q b h1 g1 b1 => by
    by_cases e : i = id
    · subst e; simp only [if_true] at g1; cases g1; exact hb b b1
    · simp only [e, if_false] at h1 g1; exact h.own i o' q b h1 g1 b1
  rlt := h.rlt
  frame := h.frame
  size0 := h.size0
  r0 := h.r0
  r1 := h.r1
  q := h.q
  par := h.par
  f0 := h.f0
  fr := fun i hi => by simp only [hi.2, if_false]; exact h.fr i hi.1
theorem SR.del (h : SR w0 B Io R ρ Fr st a w) (id : Nat) : SR w0 B Io R ρ Fr { st with ob := fun i => if i = id then none else st.ob i } a w where
  size := h.size
  dfr := h.dfr
  tm := h.tm
  ob := fun i o ho => by
    by_cases e : i = id
    · simp [e] at ho
    · simp only [e, if_false] at ho; exact h.ob i o ho
  sep := fun i o1 j o2 p1 p2 b hij h1 h2 => by
    by_cases e : i = id
    · simp [e] at h1
    · by_cases e' : j = id
      · simp [e'] at h2
      · simp only [e, e', if_false] at h1 h2; exact h.sep i o1 j o2 p1 p2 b hij h1 h2
  own := fun i o p b h1 => by
    by_cases e : i = id
    · simp [e] at h1
    · simp only [e, if_false] at h1; exact h.own i o p b h1
  rlt := h.rlt
  frame := h.frame
  size0 := h.size0
  r0 := h.r0
  r1 := h.r1
  q := h.q
  par := h.par
  f0 := h.f0
  fr := h.fr
theorem SR.chg (h : SR w0 B Io R ρ Fr st a w) {id : Nat} {o o' : Obj} {p : Pl} (ho : st.ob id = some o) (hp : ρ id = some p)
    (hw : ∀ b, ¬ blkO p b → w'.heap[b]? = w.heap[b]?) (hz : w'.heap.size = w.heap.size) (hq : Quiet w w') (ho' : Same R w w' → OA w0 w' R ρ p o') :
    SR w0 B Io R ρ Fr { st with ob := fun i => if i = id then some o' else st.ob i } a w' := by
  have hown := fun b hb => h.own id o p b ho hp hb
  have hR : Same R w w' := fun b hb => hw b fun hb' => (hown b hb').2.1 hb
  refine { size := h.size, dfr := h.dfr, tm := fun t => (h.tm t).mono hR (fun _ hb => hb) (.refl _), ob := ?_, sep := ?_, own := ?_, rlt := ?_, frame := ?_, size0 := ?_, fr := h.fr, r0 := h.r0, r1 := h.r1, q := h.q.trans hq, par := h.par, f0 := h.f0 }
  · intro i o1 h1
    by_cases e : i = id
    · subst e; simp only [if_true] at h1; cases h1; exact ⟨p, hp, ho' hR⟩
    · simp only [e, if_false] at h1
      obtain ⟨q, g1, g2⟩ := h.ob i o1 h1
      exact ⟨q, g1, g2.mono hR (fun _ hb => hb) (.refl _) (fun b hb => hw b fun hb' => h.sep i o1 id o q p b e h1 ho g1 hp hb hb')⟩
  · intro i o1 j o2 p1 p2 b hij h1 h2 g1 g2 b1 b2
    by_cases e : i = id
    · subst e
      have e' : ¬ j = i := fun h => hij h.symm
      simp only [e', if_false] at h2
      exact h.sep i o j o2 p1 p2 b hij ho h2 g1 g2 b1 b2
    · simp only [e, if_false] at h1
      by_cases e' : j = id
      · subst e'; exact h.sep i o1 j o p1 p2 b hij h1 ho g1 g2 b1 b2
      · simp only [e', if_false] at h2; exact h.sep i o1 j o2 p1 p2 b hij h1 h2 g1 g2 b1 b2
  · intro i o1 q b h1 g1 b1
    rw [hz]
    by_cases e : i = id
    · subst e; exact h.own i o q b ho g1 b1
    · simp only [e, if_false] at h1; exact h.own i o1 q b h1 g1 b1
  · intro b hb; rw [hz]; exact h.rlt b hb
  · intro b hb hn
    rw [hw b fun hb' => (hown b hb').2.2.elim (fun h1 => by omega) hn]
    exact h.frame b hb hn
  · rw [hz]; exact h.size0
theorem SR.weaken (h : SR w0 B Io R ρ Fr st a w) (hf : ∀ i, Fr' i → Fr i) : SR w0 B Io R ρ Fr' st a w := { h with fr := fun i hi => h.fr i (hf i hi) }
structure Sub (s st : St) : Prop where
  tm : ∀ t, s.tm t = .undef ∨ s.tm t = st.tm t
  ob : ∀ i, s.ob i = none ∨ s.ob i = st.ob i
  n : s.n = st.n
theorem Sub.refl (st : St) : Sub st st := ⟨fun _ => .inr rfl, fun _ => .inr rfl, rfl⟩
theorem Sub.obj {s st : St} (h : Sub s st) {i : Nat} {o : Obj} (ho : s.ob i = some o) : st.ob i = some o := by
  rcases h.ob i with e | e
  · rw [e] at ho; cases ho
  · rw [← e]; exact ho
theorem Sub.ev {s st : St} (h : Sub s st) (x : Operand) : ev s x = .undef ∨ ev s x = Go.OAI.ev st x := by
  cases x with
  | tmp t =>
    simp only [Go.OAI.ev, h.n]
    cases decide (t < st.n) with
    | true => exact h.tm t
    | false => exact .inl rfl
  | _ => exact .inr rfl
theorem SR.ev (h : SR w0 B Io R ρ Fr st a w) (x : Operand) : VA w0 w R ρ (a.eval x) (Go.OAI.ev st x) := by
  cases x with
  | tmp t =>
    simp only [Go.OAI.ev]
    split
    · rename_i e
      have := h.tm t
      rwa [tmv_lt (by rw [h.size]; exact of_decide_eq_true e)] at this
    · exact trivial
  | const v =>
    simp only [Act.eval, Go.OAI.ev]
    unfold ofVal
    split <;> first | exact (trivial : VA w0 w R ρ _ .undef) | exact VA.ofC (by simp [CA, RA])
  | global g => exact trivial
  | func f => exact VA.ofC (by simp [Go.OAI.ev, Act.eval, CA])
theorem SR.evs (h : SR w0 B Io R ρ Fr st a w) {s : St} (hs : Sub s st) (x : Operand) : VA w0 w R ρ (a.eval x) (Go.OAI.ev s x) := by
  rcases hs.ev x with e | e
  · rw [e]; exact trivial
  · rw [e]; exact h.ev x
end Go.OAI
