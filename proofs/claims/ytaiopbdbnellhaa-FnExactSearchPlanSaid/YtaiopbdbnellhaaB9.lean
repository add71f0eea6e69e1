/- What comes in is laid into objects of the frame. -/
import Derived.Test.YtaiopbdbnellhaaB8
namespace Go.OAI
set_option linter.unusedVariables false

variable {P : Program} {w0 : W0} {w w' : World} {B : Nat} {Io R R2 : Nat → Prop} {ρ ρ' : Nat → Option Pl} {Fr : Nat → Prop} {st s : St} {a : Act}

theorem obUpd_append (ob : Nat → Option Obj) : ∀ (xs ys : List (Nat × Option Obj)), obUpd ob (xs ++ ys) = obUpd (obUpd ob xs) ys
  | [], _ => rfl
  | (i, o) :: xs, ys => by simp only [List.cons_append, obUpd]; exact obUpd_append _ xs ys
def St.obs (st : St) (os : List (Nat × Option Obj)) : St := { st with ob := obUpd st.ob os }
theorem obs_append (st : St) (xs ys : List (Nat × Option Obj)) : st.obs (xs ++ ys) = (st.obs xs).obs ys := by
  simp only [St.obs]; rw [obUpd_append]
theorem obs_nil (st : St) : st.obs [] = st := rfl
theorem obs_one (st : St) (i : Nat) (o : Option Obj) : st.obs [(i, o)] = { st with ob := fun j => if j = i then o else st.ob j } := rfl
theorem app_obs (st : St) (d : Option Nat) (x : AVal) (os : List (Nat × Option Obj)) : st.app d ⟨x, os⟩ = (st.obs os).put d x := by
  cases d with
  | none => rfl
  | some d => simp only [St.app, St.put, St.obs]; unfold St.setTm; by_cases hd : d < st.n <;> simp [hd]

/-- The blocks that the frame's objects have. -/
def Live (st : St) (ρ : Nat → Option Pl) (b : Nat) : Prop := ∃ id o p, st.ob id = some o ∧ ρ id = some p ∧ blkO p b

theorem SR.dels (h : SR w0 B Io R ρ Fr st a w) (ids : List Nat) : SR w0 B Io R ρ Fr (st.obs (ids.map fun i => (i, none))) a w := by
  induction ids generalizing st with
  | nil => exact h
  | cons i ids ih =>
    have := ih (h.del i)
    exact this

theorem SR.world (h : SR w0 B Io R ρ Fr st a w) {C : Nat → Prop} (hC : ∀ b, C b → ¬ R b ∧ (B ≤ b ∨ Io b) ∧ ¬ Live st ρ b)
    (hw : ∀ b, b < w.heap.size → ¬ C b → w'.heap[b]? = w.heap[b]?) (hz : w.heap.size ≤ w'.heap.size) (hq : Quiet w w') : SR w0 B Io R ρ Fr st a w' := by
  have hs : Same R w w' := fun b hb => hw b (h.rlt b hb) fun hc => (hC b hc).1 hb
  refine { size := h.size, dfr := h.dfr, tm := fun t => (h.tm t).mono hs (fun _ hb => hb) (.refl _), ob := fun id o ho => ?_, sep := h.sep, own := ?_, rlt := ?_, frame := ?_, size0 := Nat.le_trans h.size0 hz, fr := h.fr, r0 := h.r0, r1 := h.r1, q := h.q.trans hq, par := h.par }
  · obtain ⟨p, h1, h2⟩ := h.ob id o ho
    exact ⟨p, h1, h2.mono hs (fun _ hb => hb) (.refl _) (fun b hb' => hw b (h.own id o p b ho h1 hb').1 fun hc => (hC b hc).2.2 ⟨id, o, p, ho, h1, hb'⟩)⟩
  · intro id o p b h1 h2 h3
    have := h.own id o p b h1 h2 h3
    exact ⟨Nat.lt_of_lt_of_le this.1 hz, this.2⟩
  · intro b hb; exact Nat.lt_of_lt_of_le (h.rlt b hb) hz
  · intro b hb hn
    rw [hw b (Nat.lt_of_lt_of_le hb h.size0) (fun hc => (hC b hc).2.1.elim (fun h => by omega) hn)]
    exact h.frame b hb hn

theorem SR.growR (h : SR w0 B Io R ρ Fr st a w) (hr : ∀ b, R b → R2 b) (h2 : ∀ b, R2 b → b < w.heap.size ∧ ¬ Live st ρ b) (h3 : ∀ b, R2 b → R b ∨ (B ≤ b ∨ Io b)) : SR w0 B Io R2 ρ Fr st a w where
  size := h.size
  dfr := h.dfr
  tm := fun t => (h.tm t).mono (.refl _ _) hr (.refl _)
  ob := fun id o ho => by
    obtain ⟨p, h1, h2⟩ := h.ob id o ho
    exact ⟨p, h1, h2.mono (.refl _ _) hr (.refl _) (fun _ _ => rfl)⟩
  sep := h.sep
  own := fun id o p b h1 h3 h4 => by
    have := h.own id o p b h1 h3 h4
    exact ⟨this.1, fun hb => (h2 b hb).2 ⟨id, o, p, h1, h3, h4⟩, this.2.2⟩
  rlt := fun b hb => (h2 b hb).1
  frame := h.frame
  size0 := h.size0
  r0 := fun b hb => hr b (h.r0 b hb)
  r1 := fun b hb => (h3 b hb).elim (h.r1 b) .inr
  q := h.q
  par := h.par
  fr := h.fr

/-- An object at a number that is known already. -/
theorem SR.renew (h : SR w0 B Io R ρ Fr st a w) {id : Nat} {o : Obj} {p : Pl} (hp : ρ id = some p) (ho : OA w R ρ p o) (hb : ∀ b, blkO p b → b < w.heap.size ∧ ¬ R b ∧ (B ≤ b ∨ Io b))
    (hsep : ∀ id' o' p' b, id' ≠ id → st.ob id' = some o' → ρ id' = some p' → blkO p b → blkO p' b → False) : SR w0 B Io R ρ Fr (st.obs [(id, some o)]) a w where
  size := h.size
  dfr := h.dfr
  tm := h.tm
  ob := fun i o' ho' => by
    simp only [obs_one] at ho'
    by_cases e : i = id
    · subst e; simp only [if_true] at ho'; cases ho'; exact ⟨p, hp, ho⟩
    · simp only [e, if_false] at ho'; exact h.ob i o' ho'
  sep := fun i o1 j o2 p1 p2 b hij h1 h2 g1 g2 b1 b2 => by
    simp only [obs_one] at h1 h2
    by_cases e : i = id
    · subst e
      have e' : ¬ j = i := fun h => hij h.symm
      simp only [e', if_false] at h2
      rw [hp] at g1; cases g1
      exact hsep j o2 p2 b e' h2 g2 b1 b2
    · simp only [e, if_false] at h1
      by_cases e' : j = id
      · subst e'
        rw [hp] at g2; cases g2
        exact hsep i o1 p1 b e h1 g1 b2 b1
      · simp only [e', if_false] at h2
        exact h.sep i o1 j o2 p1 p2 b hij h1 h2 g1 g2 b1 b2
  own := fun i o' q b h1 g1 b1 => by
    simp only [obs_one] at h1
    by_cases e : i = id
    · subst e; rw [hp] at g1; cases g1; exact hb b b1
    · simp only [e, if_false] at h1; exact h.own i o' q b h1 g1 b1
  rlt := h.rlt
  frame := h.frame
  size0 := h.size0
  r0 := h.r0
  r1 := h.r1
  q := h.q
  par := h.par
  fr := h.fr

/-- What is laid in: the state with the new objects; the old values stay. -/
structure Inst (w0 : W0) (B : Nat) (Io R : Nat → Prop) (ρ : Nat → Option Pl) (Fr : Nat → Prop) (st : St) (a : Act) (w : World) (i j : Nat) (S : Nat → Prop) (os : List (Nat × Option Obj)) (ρ' : Nat → Option Pl) : Prop where
  le : Leρ ρ ρ'
  ij : i ≤ j
  sr : SR w0 B Io R ρ' (fun t => Fr t ∧ ¬ (i ≤ t ∧ t < j)) (st.obs os) a w
  live : ∀ b, Live (st.obs os) ρ' b → Live st ρ b ∨ S b
  old : ∀ id, ¬ (i ≤ id ∧ id < j) → (st.obs os).ob id = st.ob id ∧ ρ' id = ρ id

theorem Inst.none (h : SR w0 B Io R ρ Fr st a w) (i : Nat) (S : Nat → Prop) : Inst w0 B Io R ρ Fr st a w i i S [] ρ :=
  ⟨.refl _, Nat.le_refl _, h.weaken fun _ hi => hi.1, fun b hb => .inl hb, fun _ _ => ⟨rfl, rfl⟩⟩

/-- One object is laid in. -/
theorem Inst.one (h : SR w0 B Io R ρ Fr st a w) {i : Nat} (hf : Fr i) {S : Nat → Prop} (hS : ∀ b, S b → (b < w.heap.size ∧ ¬ R b ∧ (B ≤ b ∨ Io b)) ∧ ¬ Live st ρ b) {o : Obj} {p : Pl} (ho : OA w R (fun t => if t = i then some p else ρ t) p o) (hb : ∀ b, blkO p b → S b) :
    Inst w0 B Io R ρ Fr st a w i (i + 1) S [(i, some o)] (fun t => if t = i then some p else ρ t) where
  le := h.ρmono hf p
  ij := by omega
  sr := (h.new hf ho (fun b hb' => (hS b (hb b hb')).1) (fun id' o' p' b h1 h2 h3 h4 => (hS b (hb b h3)).2 ⟨id', o', p', h1, h2, h4⟩)).weaken fun t ht => ⟨ht.1, fun e => ht.2 (by omega)⟩
  live := fun b ⟨id, o', p', h1, h2, h3⟩ => by
    simp only [obs_one] at h1
    by_cases e : id = i
    · subst e; simp only [if_true] at h2; cases h2; exact .inr (hb b h3)
    · simp only [e, if_false] at h1 h2; exact .inl ⟨id, o', p', h1, h2, h3⟩
  old := fun id hid => by
    have e : ¬ id = i := fun e => hid (by omega)
    simp [obs_one, e]

theorem Inst.trans {i j k : Nat} {S1 S2 : Nat → Prop} {os1 os2 : List (Nat × Option Obj)} {ρ1 ρ2 : Nat → Option Pl} (h1 : Inst w0 B Io R ρ Fr st a w i j S1 os1 ρ1)
    (h2 : Inst w0 B Io R ρ1 (fun t => Fr t ∧ ¬ (i ≤ t ∧ t < j)) (st.obs os1) a w j k S2 os2 ρ2) {S : Nat → Prop} (hS : ∀ b, S1 b ∨ S2 b → S b) : Inst w0 B Io R ρ Fr st a w i k S (os1 ++ os2) ρ2 where
  le := fun id p hp => h2.le id p (h1.le id p hp)
  ij := Nat.le_trans h1.ij h2.ij
  sr := by rw [obs_append]; exact h2.sr.weaken fun t ht => ⟨⟨ht.1, fun e => ht.2 ⟨e.1, Nat.lt_of_lt_of_le e.2 h2.ij⟩⟩, fun e => ht.2 ⟨Nat.le_trans h1.ij e.1, e.2⟩⟩
  live := fun b hb => by
    rw [obs_append] at hb
    rcases h2.live b hb with h | h
    · rcases h1.live b h with h | h
      · exact .inl h
      · exact .inr (hS b (.inl h))
    · exact .inr (hS b (.inr h))
  old := fun id hid => by
    rw [obs_append]
    have a1 := h2.old id fun e => hid ⟨Nat.le_trans h1.ij e.1, e.2⟩
    have a2 := h1.old id fun e => hid ⟨e.1, Nat.lt_of_lt_of_le e.2 h2.ij⟩
    exact ⟨a1.1.trans a2.1, a1.2.trans a2.2⟩

/-- Where memory that comes in may lie. -/
def Fits (R : Nat → Prop) (B : Nat) (Io : Nat → Prop) (st : St) (ρ : Nat → Option Pl) (w : World) (S : Nat → Prop) : Prop :=
  ∀ b, S b → (b < w.heap.size ∧ ¬ R b ∧ (B ≤ b ∨ Io b)) ∧ ¬ Live st ρ b

theorem instCells_le : ∀ (cs : List AVal) (i : Nat), i ≤ (instCells cs i).2.2
  | [], _ => Nat.le_refl _
  | x :: cs, i => by
    have h0 := instCells_le cs i
    have h1 := Nat.le_trans (Nat.le_succ i) (instCells_le cs (i + 1))
    cases x <;> first | exact h0 | exact h1
theorem instCells_one_le (x : AVal) (cs : List AVal) (i : Nat) : (instCells [x] i).2.2 ≤ (instCells (x :: cs) i).2.2 := by
  have h0 := instCells_le cs i
  have h1 := instCells_le cs (i + 1)
  cases x <;> first | exact h0 | exact h1
theorem instArg_le (x : AVal) (i : Nat) : i ≤ (instArg x i).2.2 := by
  cases x <;> first | exact Nat.le_refl _ | exact Nat.le_succ _ | exact instCells_le _ _ | exact Nat.le_trans (Nat.le_succ i) (instCells_le _ (i + 1))
theorem instList_le : ∀ (xs : List AVal) (i : Nat), i ≤ (instList xs i).2.2
  | [], _ => Nat.le_refl _
  | x :: xs, i => by
    simp only [instList]
    exact Nat.le_trans (instArg_le x i) (instList_le xs _)
theorem inst_cell (h : SR w0 B Io R ρ Fr st a w) {i : Nat} {v : Value} {S : Nat → Prop} {x : AVal} (hf : ∀ t, i ≤ t → t < (instCells [x] i).2.2 → Fr t) (hx : CT w R v S x) (hS : Fits R B Io st ρ w S) :
    ∃ y os j ρ', (∀ r, instCells (x :: r) i = (y :: (instCells r j).1, os ++ (instCells r j).2.1, (instCells r j).2.2)) ∧ Inst w0 B Io R ρ Fr st a w i j S os ρ' ∧ CA w R ρ' v y := by
  have plain : (∀ T l, x ≠ .osl T l) → (∀ T l, x ≠ .omat T l) → ∃ y os j ρ', (∀ r, instCells (x :: r) i = (y :: (instCells r j).1, os ++ (instCells r j).2.1, (instCells r j).2.2)) ∧ Inst w0 B Io R ρ Fr st a w i j S os ρ' ∧ CA w R ρ' v y := by
    intro h1 h2
    refine ⟨x, [], i, ρ, fun r => ?_, .none h i S, CA.ofR (by rw [ct_ra x h1 h2] at hx; exact hx)⟩
    cases x <;> first | rfl | exact absurd rfl (h1 _ _) | exact absurd rfl (h2 _ _)
  cases x
  case osl T l =>
    obtain ⟨Sp, h1, h2, h3⟩ := hx
    exact ⟨.sref i none none, [(i, some (.sl T l))], i + 1, _, fun r => rfl, .one h (hf i (Nat.le_refl _) (by simp [instCells])) hS (o := .sl T l) (p := .sl Sp l.length) ⟨Sp, rfl, h2⟩ h3, Sp, l.length, by simp [plS], h1⟩
  case omat T l =>
    obtain ⟨Sp, rows, h1, h2, h3⟩ := hx
    exact ⟨.sref i none none, [(i, some (.mat T l))], i + 1, _, fun r => rfl, .one h (hf i (Nat.le_refl _) (by simp [instCells])) hS (o := .mat T l) (p := .mat Sp l.length rows) (h2.mono (.refl _ _) (fun _ hb => hb) (fun _ _ e => by cases e) (fun _ _ => rfl)) h3, Sp, l.length, by simp [plS], h1⟩
  all_goals exact plain (by simp) (by simp)

theorem CTs.tail {vs : Nat → Option Value} {x : AVal} {cs : List AVal} {S : Nat → Prop} (h : CTs w R vs (x :: cs) S) :
    ∃ u S0 S1, vs 0 = some u ∧ CT w R u S0 x ∧ CTs w R (fun i => vs (i + 1)) cs S1 ∧ (∀ b, S0 b → S1 b → False) ∧ ∀ b, S0 b ∨ S1 b → S b := by
  obtain ⟨Ss, h1, h2, h3⟩ := h
  obtain ⟨u, g1, g2⟩ := h1 0 x rfl
  refine ⟨u, Ss 0, fun b => ∃ i, Ss (i + 1) b, g1, g2, ⟨fun i => Ss (i + 1), fun i y hy => h1 (i + 1) y (by simpa using hy), fun i j b hij => h2 (i + 1) (j + 1) b (by omega), fun i b hb => ⟨i, hb⟩⟩, fun b hb ⟨i, hi⟩ => h2 0 (i + 1) b (by omega) hb hi, ?_⟩
  rintro b (hb | ⟨i, hi⟩)
  · exact h3 0 b hb
  · exact h3 (i + 1) b hi

theorem Fits.next {S0 S1 : Nat → Prop} {i j : Nat} {os : List (Nat × Option Obj)} (hi : Inst w0 B Io R ρ Fr st a w i j S0 os ρ') (h1 : Fits R B Io st ρ w S1) (hd : ∀ b, S0 b → S1 b → False) : Fits R B Io (st.obs os) ρ' w S1 := fun b hb =>
  ⟨(h1 b hb).1, fun hl => (hi.live b hl).elim (h1 b hb).2 fun h => hd b h hb⟩

theorem inst_cells : ∀ {cs : List AVal} {ρ : Nat → Option Pl} {Fr : Nat → Prop} {st : St} {i : Nat} {vs : Nat → Option Value} {S : Nat → Prop}, SR w0 B Io R ρ Fr st a w → (∀ t, i ≤ t → t < (instCells cs i).2.2 → Fr t) → CTs w R vs cs S → Fits R B Io st ρ w S →
    ∃ ρ', Inst w0 B Io R ρ Fr st a w i (instCells cs i).2.2 S (instCells cs i).2.1 ρ' ∧ (instCells cs i).1.length = cs.length ∧ ∀ (t : Nat) y, (instCells cs i).1[t]? = some y → ∃ u, vs t = some u ∧ CA w R ρ' u y
  | [], ρ, Fr, st, i, vs, S, h, hf, hc, hS => ⟨ρ, .none h i S, rfl, fun t y hy => by simp [instCells] at hy⟩
  | x :: cs, ρ, Fr, st, i, vs, S, h, hf, hc, hS => by
    obtain ⟨u, S0, S1, g1, g2, g3, g4, g5⟩ := hc.tail
    obtain ⟨y, os, j, ρ1, e1, e2, e3⟩ := inst_cell h (fun t h1 h2 => hf t h1 (Nat.lt_of_lt_of_le h2 (instCells_one_le x cs i))) g2 (fun b hb => hS b (g5 b (.inl hb)))
    have hij := e2.ij
    obtain ⟨ρ2, f1, f2, f3⟩ := inst_cells (cs := cs) (i := j) e2.sr (fun t ht ht' => ⟨hf t (by omega) (by rw [e1 cs]; exact ht'), fun e => by omega⟩) g3 (Fits.next e2 (fun b hb => hS b (g5 b (.inr hb))) g4)
    rw [e1 cs]
    refine ⟨ρ2, e2.trans f1 g5, by simp [f2], fun t z hz => ?_⟩
    match t with
    | 0 => simp at hz; subst hz; exact ⟨u, g1, e3.mono (.refl _ _) (fun _ hb => hb) f1.le⟩
    | t + 1 => exact f3 t z (by simpa using hz)

theorem inst_arg {x : AVal} {i : Nat} {v : Value} {S : Nat → Prop} (h : SR w0 B Io R ρ Fr st a w) (hf : ∀ t, i ≤ t → t < (instArg x i).2.2 → Fr t) (hx : AT w R v S x) (hS : Fits R B Io st ρ w S) :
    ∃ ρ', Inst w0 B Io R ρ Fr st a w i (instArg x i).2.2 S (instArg x i).2.1 ρ' ∧ VA1 w R ρ' v (instArg x i).1 := by
  cases x
  case agg cs =>
    obtain ⟨us, h1, h2, h3⟩ := hx
    obtain ⟨ρ', g1, g2, g3⟩ := inst_cells h hf h3 hS
    refine ⟨ρ', g1, us, h1, by rw [h2]; exact g2.symm, fun t u y hu hy => ?_⟩
    obtain ⟨u', e1, e2⟩ := g3 t y hy
    rw [hu] at e1; cases e1; exact e2
  case obox cs =>
    obtain ⟨b, off, arr, E, h1, h2, h3, S', h4, h5, h6⟩ := hx
    obtain ⟨ρ1, g1, g2, g3⟩ := inst_cells (i := i + 1) h (fun t ht ht' => hf t (by omega) ht') h4 (fun b' hb' => hS b' (h6 b' hb'))
    have hle := instCells_le cs (i + 1)
    have hfi : Fr i := hf i (Nat.le_refl _) (by show i < (instCells cs (i + 1)).2.2; omega)
    have hlt : ¬ (i + 1 ≤ i ∧ i < (instCells cs (i + 1)).2.2) := by omega
    have hbox := Inst.one (i := i) (S := fun b' => b' = b) g1.sr ⟨hfi, hlt⟩ (fun b' hb' => by
      subst hb'
      exact ⟨(hS b' h3).1, fun hl => (g1.live b' hl).elim (hS b' h3).2 h5⟩) (o := .box (instCells cs (i + 1)).1) (p := .box b off) ⟨b, off, arr, E, rfl, h2, fun t y hy => by
        obtain ⟨u, e1, e2⟩ := g3 t y hy
        exact ⟨u, e1, e2.mono (.refl _ _) (fun _ hb => hb) (g1.sr.ρmono ⟨hfi, hlt⟩ _)⟩⟩ (fun b' hb' => hb'.symm)
    have hij := g1.ij
    refine ⟨_, ⟨fun id p hp => hbox.le id p (g1.le id p hp), by show i ≤ (instCells cs (i + 1)).2.2; omega, ?_, fun b' hb' => ?_, fun id hid => ?_⟩, b, off, by simp, by simpa using h1⟩
    · show SR _ _ _ _ _ _ (st.obs ((instCells cs (i + 1)).2.1 ++ [(i, some (.box (instCells cs (i + 1)).1))])) _ _
      rw [obs_append]
      exact hbox.sr.weaken fun t ht => ⟨⟨ht.1, fun e => ht.2 ⟨by omega, e.2⟩⟩, fun e => ht.2 ⟨e.1, show t < (instCells cs (i + 1)).2.2 by omega⟩⟩
    · have hb' : Live (st.obs ((instCells cs (i + 1)).2.1 ++ [(i, some (.box (instCells cs (i + 1)).1))])) _ b' := hb'
      rw [obs_append] at hb'
      rcases hbox.live b' hb' with h | h
      · rcases g1.live b' h with h | h
        · exact .inl h
        · exact .inr (h6 b' h)
      · subst h; exact .inr h3
    · have hid : ¬ (i ≤ id ∧ id < (instCells cs (i + 1)).2.2) := hid
      show (st.obs ((instCells cs (i + 1)).2.1 ++ [(i, some (.box (instCells cs (i + 1)).1))])).ob id = _ ∧ _
      rw [obs_append]
      have a1 := hbox.old id fun e => hid (by omega)
      have a2 := g1.old id fun e => hid ⟨by omega, e.2⟩
      exact ⟨a1.1.trans a2.1, a1.2.trans a2.2⟩
  case osl T l =>
    obtain ⟨y, os, j, ρ', e1, e2, e3⟩ := inst_cell h (x := .osl T l) hf hx hS
    have := e1 []
    simp only [instCells, Prod.mk.injEq, List.cons.injEq] at this
    obtain ⟨⟨rfl, _⟩, h2, h3⟩ := this
    simp at h2
    subst h2; subst h3
    exact ⟨ρ', e2, VA1.ofC e3⟩
  case omat T l =>
    obtain ⟨y, os, j, ρ', e1, e2, e3⟩ := inst_cell h (x := .omat T l) hf hx hS
    have := e1 []
    simp only [instCells, Prod.mk.injEq, List.cons.injEq] at this
    obtain ⟨⟨rfl, _⟩, h2, h3⟩ := this
    simp at h2
    subst h2; subst h3
    exact ⟨ρ', e2, VA1.ofC e3⟩
  case undef => exact ⟨ρ, .none h i S, trivial⟩
  all_goals exact ⟨ρ, .none h i S, VA1.ofC (CA.ofR hx)⟩

/-- Several arguments or results, their memories apart. -/
def ALs (w : World) (R : Nat → Prop) (L : List (Value × AVal)) (C : Nat → Prop) : Prop :=
  ∃ Ss : Nat → Nat → Prop, (∀ (i : Nat) p, L[i]? = some p → AT w R p.1 (Ss i) p.2) ∧ (∀ i j b, i ≠ j → Ss i b → Ss j b → False) ∧ ∀ i b, Ss i b → C b
theorem ALs.tail {p : Value × AVal} {L : List (Value × AVal)} {C : Nat → Prop} (h : ALs w R (p :: L) C) :
    ∃ S0 S1, AT w R p.1 S0 p.2 ∧ ALs w R L S1 ∧ (∀ b, S0 b → S1 b → False) ∧ ∀ b, S0 b ∨ S1 b → C b := by
  obtain ⟨Ss, h1, h2, h3⟩ := h
  refine ⟨Ss 0, fun b => ∃ i, Ss (i + 1) b, h1 0 p rfl, ⟨fun i => Ss (i + 1), fun i y hy => h1 (i + 1) y (by simpa using hy), fun i j b hij => h2 (i + 1) (j + 1) b (by omega), fun i b hb => ⟨i, hb⟩⟩, fun b hb ⟨i, hi⟩ => h2 0 (i + 1) b (by omega) hb hi, ?_⟩
  rintro b (hb | ⟨i, hi⟩)
  · exact h3 0 b hb
  · exact h3 (i + 1) b hi

theorem inst_list : ∀ {L : List (Value × AVal)} {ρ : Nat → Option Pl} {Fr : Nat → Prop} {st : St} {i : Nat} {C : Nat → Prop}, SR w0 B Io R ρ Fr st a w → (∀ t, i ≤ t → t < (instList (L.map (·.2)) i).2.2 → Fr t) → ALs w R L C → Fits R B Io st ρ w C →
    ∃ ρ', Inst w0 B Io R ρ Fr st a w i (instList (L.map (·.2)) i).2.2 C (instList (L.map (·.2)) i).2.1 ρ' ∧ (instList (L.map (·.2)) i).1.length = L.length ∧ ∀ (t : Nat) p y, L[t]? = some p → (instList (L.map (·.2)) i).1[t]? = some y → VA1 w R ρ' p.1 y
  | [], ρ, Fr, st, i, C, h, hf, hc, hS => ⟨ρ, .none h i C, rfl, fun t p y hp => by simp at hp⟩
  | p :: L, ρ, Fr, st, i, C, h, hf, hc, hS => by
    obtain ⟨S0, S1, g2, g3, g4, g5⟩ := hc.tail
    obtain ⟨ρ1, e2, e3⟩ := inst_arg h (fun t h1 h2 => hf t h1 (Nat.lt_of_lt_of_le h2 (instList_le _ _))) g2 (fun b hb => hS b (g5 b (.inl hb)))
    have hij := e2.ij
    obtain ⟨ρ2, f1, f2, f3⟩ := inst_list (L := L) (i := (instArg p.2 i).2.2) e2.sr (fun t ht ht' => ⟨hf t (Nat.le_trans hij ht) ht', fun e => Nat.lt_irrefl _ (Nat.lt_of_le_of_lt ht e.2)⟩) g3 (Fits.next e2 (fun b hb => hS b (g5 b (.inr hb))) g4)
    refine ⟨ρ2, e2.trans f1 g5, by simp [instList, f2], fun t q z hq hz => ?_⟩
    simp only [List.map_cons, instList] at hz
    match t with
    | 0 => simp at hq hz; subst hq; subst hz; exact e3.mono (.refl _ _) (fun _ hb => hb) f1.le
    | t + 1 => exact f3 t q z (by simpa using hq) (by simpa using hz)
end Go.OAI
