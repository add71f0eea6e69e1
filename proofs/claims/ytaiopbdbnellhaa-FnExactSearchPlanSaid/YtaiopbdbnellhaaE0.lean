/- Freezing; the state at a loop's head. -/
import Derived.Test.YtaiopbdbnellhaaD4
namespace Go.OAI
set_option linter.unusedVariables false

variable {P : Program} {w0 : W0} {w : World} {B : Nat} {Io R : Nat → Prop} {ρ : Nat → Option Pl} {Fr : Nat → Prop} {st s : St} {a : Act}

/-! ### Freezing -/
def FrzB (st : St) (ρ : Nat → Option Pl) (ids : List Nat) (b : Nat) : Prop := ∃ id ∈ ids, ∃ o p, st.ob id = some o ∧ ρ id = some p ∧ blkO p b

theorem frz1_CA (h : SR w0 B Io R ρ Fr st a w) (ids : List Nat) {v : Value} {x : AVal} (hx : CA w R ρ v x) : CA w (fun b => R b ∨ FrzB st ρ ids b) ρ v (frz1 st ids x) := by
  have mono : ∀ {y : AVal}, CA w R ρ v y → CA w (fun b => R b ∨ FrzB st ρ ids b) ρ v y := fun hy => hy.mono (.refl _ _) (fun _ hb => .inl hb) (.refl _)
  cases x
  case sref id row win =>
    unfold frz1
    dsimp only
    split
    · rename_i hid
      cases hf : full st id row with
      | none => exact hx.one
      | some z =>
        obtain ⟨T, l⟩ := z
        refine CA.ofR (resCell_ro (R2 := fun b => R b ∨ FrzB st ρ ids b) h hx (y := .sl T (winL win l)) (by simp [resCell, hf]) (fun b hb => .inl hb) fun b hb => .inr ?_)
        have hid : id ∈ ids := by simpa using hid
        obtain ⟨o, ho⟩ : ∃ o, st.ob id = some o := by
          cases ho : st.ob id with
          | none => simp [full, ho] at hf
          | some o => exact ⟨o, rfl⟩
        obtain ⟨p, hp, _⟩ := h.ob id o ho
        refine ⟨id, hid, o, p, ho, hp, ?_⟩
        simp only [cellBlk] at hb
        cases row with
        | none => obtain ⟨p', hp', hb⟩ := hb; rw [hp] at hp'; cases hp'; exact hb
        | some r =>
          obtain ⟨o', p', g1, g2, g3⟩ := blkR_obj (q := (id, some r)) h ⟨by rw [ho]; simp, hb⟩
          rw [hp] at g2; cases g2; exact g3
    · exact mono hx
  case ptr id c =>
    unfold frz1
    dsimp only
    split
    · exact hx.one
    · exact mono hx
  case eptr id row i c =>
    unfold frz1
    dsimp only
    split
    · exact hx.one
    · exact mono hx
  all_goals exact mono hx
theorem VA_CA {v : Value} {x : AVal} (h1 : ∀ cs, x ≠ .agg cs) (h2 : ∀ vs, x ≠ .tup vs) (h3 : x ≠ .undef) (hx : VA w R ρ v x) : CA w R ρ v x := by
  cases x <;> first | exact hx | exact absurd rfl (h1 _) | exact absurd rfl (h2 _) | exact absurd rfl h3
theorem frzV_VA (h : SR w0 B Io R ρ Fr st a w) (ids : List Nat) {v : Value} {x : AVal} (hx : VA w R ρ v x) : VA w (fun b => R b ∨ FrzB st ρ ids b) ρ v (frzV st ids x) := by
  cases x
  case agg cs =>
    obtain ⟨us, h1, h2, h3⟩ := hx
    refine ⟨us, h1, by simp [h2], fun i u y hu hy => ?_⟩
    simp only [List.getElem?_map, Option.map_eq_some_iff] at hy
    obtain ⟨z, hz, rfl⟩ := hy
    exact frz1_CA h ids (h3 i u z hu hz)
  case tup => exact trivial
  case undef => exact trivial
  all_goals exact VA.ofC (frz1_CA h ids (VA_CA (by simp) (by simp) (by simp) hx))

theorem SR.frz (h : SR w0 B Io R ρ Fr st a w) (ids : List Nat) : SR w0 B Io (fun b => R b ∨ FrzB st ρ ids b) ρ Fr (st.frz ids) a w := by
  have key : ∀ {id : Nat} {o : Obj}, (st.frz ids).ob id = some o → id ∉ ids ∧ ∃ o', st.ob id = some o' ∧ o = frzO st ids o' := fun {id o} ho => by
    simp only [St.frz] at ho
    split at ho
    · cases ho
    · rename_i hid
      split at ho
      · rename_i o' ho'
        cases ho
        exact ⟨by simpa using hid, o', ho', rfl⟩
      · cases ho
  refine { size := h.size, dfr := h.dfr, tm := fun t => frzV_VA h ids (h.tm t), ob := fun id o ho => ?_, sep := fun i o1 j o2 p1 p2 b hij h1 h2 => ?_, own := fun id o p b ho hp hb => ?_, rlt := fun b hb => ?_, frame := h.frame, size0 := h.size0, fr := h.fr, r0 := fun b hb => .inl (h.r0 b hb), r1 := fun b hb => ?_, q := h.q, par := h.par }
  · obtain ⟨_, o', ho', rfl⟩ := key ho
    obtain ⟨p, hp, hoa⟩ := h.ob id o' ho'
    refine ⟨p, hp, ?_⟩
    have hoa := hoa.mono (R' := fun b => R b ∨ FrzB st ρ ids b) (.refl _ _) (fun _ hb => .inl hb) (.refl ρ) (fun _ _ => rfl)
    cases o' with
    | box cs =>
      obtain ⟨p2, hp2, b, off, arr, E, rfl, e2, e3⟩ := h.ob id _ ho'
      rw [hp] at hp2; cases hp2
      refine ⟨b, off, arr, E, rfl, e2, fun k x hx => ?_⟩
      simp only [List.getElem?_map, Option.map_eq_some_iff] at hx
      obtain ⟨z, hz, rfl⟩ := hx
      obtain ⟨u, g1, g2⟩ := e3 k z hz
      exact ⟨u, g1, frz1_CA h ids g2⟩
    | sl T l => exact hoa
    | mat T l => exact hoa
  · obtain ⟨_, o1', e1, _⟩ := key h1
    obtain ⟨_, o2', e2, _⟩ := key h2
    exact h.sep i o1' j o2' p1 p2 b hij e1 e2
  · obtain ⟨hid, o', ho', _⟩ := key ho
    obtain ⟨z1, z2, z3⟩ := h.own id o' p b ho' hp hb
    refine ⟨z1, ?_, z3⟩
    rintro (h' | ⟨id2, hid2, o2, p2, g1, g2, g3⟩)
    · exact z2 h'
    · exact h.sep id o' id2 o2 p p2 b (fun e => hid (by rw [e]; exact hid2)) ho' g1 hp g2 hb g3
  · rcases hb with hb | ⟨id2, hid2, o2, p2, g1, g2, g3⟩
    · exact h.rlt b hb
    · exact (h.own id2 o2 p2 b g1 g2 g3).1
  · rcases hb with hb | ⟨id2, hid2, o2, p2, g1, g2, g3⟩
    · exact h.r1 b hb
    · exact .inr (h.own id2 o2 p2 b g1 g2 g3).2.2

/-! ### The state at a loop's head -/
def renρ (ρ : Nat → Option Pl) (ids : List Nat) (k : Nat) : Option Pl := (ids[k]?).bind ρ
theorem idxOf_get {ids : List Nat} {id k : Nat} (h : ids.idxOf? id = some k) : ids[k]? = some id := by
  unfold List.idxOf? at h
  rw [List.findIdx?_eq_some_iff_getElem] at h
  obtain ⟨hk, h1, _⟩ := h
  rw [List.getElem?_eq_getElem hk]
  simpa using h1
theorem ren_CA {ids : List Nat} {v : Value} {x : AVal} (hx : CA w R ρ v x) : CA w R (renρ ρ ids) v (renV1 ids x) := by
  cases x
  case sref id row win =>
    unfold renV1
    dsimp only
    split
    · rename_i k hk
      obtain ⟨S, n, h1, h2⟩ := hx
      exact ⟨S, n, by simp [renρ, idxOf_get hk, h1], h2⟩
    · exact hx.one
  case ptr id c =>
    unfold renV1
    dsimp only
    split
    · rename_i k hk
      obtain ⟨b, off, h1, h2⟩ := hx
      exact ⟨b, off, by simp [renρ, idxOf_get hk, h1], h2⟩
    · exact hx.one
  case eptr id row i c =>
    unfold renV1
    dsimp only
    split
    · rename_i k hk
      obtain ⟨S, n, b, off, h1, h2⟩ := hx
      exact ⟨S, n, b, off, by simp [renρ, idxOf_get hk, h1], h2⟩
    · exact hx.one
  all_goals first
    | exact hx.one
    | exact hx
theorem ren_VA {ids : List Nat} {v : Value} {x : AVal} (hx : VA w R ρ v x) : VA w R (renρ ρ ids) v (renV ids x) := by
  cases x
  case agg cs =>
    obtain ⟨us, h1, h2, h3⟩ := hx
    refine ⟨us, h1, by simp [h2], fun i u y hu hy => ?_⟩
    simp only [List.getElem?_map, Option.map_eq_some_iff] at hy
    obtain ⟨z, hz, rfl⟩ := hy
    exact ren_CA (h3 i u z hu hz)
  case tup => exact trivial
  case undef => exact trivial
  case osl => exact trivial
  case omat => exact trivial
  case obox => exact trivial
  case fn => exact trivial
  all_goals
    have := ren_CA (ids := ids) (VA_CA (by simp) (by simp) (by simp) hx)
    exact VA.ofC this
theorem lookS_map {f : Nat → AVal} : ∀ {l : List Nat} {t : Nat}, lookS (l.map fun s => (s, f s)) t = f t ∨ lookS (l.map fun s => (s, f s)) t = .undef
  | [], _ => .inr rfl
  | s :: l, t => by
    simp only [List.map_cons, lookS]
    split
    · rename_i e; subst e; exact .inl rfl
    · exact lookS_map
theorem getObs_get {ids : List Nat} : ∀ {l : List Nat} {os : List Obj}, getObs st ids l = some os → os.length = l.length ∧ ∀ (k : Nat) (o : Obj), os[k]? = some o → ∃ (i : Nat) (o' : Obj), l[k]? = some i ∧ st.ob i = some o' ∧ o = renO ids o'
  | [], os, h => by cases h; exact ⟨rfl, fun k o h => by simp at h⟩
  | i :: l, os, h => by
    simp only [getObs] at h
    split at h
    · rename_i o ho
      split at h
      · rename_i os' hos
        cases h
        obtain ⟨g1, g2⟩ := getObs_get hos
        refine ⟨by simp [g1], fun k x hx => ?_⟩
        match k with
        | 0 => simp at hx; subst hx; exact ⟨i, o, rfl, ho, rfl⟩
        | k + 1 => obtain ⟨j, o', e1, e2, e3⟩ := g2 k x (by simpa using hx); exact ⟨j, o', by simpa using e1, e2, e3⟩
      · cases h
    · cases h
theorem gc0_sound {h : GCH} {c : Can} {nx : Nat} (hs : In w0 B Io nx st a w) (he : gc0 h st = some c) : In w0 B Io c.objs.length (ofCan st.n c) a w := by
  obtain ⟨R, ρ, hs⟩ := hs
  unfold gc0 at he
  split at he
  · rename_i ids hids
    split at he
    · rename_i hn
      have hn := of_decide_eq_true hn
      split at he
      · rename_i os hos
        split at he
        rotate_left
        · cases he
        rename_i hpr
        cases he
        obtain ⟨g1, g2⟩ := getObs_get hos
        have key : ∀ {k : Nat} {o : Obj}, os[k]? = some o → ∃ i o', ids[k]? = some i ∧ st.ob i = some o' ∧ o = renO ids o' := fun {k o} ho => g2 k o ho
        refine ⟨R, renρ ρ ids, { size := hs.size, dfr := hs.dfr, tm := fun t => ?_, ob := fun k o ho => ?_, sep := fun i o1 j o2 p1 p2 b hij h1 h2 q1 q2 => ?_, own := fun k o p b ho hp hb => ?_, rlt := hs.rlt, frame := hs.frame, size0 := hs.size0, fr := fun k hk => ?_, r0 := hs.r0, r1 := hs.r1, q := hs.q, par := fun k v hk => hs.par k v (by have := List.all_eq_true.1 hpr k hk; simpa using this) }⟩
        · show VA _ _ _ _ (lookS _ t)
          rcases lookS_map (f := fun s => renV ids (st.tm s)) (l := h.slots) (t := t) with e | e
          · rw [e]; exact ren_VA (hs.tm t)
          · rw [e]; exact trivial
        · obtain ⟨i, o', e1, e2, rfl⟩ := key ho
          obtain ⟨p, hp, hoa⟩ := hs.ob i o' e2
          refine ⟨p, by simp [renρ, e1, hp], ?_⟩
          cases o' with
          | box cs =>
            obtain ⟨b, off, arr, E, rfl, f2, f3⟩ := hoa
            refine ⟨b, off, arr, E, rfl, f2, fun k x hx => ?_⟩
            simp only [List.getElem?_map, Option.map_eq_some_iff] at hx
            obtain ⟨z, hz, rfl⟩ := hx
            obtain ⟨u, q1, q2⟩ := f3 k z hz
            exact ⟨u, q1, ren_CA q2⟩
          | sl T l => exact hoa
          | mat T l => exact hoa
        · obtain ⟨i', o1', e1, e2, _⟩ := key h1
          obtain ⟨j', o2', f1, f2, _⟩ := key h2
          refine hs.sep i' o1' j' o2' p1 p2 b (fun e => hij ?_) e2 f2 (by simpa [renρ, e1] using q1) (by simpa [renρ, f1] using q2)
          subst e
          have hi := List.getElem?_eq_some_iff.1 e1
          have hj := List.getElem?_eq_some_iff.1 f1
          obtain ⟨hi1, hi2⟩ := hi
          obtain ⟨hj1, hj2⟩ := hj
          have hpw := List.pairwise_iff_getElem.1 hn
          rcases Nat.lt_trichotomy i j with h' | h' | h'
          · exact absurd (hi2.trans hj2.symm) (hpw i j hi1 hj1 h')
          · exact h'
          · exact absurd (hj2.trans hi2.symm) (hpw j i hj1 hi1 h')
        · obtain ⟨i, o', e1, e2, _⟩ := key ho
          exact hs.own i o' p b e2 (by simpa [renρ, e1] using hp) hb
        · have hk : os.length ≤ k := hk
          have : ids[k]? = none := List.getElem?_eq_none (by omega)
          simp [renρ, this]
      · cases he
    · cases he
  · cases he

theorem setSel_sound (h : SR w0 B Io R ρ Fr st a w) {sl : Sel} {x y : AVal} (hx : selV st sl = x) (h1 : ∀ cs, x ≠ .agg cs) (h2 : ∀ vs, x ≠ .tup vs) (h3 : x ≠ .undef) (hxy : ∀ v, CA w R ρ v x → CA w R ρ v y) : SR w0 B Io R ρ Fr (setSel st y sl) a w := by
  cases sl with
  | slot t =>
    refine { h with tm := fun u => ?_ }
    show VA w R ρ (a.tmps.getD u undef) (if u = t then y else st.tm u)
    split
    · rename_i e
      subst e
      have := h.tm u
      have hx : st.tm u = x := hx
      rw [hx] at this
      exact VA.ofC (hxy _ (VA_CA h1 h2 h3 this))
    · exact h.tm u
  | cell t c =>
    simp only [selV] at hx
    simp only [setSel]
    split
    · rename_i id c' hid
      rw [hid] at hx
      dsimp only at hx
      split
      · rename_i cs hob
        rw [hob] at hx
        dsimp only at hx
        obtain ⟨p, hp, hoa⟩ := h.ob id _ hob
        refine h.chg hob hp (fun _ _ => rfl) rfl (.refl w) fun _ => ?_
        obtain ⟨b, off, arr, E, rfl, e2, e3⟩ := hoa
        refine ⟨b, off, arr, E, rfl, e2, fun k z hz => ?_⟩
        by_cases hk : c = k
        · subst hk
          have hlt : c < cs.length := by have := lt_of_get hz; simpa using this
          rw [List.getElem?_set_self hlt] at hz
          cases hz
          have hcx : cs[c]? = some x := by
            rw [List.getD_eq_getElem?_getD, List.getElem?_eq_getElem hlt] at hx
            rw [List.getElem?_eq_getElem hlt]
            exact congrArg some hx
          obtain ⟨u, g1, g2⟩ := e3 c x hcx
          exact ⟨u, g1, hxy u g2⟩
        · rw [List.getElem?_set_ne hk] at hz
          exact e3 k z hz
      · exact h
    · exact h
  | fld t c =>
    simp only [selV] at hx
    simp only [setSel]
    split
    · rename_i cs hcs
      rw [hcs] at hx
      dsimp only at hx
      refine { h with tm := fun u => ?_ }
      show VA w R ρ (a.tmps.getD u undef) (if u = t then .agg (cs.set c y) else st.tm u)
      split
      · rename_i e
        subst e
        have hv := h.tm u
        rw [hcs] at hv
        obtain ⟨us, e1, e2, e3⟩ := hv
        refine ⟨us, e1, by simp [e2], fun k v z hv hz => ?_⟩
        by_cases hk : c = k
        · subst hk
          have hlt : c < cs.length := by have := lt_of_get hz; simpa using this
          rw [List.getElem?_set_self hlt] at hz
          cases hz
          have hcx : cs[c]? = some x := by
            rw [List.getD_eq_getElem?_getD, List.getElem?_eq_getElem hlt] at hx
            rw [List.getElem?_eq_getElem hlt]
            exact congrArg some hx
          exact hxy v (e3 c v x hv hcx)
        · rw [List.getElem?_set_ne hk] at hz
          exact e3 k v z hv hz
      · exact h.tm u
    · exact h

theorem setSel_n (st : St) (v : AVal) (sl : Sel) : (setSel st v sl).n = st.n ∧ (setSel st v sl).nx = st.nx := by
  cases sl with
  | slot t => exact ⟨rfl, rfl⟩
  | cell t c =>
    simp only [setSel]
    split
    · split <;> exact ⟨rfl, rfl⟩
    · exact ⟨rfl, rfl⟩
  | fld t c =>
    simp only [setSel]
    split <;> exact ⟨rfl, rfl⟩
theorem pre1_n (st : St) (p : Pre) : (pre1 st p).n = st.n := by
  cases p <;> simp only [pre1] <;> split <;> first | rfl | exact (setSel_n _ _ _).1 | (split <;> first | rfl | exact (setSel_n _ _ _).1)
theorem pres_n : ∀ (ps : List Pre) (st : St), (pres st ps).n = st.n
  | [], _ => rfl
  | p :: ps, st => by simp only [pres]; rw [pres_n ps, pre1_n]

theorem pre1_sound (h : In w0 B Io st.nx st a w) (p : Pre) : In w0 B Io (pre1 st p).nx (pre1 st p) a w := by
  obtain ⟨R, ρ, h⟩ := h
  cases p with
  | own sl T =>
    simp only [pre1]
    split
    · rename_i hx
      have hnew := h.new (id := st.nx) (Nat.le_refl _) (o := .sl T []) (p := .sl ⟨none, 0, T.cells⟩ 0) ⟨_, rfl, rfl, by simp, fun h => absurd rfl h⟩ (fun b hb => absurd rfl hb.1) (fun _ _ _ b _ _ hb => absurd rfl hb.1)
      have hnx : ∀ id o, st.ob id = some o → id ≠ st.nx := fun id o ho e => by
        obtain ⟨p, hp, _⟩ := h.ob id o ho
        rw [h.fr id (by rw [e]; exact Nat.le_refl _)] at hp
        cases hp
      have hx' : selV { st with ob := (fun i => if i = st.nx then some (.sl T []) else st.ob i), nx := st.nx + 1 } sl = .nils := by
        cases sl with
        | slot t => exact hx
        | cell t c =>
          simp only [selV] at hx ⊢
          split at hx
          · rename_i id c' hid
            split at hx
            · rename_i cs hob
              have := hnx id _ hob
              simp only [this, if_false, hob]
              exact hx
            · cases hx
          · cases hx
        | fld t c => exact hx
      have hs2 : SR w0 B Io R (fun i => if i = st.nx then some (.sl ⟨none, 0, T.cells⟩ 0) else ρ i) (fun i => st.nx + 1 ≤ i) { st with ob := (fun i => if i = st.nx then some (.sl T []) else st.ob i), nx := st.nx + 1 } a w :=
        { hnew with fr := fun i hi => hnew.fr i ⟨by show st.nx ≤ i; omega, by omega⟩ }
      have := setSel_sound hs2 hx' (y := .sref st.nx none none) (by simp) (by simp) (by simp) fun v hv => by
        have hv : v = .slice none 0 0 := hv
        subst hv
        exact ⟨⟨none, 0, T.cells⟩, 0, by simp [plS], rfl⟩
      refine ⟨R, _, this.weaken fun i hi => ?_⟩
      rw [(setSel_n _ _ _).2] at hi
      exact hi
    · exact ⟨R, ρ, h⟩
  | ownm sl T =>
    simp only [pre1]
    split
    · rename_i hx
      have hnew := h.new (id := st.nx) (Nat.le_refl _) (o := .mat T []) (p := .mat ⟨none, 0, 1⟩ 0 fun _ => (⟨none, 0, 0⟩, 0)) ⟨_, _, rfl, rfl, by simp, fun h => absurd rfl h, by simp, by simp, by simp⟩ (fun b hb => hb.elim (fun hb => absurd rfl hb.1) fun ⟨i, hi, _⟩ => absurd hi (Nat.not_lt_zero _)) (fun _ _ _ b _ _ hb => hb.elim (fun hb => absurd rfl hb.1) fun ⟨i, hi, _⟩ => absurd hi (Nat.not_lt_zero _))
      have hnx : ∀ id o, st.ob id = some o → id ≠ st.nx := fun id o ho e => by
        obtain ⟨p, hp, _⟩ := h.ob id o ho
        rw [h.fr id (by rw [e]; exact Nat.le_refl _)] at hp
        cases hp
      have hx' : selV { st with ob := (fun i => if i = st.nx then some (.mat T []) else st.ob i), nx := st.nx + 1 } sl = .nils := by
        cases sl with
        | slot t => exact hx
        | cell t c =>
          simp only [selV] at hx ⊢
          split at hx
          · rename_i id c' hid
            split at hx
            · rename_i cs hob
              have := hnx id _ hob
              simp only [this, if_false, hob]
              exact hx
            · cases hx
          · cases hx
        | fld t c => exact hx
      have hs2 : SR w0 B Io R (fun i => if i = st.nx then some (.mat ⟨none, 0, 1⟩ 0 fun _ => (⟨none, 0, 0⟩, 0)) else ρ i) (fun i => st.nx + 1 ≤ i) { st with ob := (fun i => if i = st.nx then some (.mat T []) else st.ob i), nx := st.nx + 1 } a w :=
        { hnew with fr := fun i hi => hnew.fr i ⟨by show st.nx ≤ i; omega, by omega⟩ }
      have := setSel_sound hs2 hx' (y := .sref st.nx none none) (by simp) (by simp) (by simp) fun v hv => by
        have hv : v = .slice none 0 0 := hv
        subst hv
        exact ⟨⟨none, 0, 1⟩, 0, by simp [plS], rfl⟩
      refine ⟨R, _, this.weaken fun i hi => ?_⟩
      rw [(setSel_n _ _ _).2] at hi
      exact hi
    · exact ⟨R, ρ, h⟩
  | ro sl T =>
    simp only [pre1]
    split
    · rename_i hx
      have := setSel_sound h hx (y := .sl T []) (by simp) (by simp) (by simp) fun v hv => by
        have hv : v = .slice none 0 0 := hv
        subst hv
        exact ⟨none, 0, rfl, Nat.le_refl _, fun _ => rfl, fun i x hx => by simp at hx⟩
      refine ⟨R, ρ, this.weaken fun i hi => ?_⟩
      rw [(setSel_n _ _ _).2] at hi
      exact hi
    · exact ⟨R, ρ, h⟩
  | frz sl =>
    simp only [pre1]
    split
    · exact ⟨_, ρ, h.frz _⟩
    · exact ⟨R, ρ, h⟩
  | win sl =>
    simp only [pre1]
    split
    · rename_i id hx
      split
      · rename_i T l hf
        have := setSel_sound h hx (y := .sref id none (some (0, l.length))) (by simp) (by simp) (by simp) fun v hv => by
          obtain ⟨S, n, g1, g2⟩ := hv
          have g2 : v = .slice S.A n S.cap := g2
          have hn : n = l.length := by
            unfold full at hf
            split at hf
            · rename_i U c hob
              cases hf
              obtain ⟨p, hp, S', rfl, _⟩ := h.ob id _ hob
              rw [hp] at g1; simp only [plS] at g1; cases g1; rfl
            · rename_i U c hob
              cases hf
              obtain ⟨p, hp, S', rows, rfl, _⟩ := h.ob id _ hob
              rw [hp] at g1; simp only [plS] at g1; cases g1; rfl
            · cases hf
          subst hn
          refine ⟨S, l.length, g1, by omega, S.A, g2, fun _ => ?_⟩
          cases S.A with
          | none => rfl
          | some A => simp [Addr.add]
        refine ⟨R, ρ, this.weaken fun i hi => ?_⟩
        rw [(setSel_n _ _ _).2] at hi
        exact hi
      · exact ⟨R, ρ, h⟩
    · exact ⟨R, ρ, h⟩
theorem pres_sound : ∀ (ps : List Pre) {st : St}, In w0 B Io st.nx st a w → In w0 B Io (pres st ps).nx (pres st ps) a w
  | [], _, h => h
  | p :: ps, _, h => pres_sound ps (pre1_sound h p)
theorem gc_sound {h : GCH} {c : Can} (hs : In w0 B Io st.nx st a w) (he : gc h st = some c) : In w0 B Io c.objs.length (ofCan st.n c) a w := by
  have := gc0_sound (pres_sound h.pre hs) he
  rw [pres_n] at this
  exact this
end Go.OAI
