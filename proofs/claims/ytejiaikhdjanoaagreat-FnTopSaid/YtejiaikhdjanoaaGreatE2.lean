/- Freezing; the state at a loop's head. Code. Functions. -/
import Derived.Test.YtejiaikhdjanoaaGreatD2
namespace Go.OAI
set_option linter.unusedVariables false
variable {P : Program} {w0 : W0} {w : World} {B : Nat} {Io R : Nat → Prop} {ρ : Nat → Option Pl} {Fr : Nat → Prop} {st s : St} {a : Act}
def renρ (ρ : Nat → Option Pl) (ids : List Nat) (k : Nat) : Option Pl := (ids[k]?).bind ρ
theorem idxOf_get {ids : List Nat} {id k : Nat} (h : ids.idxOf? id = some k) : ids[k]? = some id := by
  unfold List.idxOf? at h
  rw [List.findIdx?_eq_some_iff_getElem] at h
  obtain ⟨hk, h1, _⟩ := h
  rw [List.getElem?_eq_getElem hk]
  simpa using h1
theorem ren_CA {ids : List Nat} {v : Value} {x : AVal} (hx : CA w0 w R ρ v x) : CA w0 w R (renρ ρ ids) v (renV1 ids x) := by
  cases x
  case sref id row win =>
    unfold renV1
    dsimp only
    split
    · rename_i k hk
      obtain ⟨S, n, h1, h2⟩ := hx
      exact ⟨S, n, by simp [renρ, idxOf_get hk, h1], h2⟩
    · exact hx.one
  case ptr id c =>
    unfold renV1
    dsimp only
    split
    · rename_i k hk
      obtain ⟨b, off, h1, h2⟩ := hx
      exact ⟨b, off, by simp [renρ, idxOf_get hk, h1], h2⟩
    · exact hx.one
  case eptr id row i c =>
    unfold renV1
    dsimp only
    split
    · rename_i k hk
      obtain ⟨S, n, b, off, h1, h2⟩ := hx
      exact ⟨S, n, b, off, by simp [renρ, idxOf_get hk, h1], h2⟩
    · exact hx.one
  case fn f caps =>
    unfold renV1
    dsimp only
    split
    · rename_i cs hcs
      obtain ⟨us, h1, h2, h3⟩ := hx
      have key : ∀ (caps cs : List AVal), renP ids caps = some cs → cs.length = caps.length ∧ ∀ (i : Nat) u y, cs[i]? = some y → (∀ x, caps[i]? = some x → PA ρ u x) → PA (renρ ρ ids) u y := by
        intro caps
        induction caps with
        | nil => intro cs h; cases h; exact ⟨rfl, fun i u y hy => by simp at hy⟩
        | cons x r ih =>
          intro cs h
          cases x with
          | ptr id c =>
            simp only [renP] at h
            split at h
            · rename_i k r' hk hr
              cases h
              obtain ⟨i1, i2⟩ := ih r' hr
              refine ⟨by simp [i1], fun i u y hy hx => ?_⟩
              match i with
              | 0 =>
                simp at hy; subst hy
                obtain ⟨b, off, g1, g2⟩ := hx _ rfl
                exact ⟨b, off, by simp [renρ, idxOf_get hk, g1], g2⟩
              | i + 1 => exact i2 i u y (by simpa using hy) fun x hx' => hx x (by simpa using hx')
            · cases h
          | _ => simp [renP] at h
      obtain ⟨k1, k2⟩ := key caps cs hcs
      exact ⟨us, h1, by rw [h2, k1], fun i u y hu hy => k2 i u y hy fun x hx' => h3 i u x hu hx'⟩
    · exact hx.one
  all_goals first
    | exact hx.one
    | exact hx
theorem ren_VA {ids : List Nat} {v : Value} {x : AVal} (hx : VA w0 w R ρ v x) : VA w0 w R (renρ ρ ids) v (renV ids x) := by
  cases x
  case agg cs =>
    obtain ⟨us, h1, h2, h3⟩ := hx
    refine ⟨us, h1, by simp [h2], fun i u y hu hy => ?_⟩
    simp only [List.getElem?_map, Option.map_eq_some_iff] at hy
    obtain ⟨z, hz, rfl⟩ := hy
    exact ren_CA (h3 i u z hu hz)
  case tup => exact trivial
  case undef => exact trivial
  case osl => exact trivial
  case omat => exact trivial
  case obox => exact trivial
  all_goals
    have := ren_CA (ids := ids) (VA_CA (by simp) (by simp) (by simp) hx)
    exact VA.ofC this
theorem lookS_map {f : Nat → AVal} : ∀ {l : List Nat} {t : Nat}, lookS (l.map fun s => (s, f s)) t = f t ∨ lookS (l.map fun s => (s, f s)) t = .undef
  | [], _ => .inr rfl
  | s :: l, t => by
    simp only [List.map_cons, lookS]
    split
    · rename_i e; subst e; exact .inl rfl
    · exact lookS_map
theorem getObs_get {ids : List Nat} : ∀ {l : List Nat} {os : List Obj}, getObs st ids l = some os → os.length = l.length ∧ ∀ (k : Nat) (o : Obj), os[k]? = some o → ∃ (i : Nat) (o' : Obj), l[k]? = some i ∧ st.ob i = some o' ∧ o = renO ids o' ∧ ∀ T l q z, o' ≠ .matH T l q z
  | [], os, h => by cases h; exact ⟨rfl, fun k o h => by simp at h⟩
  | i :: l, os, h => by
    simp only [getObs] at h
    split at h
    · cases h
    · rename_i o hnm ho
      split at h
      · rename_i os' hos
        cases h
        obtain ⟨g1, g2⟩ := getObs_get hos
        refine ⟨by simp [g1], fun k x hx => ?_⟩
        match k with
        | 0 => simp at hx; subst hx; exact ⟨i, o, rfl, ho, rfl, fun T l q z e => hnm T l q z e⟩
        | k + 1 => obtain ⟨j, o', e1, e2, e3⟩ := g2 k x (by simpa using hx); exact ⟨j, o', by simpa using e1, e2, e3⟩
      · cases h
    · cases h
theorem gc0_sound {h : GCH} {c : Can} {nx : Nat} (hs : In w0 B Io nx st a w) (he : gc0 h st = some c) : In w0 B Io c.objs.length (ofCan st.n c) a w := by
  obtain ⟨R, ρ, hs⟩ := hs
  unfold gc0 at he
  split at he
  · rename_i ids hids
    split at he
    · rename_i hn
      have hn := of_decide_eq_true hn
      split at he
      · rename_i os hos
        split at he
        rotate_left
        · cases he
        rename_i hpr
        cases he
        obtain ⟨g1, g2⟩ := getObs_get hos
        have key : ∀ {k : Nat} {o : Obj}, os[k]? = some o → ∃ i o', ids[k]? = some i ∧ st.ob i = some o' ∧ o = renO ids o' ∧ ∀ T l q z, o' ≠ .matH T l q z := fun {k o} ho => g2 k o ho
        refine ⟨R, renρ ρ ids, { size := hs.size, dfr := hs.dfr, tm := fun t => ?_, ob := fun k o ho => ?_, sep := fun i o1 j o2 p1 p2 b hij h1 h2 q1 q2 => ?_, own := fun k o p b ho hp hb => ?_, rlt := hs.rlt, frame := hs.frame, size0 := hs.size0, fr := fun k hk => ?_, r0 := hs.r0, r1 := hs.r1, q := hs.q, par := fun k v hk => hs.par k v (by have := List.all_eq_true.1 hpr k hk; simpa using this), f0 := hs.f0 }⟩
        · show VA _ _ _ _ _ (lookS _ t)
          rcases lookS_map (f := fun s => renV ids (st.tm s)) (l := h.slots) (t := t) with e | e
          · rw [e]; exact ren_VA (hs.tm t)
          · rw [e]; exact trivial
        · obtain ⟨i, o', e1, e2, rfl, hnm⟩ := key ho
          obtain ⟨p, hp, hoa⟩ := hs.ob i o' e2
          refine ⟨p, by simp [renρ, e1, hp], ?_⟩
          cases o' with
          | box cs =>
            obtain ⟨b, off, arr, E, rfl, f2, f3⟩ := hoa
            refine ⟨b, off, arr, E, rfl, f2, fun k x hx => ?_⟩
            simp only [List.getElem?_map, Option.map_eq_some_iff] at hx
            obtain ⟨z, hz, rfl⟩ := hx
            obtain ⟨u, q1, q2⟩ := f3 k z hz
            exact ⟨u, q1, ren_CA q2⟩
          | sl T l => exact hoa
          | mat T l => exact hoa
          | matH T l q z => exact absurd rfl (hnm T l q z)
        · obtain ⟨i', o1', e1, e2, _⟩ := key h1
          obtain ⟨j', o2', f1, f2, _⟩ := key h2
          refine hs.sep i' o1' j' o2' p1 p2 b (fun e => hij ?_) e2 f2 (by simpa [renρ, e1] using q1) (by simpa [renρ, f1] using q2)
          subst e
          have hi := List.getElem?_eq_some_iff.1 e1
          have hj := List.getElem?_eq_some_iff.1 f1
          obtain ⟨hi1, hi2⟩ := hi
          obtain ⟨hj1, hj2⟩ := hj
          have hpw := List.pairwise_iff_getElem.1 hn
          rcases Nat.lt_trichotomy i j with h' | h' | h'
          · exact absurd (hi2.trans hj2.symm) (hpw i j hi1 hj1 h')
          · exact h'
          · exact absurd (hj2.trans hi2.symm) (hpw j i hj1 hi1 h')
        · obtain ⟨i, o', e1, e2, _⟩ := key ho
          exact hs.own i o' p b e2 (by simpa [renρ, e1] using hp) hb
        · have hk : os.length ≤ k := hk
          have : ids[k]? = none := List.getElem?_eq_none (by omega)
          simp [renρ, this]
      · cases he
    · cases he
  · cases he
theorem setSel_sound (h : SR w0 B Io R ρ Fr st a w) {sl : Sel} {x y : AVal} (hx : selV st sl = x) (h1 : ∀ cs, x ≠ .agg cs) (h2 : ∀ vs, x ≠ .tup vs) (h3 : x ≠ .undef) (hxy : ∀ v, CA w0 w R ρ v x → CA w0 w R ρ v y) : SR w0 B Io R ρ Fr (setSel st y sl) a w := by
  cases sl with
  | slot t =>
    refine { h with tm := fun u => ?_ }
    show VA w0 w R ρ (tmv w0 a u) (if u = t then y else st.tm u)
    split
    · rename_i e
      subst e
      have := h.tm u
      have hx : st.tm u = x := hx
      rw [hx] at this
      exact VA.ofC (hxy _ (VA_CA h1 h2 h3 this))
    · exact h.tm u
  | cell t c =>
    simp only [selV] at hx
    simp only [setSel]
    split
    · rename_i id c' hid
      rw [hid] at hx
      dsimp only at hx
      split
      · rename_i cs hob
        rw [hob] at hx
        dsimp only at hx
        obtain ⟨p, hp, hoa⟩ := h.ob id _ hob
        refine h.chg hob hp (fun _ _ => rfl) rfl (.refl w) fun _ => ?_
        obtain ⟨b, off, arr, E, rfl, e2, e3⟩ := hoa
        refine ⟨b, off, arr, E, rfl, e2, fun k z hz => ?_⟩
        by_cases hk : c = k
        · subst hk
          have hlt : c < cs.length := by have := lt_of_get hz; simpa using this
          rw [List.getElem?_set_self hlt] at hz
          cases hz
          have hcx : cs[c]? = some x := by
            rw [List.getD_eq_getElem?_getD, List.getElem?_eq_getElem hlt] at hx
            rw [List.getElem?_eq_getElem hlt]
            exact congrArg some hx
          obtain ⟨u, g1, g2⟩ := e3 c x hcx
          exact ⟨u, g1, hxy u g2⟩
        · rw [List.getElem?_set_ne hk] at hz
          exact e3 k z hz
      · exact h
    · exact h
  | fld t c =>
    simp only [selV] at hx
    simp only [setSel]
    split
    · rename_i cs hcs
      rw [hcs] at hx
      dsimp only at hx
      refine { h with tm := fun u => ?_ }
      show VA w0 w R ρ (tmv w0 a u) (if u = t then .agg (cs.set c y) else st.tm u)
      split
      · rename_i e
        subst e
        have hv := h.tm u
        rw [hcs] at hv
        obtain ⟨us, e1, e2, e3⟩ := hv
        refine ⟨us, e1, by simp [e2], fun k v z hv hz => ?_⟩
        by_cases hk : c = k
        · subst hk
          have hlt : c < cs.length := by have := lt_of_get hz; simpa using this
          rw [List.getElem?_set_self hlt] at hz
          cases hz
          have hcx : cs[c]? = some x := by
            rw [List.getD_eq_getElem?_getD, List.getElem?_eq_getElem hlt] at hx
            rw [List.getElem?_eq_getElem hlt]
            exact congrArg some hx
          exact hxy v (e3 c v x hv hcx)
        · rw [List.getElem?_set_ne hk] at hz
          exact e3 k v z hv hz
      · exact h.tm u
    · exact h
theorem setSel_n (st : St) (v : AVal) (sl : Sel) : (setSel st v sl).n = st.n ∧ (setSel st v sl).nx = st.nx := by
  cases sl with
  | slot t => exact ⟨rfl, rfl⟩
  | cell t c =>
    simp only [setSel]
    split
    · split <;> exact ⟨rfl, rfl⟩
    · exact ⟨rfl, rfl⟩
  | fld t c =>
    simp only [setSel]
    split <;> exact ⟨rfl, rfl⟩
theorem pre1_n (st : St) (p : Pre) : (pre1 st p).n = st.n := by
  cases p <;> simp only [pre1] <;> split <;> first | rfl | exact (setSel_n _ _ _).1 | (split <;> first | rfl | exact (setSel_n _ _ _).1)
theorem pres_n : ∀ (ps : List Pre) (st : St), (pres st ps).n = st.n
  | [], _ => rfl
  | p :: ps, st => by simp only [pres]; rw [pres_n ps, pre1_n]
theorem SR.take (h : SR w0 B Io R ρ (fun i => st.nx ≤ i) st a w) {id i : Nat} {T : Ty} {l : List (List T.den)} (hob : st.ob id = some (.mat T l)) :
    ∃ ρ', SR w0 B Io R ρ' (fun j => st.nx + 1 ≤ j) { st.kill id with ob := (fun j => if j = st.nx then some (.sl T (l.getD i [])) else if j = id then some (.matH T l i st.nx) else (st.kill id).ob j), nx := st.nx + 1 } a w := by
  obtain ⟨q, hq, S, rows, rfl, m1, m2, m3, m4, m5, m6⟩ := h.ob id _ hob
  have hnx : ρ st.nx = none := h.fr _ (Nat.le_refl _)
  have hne : id ≠ st.nx := fun e => by rw [← e, hq] at hnx; cases hnx
  obtain ⟨Sh, hSh, hown, hblkS⟩ : ∃ Sh : SPl, (∀ r, l[i]? = some r → Sh = (rows i).1) ∧ SlOwn w R T Sh (l.getD i []) ∧ ∀ b, Sh.blk b → i < l.length ∧ (rows i).1.blk b := by
    by_cases hi : i < l.length
    · have e : l.getD i [] = l[i] := by simp [hi]
      exact ⟨(rows i).1, fun _ _ => rfl, by rw [e]; exact (m4 i _ (List.getElem?_eq_getElem hi)).2, fun b hb => ⟨hi, hb⟩⟩
    · have e : l.getD i [] = [] := by simp [List.getElem?_eq_none (Nat.le_of_not_lt hi)]
      refine ⟨⟨none, 0, T.cells⟩, fun r hr => ?_, by rw [e]; exact ⟨rfl, Nat.le_refl _, fun hc => absurd rfl hc⟩, fun b hb => absurd rfl hb.1⟩
      rw [List.getElem?_eq_none (Nat.le_of_not_lt hi)] at hr; cases hr
  let ρ1 : Nat → Option Pl := fun j => if j = st.nx then some (.sl Sh (l.getD i []).length) else ρ j
  let ρ' : Nat → Option Pl := fun j => if j = id then some (.matH S l.length rows i) else ρ1 j
  have hle : Leρ ρ ρ1 := fun j p hp => by
    by_cases e : j = st.nx
    · rw [e, hnx] at hp; cases hp
    · simp [ρ1, e, hp]
  have h1id : ρ1 id = some (.mat S l.length rows) := by simp [ρ1, hne, hq]
  have hid : ρ' id = some (.matH S l.length rows i) := by simp [ρ']
  have hnx' : ρ' st.nx = some (.sl Sh (l.getD i []).length) := by
    have : st.nx ≠ id := Ne.symm hne
    simp [ρ', ρ1, this]
  have hρ : ∀ j, j ≠ id → ρ' j = ρ1 j := fun j hj => by simp [ρ', hj]
  have hρ2 : ∀ j, j ≠ id → j ≠ st.nx → ρ' j = ρ j := fun j hj hk => by simp [ρ', ρ1, hj, hk]
  have hpl : plS (ρ' id) none = plS (ρ1 id) none := by rw [hid, h1id]; rfl
  have hb : ∀ b off, ρ1 id ≠ some (.box b off) := fun b off e => by rw [h1id] at e; cases e
  have hold : ∀ {j : Nat} {o : Obj}, (if j = st.nx then some (.sl T (l.getD i [])) else if j = id then some (.matH T l i st.nx) else (st.kill id).ob j) = some o →
      (j = st.nx ∧ o = .sl T (l.getD i [])) ∨ (j ≠ st.nx ∧ j = id ∧ o = .matH T l i st.nx) ∨ (j ≠ st.nx ∧ j ≠ id ∧ ∃ o', st.ob j = some o' ∧ o = killO id o') := fun {j o} hj => by
    by_cases c1 : j = st.nx
    · simp only [c1, if_true] at hj; cases hj; exact .inl ⟨c1, rfl⟩
    · by_cases c2 : j = id
      · simp only [c1, c2, if_false, if_true] at hj
        rw [if_neg (by rw [← c2]; exact c1)] at hj
        cases hj; exact .inr (.inl ⟨c1, c2, rfl⟩)
      · simp only [c1, c2, if_false] at hj
        obtain ⟨o', q1, q2⟩ := kill_ob hj
        exact .inr (.inr ⟨c1, c2, o', q1, q2⟩)
  have inO : ∀ b, blkO (.matH S l.length rows i) b → blkO (.mat S l.length rows) b := fun b hb => by
    rcases hb with hb | ⟨t, ht, _, hb⟩
    · exact .inl hb
    · exact .inr ⟨t, ht, hb⟩
  have inS : ∀ b, Sh.blk b → blkO (.mat S l.length rows) b := fun b hb => .inr ⟨i, hblkS b hb⟩
  have apart : ∀ b, blkO (.matH S l.length rows i) b → Sh.blk b → False := fun b hb hs => by
    obtain ⟨q1, q2⟩ := hblkS b hs
    rcases hb with hb | ⟨t, ht, hti, hb⟩
    · exact m6 i b q1 hb q2
    · exact m5 t i b ht q1 hti hb q2
  refine ⟨ρ', { size := h.size, dfr := h.dfr, tm := fun t => ?_, ob := ?_, sep := ?_, own := ?_, rlt := h.rlt, frame := h.frame, size0 := h.size0, fr := ?_, r0 := h.r0, r1 := h.r1, q := h.q, par := h.par, f0 := h.f0 }⟩
  · exact ((h.tm t).mono (.refl _ _) (fun _ hb => hb) hle).swap (.refl _ _) hρ hpl hb
  · intro j o ho
    rcases hold ho with ⟨rfl, rfl⟩ | ⟨c1, rfl, rfl⟩ | ⟨c1, c2, o', q1, rfl⟩
    · exact ⟨_, hnx', Sh, rfl, hown⟩
    · refine ⟨_, hid, S, rows, rfl, m1, m2, m3, fun t r hr hti => m4 t r hr, fun t1 t2 b a1 a2 _ _ => m5 t1 t2 b a1 a2, fun t b a1 _ => m6 t b a1, fun r hr => ?_⟩
      rw [hnx', hSh r hr]
      have : l.getD i [] = r := by simp [hr]
      rw [this]
    · obtain ⟨p, g1, g2⟩ := h.ob j o' q1
      refine ⟨p, by rw [hρ2 j c2 c1]; exact g1, ?_⟩
      cases o' with
      | box cs =>
        obtain ⟨b, off, arr, E, rfl, f2, f3⟩ := g2
        refine ⟨b, off, arr, E, rfl, f2, fun k x hx => ?_⟩
        simp only [killO, List.getElem?_map, Option.map_eq_some_iff] at hx
        obtain ⟨z, hz, rfl⟩ := hx
        obtain ⟨u, y1, y2⟩ := f3 k z hz
        exact ⟨u, y1, (y2.mono (.refl _ _) (fun _ hb => hb) hle).swap (.refl _ _) hρ hpl hb⟩
      | sl T' m => exact g2
      | mat T' m => exact g2
      | matH T' m h' z =>
        obtain ⟨S3, rows3, g3, g4, g5, g6, g7, g8, g9, g10⟩ := g2
        refine ⟨S3, rows3, g3, g4, g5, g6, g7, g8, g9, fun r hr => ?_⟩
        have := g10 r hr
        have e2 : z ≠ id := fun e2 => by rw [e2, hq] at this; cases this
        have e3 : z ≠ st.nx := fun e3 => by rw [e3, hnx] at this; cases this
        rw [hρ2 z e2 e3]; exact this
  · intro j o1 j' o2 p p' b hjj hj hj' hp hp' hb1 hb2
    have hp0 : ρ' j = some p := hp
    have hp0' : ρ' j' = some p' := hp'
    rcases hold hj with ⟨e1, _⟩ | ⟨c1, e1, _⟩ | ⟨c1, c2, o1', q1, _⟩
    · rw [e1, hnx'] at hp0; cases hp0
      rcases hold hj' with ⟨e2, _⟩ | ⟨d1, e2, _⟩ | ⟨d1, d2, o2', q2, _⟩
      · exact hjj (by rw [e1, e2])
      · rw [e2, hid] at hp0'; cases hp0'
        exact apart b hb2 hb1
      · rw [hρ2 j' d2 d1] at hp0'
        exact h.sep id _ j' _ _ _ b (Ne.symm d2) hob q2 hq hp0' (inS b hb1) hb2
    · rw [e1, hid] at hp0; cases hp0
      rcases hold hj' with ⟨e2, _⟩ | ⟨d1, e2, _⟩ | ⟨d1, d2, o2', q2, _⟩
      · rw [e2, hnx'] at hp0'; cases hp0'
        exact apart b hb1 hb2
      · exact hjj (by rw [e1, e2])
      · rw [hρ2 j' d2 d1] at hp0'
        exact h.sep id _ j' _ _ _ b (Ne.symm d2) hob q2 hq hp0' (inO b hb1) hb2
    · rw [hρ2 j c2 c1] at hp0
      rcases hold hj' with ⟨e2, _⟩ | ⟨d1, e2, _⟩ | ⟨d1, d2, o2', q2, _⟩
      · rw [e2, hnx'] at hp0'; cases hp0'
        exact h.sep j _ id _ _ _ b c2 q1 hob hp0 hq hb1 (inS b hb2)
      · rw [e2, hid] at hp0'; cases hp0'
        exact h.sep j _ id _ _ _ b c2 q1 hob hp0 hq hb1 (inO b hb2)
      · rw [hρ2 j' d2 d1] at hp0'
        exact h.sep j _ j' _ _ _ b hjj q1 q2 hp0 hp0' hb1 hb2
  · intro j o1 p b hj hp hb1
    have hp0 : ρ' j = some p := hp
    rcases hold hj with ⟨e1, _⟩ | ⟨c1, e1, _⟩ | ⟨c1, c2, o1', q1, _⟩
    · rw [e1, hnx'] at hp0; cases hp0
      exact h.own id _ _ b hob hq (inS b hb1)
    · rw [e1, hid] at hp0; cases hp0
      exact h.own id _ _ b hob hq (inO b hb1)
    · rw [hρ2 j c2 c1] at hp0
      exact h.own j _ _ b q1 hp0 hb1
  · intro j hj
    have hj : st.nx + 1 ≤ j := hj
    have hjn := h.fr j (by show st.nx ≤ j; omega)
    have e : j ≠ id := fun e => by rw [e, hq] at hjn; cases hjn
    rw [hρ2 j e (by omega)]; exact hjn
theorem pre1_sound (h : In w0 B Io st.nx st a w) (p : Pre) : In w0 B Io (pre1 st p).nx (pre1 st p) a w := by
  obtain ⟨R, ρ, h⟩ := h
  cases p with
  | own sl T =>
    simp only [pre1]
    split
    · rename_i hx
      have hnew := h.new (id := st.nx) (Nat.le_refl _) (o := .sl T []) (p := .sl ⟨none, 0, T.cells⟩ 0) ⟨_, rfl, rfl, by simp, fun h => absurd rfl h⟩ (fun b hb => absurd rfl hb.1) (fun _ _ _ b _ _ hb => absurd rfl hb.1)
      have hnx : ∀ id o, st.ob id = some o → id ≠ st.nx := fun id o ho e => by
        obtain ⟨p, hp, _⟩ := h.ob id o ho
        rw [h.fr id (by rw [e]; exact Nat.le_refl _)] at hp
        cases hp
      have hx' : selV { st with ob := (fun i => if i = st.nx then some (.sl T []) else st.ob i), nx := st.nx + 1 } sl = .nils := by
        cases sl with
        | slot t => exact hx
        | cell t c =>
          simp only [selV] at hx ⊢
          split at hx
          · rename_i id c' hid
            split at hx
            · rename_i cs hob
              have := hnx id _ hob
              simp only [this, if_false, hob]
              exact hx
            · cases hx
          · cases hx
        | fld t c => exact hx
      have hs2 : SR w0 B Io R (fun i => if i = st.nx then some (.sl ⟨none, 0, T.cells⟩ 0) else ρ i) (fun i => st.nx + 1 ≤ i) { st with ob := (fun i => if i = st.nx then some (.sl T []) else st.ob i), nx := st.nx + 1 } a w :=
        { hnew with fr := fun i hi => hnew.fr i ⟨by show st.nx ≤ i; omega, by omega⟩ }
      have := setSel_sound hs2 hx' (y := .sref st.nx none none) (by simp) (by simp) (by simp) fun v hv => by
        have hv : v = .slice none 0 0 := hv
        subst hv
        exact ⟨⟨none, 0, T.cells⟩, 0, by simp [plS], rfl⟩
      refine ⟨R, _, this.weaken fun i hi => ?_⟩
      rw [(setSel_n _ _ _).2] at hi
      exact hi
    · exact ⟨R, ρ, h⟩
  | ownm sl T =>
    simp only [pre1]
    split
    · rename_i hx
      have hnew := h.new (id := st.nx) (Nat.le_refl _) (o := .mat T []) (p := .mat ⟨none, 0, 1⟩ 0 fun _ => (⟨none, 0, 0⟩, 0)) ⟨_, _, rfl, rfl, by simp, fun h => absurd rfl h, by simp, by simp, by simp⟩ (fun b hb => hb.elim (fun hb => absurd rfl hb.1) fun ⟨i, hi, _⟩ => absurd hi (Nat.not_lt_zero _)) (fun _ _ _ b _ _ hb => hb.elim (fun hb => absurd rfl hb.1) fun ⟨i, hi, _⟩ => absurd hi (Nat.not_lt_zero _))
      have hnx : ∀ id o, st.ob id = some o → id ≠ st.nx := fun id o ho e => by
        obtain ⟨p, hp, _⟩ := h.ob id o ho
        rw [h.fr id (by rw [e]; exact Nat.le_refl _)] at hp
        cases hp
      have hx' : selV { st with ob := (fun i => if i = st.nx then some (.mat T []) else st.ob i), nx := st.nx + 1 } sl = .nils := by
        cases sl with
        | slot t => exact hx
        | cell t c =>
          simp only [selV] at hx ⊢
          split at hx
          · rename_i id c' hid
            split at hx
            · rename_i cs hob
              have := hnx id _ hob
              simp only [this, if_false, hob]
              exact hx
            · cases hx
          · cases hx
        | fld t c => exact hx
      have hs2 : SR w0 B Io R (fun i => if i = st.nx then some (.mat ⟨none, 0, 1⟩ 0 fun _ => (⟨none, 0, 0⟩, 0)) else ρ i) (fun i => st.nx + 1 ≤ i) { st with ob := (fun i => if i = st.nx then some (.mat T []) else st.ob i), nx := st.nx + 1 } a w :=
        { hnew with fr := fun i hi => hnew.fr i ⟨by show st.nx ≤ i; omega, by omega⟩ }
      have := setSel_sound hs2 hx' (y := .sref st.nx none none) (by simp) (by simp) (by simp) fun v hv => by
        have hv : v = .slice none 0 0 := hv
        subst hv
        exact ⟨⟨none, 0, 1⟩, 0, by simp [plS], rfl⟩
      refine ⟨R, _, this.weaken fun i hi => ?_⟩
      rw [(setSel_n _ _ _).2] at hi
      exact hi
    · exact ⟨R, ρ, h⟩
  | ro sl T =>
    simp only [pre1]
    split
    · rename_i hx
      have := setSel_sound h hx (y := .sl T []) (by simp) (by simp) (by simp) fun v hv => by
        have hv : v = .slice none 0 0 := hv
        subst hv
        exact ⟨none, 0, rfl, Nat.le_refl _, fun _ => rfl, fun i x hx => by simp at hx⟩
      refine ⟨R, ρ, this.weaken fun i hi => ?_⟩
      rw [(setSel_n _ _ _).2] at hi
      exact hi
    · exact ⟨R, ρ, h⟩
  | frz sl =>
    simp only [pre1]
    split
    · exact ⟨_, ρ, h.frz _⟩
    · exact ⟨R, ρ, h⟩
  | win sl =>
    simp only [pre1]
    split
    · rename_i id hx
      split
      · rename_i T l hf
        have := setSel_sound h hx (y := .sref id none (some (0, l.length))) (by simp) (by simp) (by simp) fun v hv => by
          obtain ⟨S, n, g1, g2⟩ := hv
          have g2 : v = .slice S.A n S.cap := g2
          have hn : n = l.length := by
            unfold full at hf
            split at hf
            · rename_i U c hob
              cases hf
              obtain ⟨p, hp, S', rfl, _⟩ := h.ob id _ hob
              rw [hp] at g1; simp only [plS] at g1; cases g1; rfl
            · rename_i U c hob
              cases hf
              obtain ⟨p, hp, S', rows, rfl, _⟩ := h.ob id _ hob
              rw [hp] at g1; simp only [plS] at g1; cases g1; rfl
            · cases hf
          subst hn
          refine ⟨S, l.length, g1, by omega, S.A, g2, fun _ => ?_⟩
          cases S.A with
          | none => rfl
          | some A => simp [Addr.add]
        refine ⟨R, ρ, this.weaken fun i hi => ?_⟩
        rw [(setSel_n _ _ _).2] at hi
        exact hi
      · exact ⟨R, ρ, h⟩
    · exact ⟨R, ρ, h⟩
  | take sl ix =>
    simp only [pre1]
    split
    · split
      · rename_i hob
        obtain ⟨ρ', h'⟩ := h.take hob
        exact ⟨R, ρ', h'⟩
      · exact ⟨R, ρ, h⟩
    · exact ⟨R, ρ, h⟩
theorem pres_sound : ∀ (ps : List Pre) {st : St}, In w0 B Io st.nx st a w → In w0 B Io (pres st ps).nx (pres st ps) a w
  | [], _, h => h
  | p :: ps, _, h => pres_sound ps (pre1_sound h p)
theorem gc_sound {h : GCH} {c : Can} (hs : In w0 B Io st.nx st a w) (he : gc h st = some c) : In w0 B Io c.objs.length (ofCan st.n c) a w := by
  have := gc0_sound (pres_sound h.pre hs) he
  rw [pres_n] at this
  exact this
variable {P : Program} {w0 : W0} {w : World} {B : Nat} {Io R : Nat → Prop} {ρ : Nat → Option Pl} {Fr : Nat → Prop} {st s : St} {a : Act}
variable {env : Nat → Option Callee} {or : Ora}
def exOf : Ex → Exit
  | .normal => .normal
  | .exit i => .exit i
  | .ret => .ret
theorem stepL_n {env : Nat → Option Callee} {ib : Nat} {o : Oper} {st st' : St} (he : stepL P env ib st o some = some st') : st'.n = st.n := by
  have hd : ∀ (s : St) (d : Option Nat), (s.delOb d).n = s.n := fun s d => by cases d <;> rfl
  have hf : (frzOp env st o).n = st.n := by
    unfold frzOp
    repeat' (first | rfl | split)
  unfold stepL at he
  split at he
  · rename_i r hr
    subst he
    unfold sp at hr
    repeat' (first | (cases hr; done) | split at hr)
    all_goals first
      | (cases hr; simp only [put_n, St.setOb, hd]; done)
      | (cases hr; simp only [put_n, St.setOb, hd]; rfl)
      | (have hr := Option.some.inj hr
         rw [cond_eq_ite] at hr
         split at hr
         · cases hr; simp only [put_n, St.setOb, hd]
         · cases hr)
  · rw [evalOp_nat] at he
    obtain ⟨d, _, hd⟩ := Option.bind_eq_some_iff.1 he
    cases hd
    rw [app_n, hf]
theorem evalOps_n {ops : Array Oper} : ∀ {l : List Oper} {ib : Nat} {st st' : St}, evalOps P env ops l ib st some = some st' → st'.n = st.n
  | [], ib, st, st', he => by cases he; rfl
  | o :: l, ib, st, st', he => by
    have run : ∀ {s : St}, stepL P env ib s o (fun d => evalOps P env ops l (ib + 16) d some) = some st' → st'.n = s.n := fun {s} he => by
      rw [stepL_nat] at he
      obtain ⟨d, h1, hd⟩ := Option.bind_eq_some_iff.1 he
      rw [evalOps_n hd, stepL_n h1]
    have skip : ∀ {s : St}, evalOps P env ops l (ib + 16) (s.put o.dst (.tup [])) some = some st' → st'.n = s.n := fun {s} he => by
      rw [evalOps_n he, put_n]
    simp only [evalOps] at he
    split at he
    · exact run he
    · rename_i jg want hg
      split at he
      · cases he
      · split at he
        · rename_i b hb
          cases b <;> cases want <;> simp only [cond_true, cond_false] at he <;> rw [kn_self (ev_tmp hb (by simp))] at he
          · exact run he
          · exact skip he
          · exact skip he
          · exact run he
        · exact skip he
        · cases he
theorem chain_n {ops : Array Oper} {b : Array Nat} {st0 : St} {kc : List (Nat × Nat)} : ∀ {l : List Nat} {st fin : St}, Chain P env ops b st0 kc l st fin → fin.n = st.n
  | [], st, fin, h => by cases h; rfl
  | j :: l, st, fin, h => by
    obtain ⟨d, _, h⟩ := h
    rw [chain_n h, app_n]
theorem wp_loop_ind {c : Code} {Q : Exit → Act → World → Prop} (I : Nat → Act → World → Prop)
    (round : ∀ m a w, I m a w → c.wp P (Exit.then (fun a' w' => ∃ m', m' < m ∧ I m' a' w') Q) a w) : ∀ {m : Nat} {a : Act} {w : World}, I m a w → (Code.loop c).wp P Q a w := by
  intro m a w h₀ b k cs
  have key : ∀ n a w, I n a w → ∃ e a' w', Q e a' w' ∧ Arrives P (lone (b.at a (.code c :: .inLoop c :: k)) cs w) b k cs e a' w' := by
    intro n
    induction n using Nat.strongRecOn with
    | _ n ih =>
      intro a w hI
      obtain ⟨e, a₁, w₁, hq, harr⟩ := round n a w hI b (.inLoop c :: k) cs
      cases e with
      | normal =>
        obtain ⟨m', hlt, hI₁⟩ := hq
        obtain ⟨e₂, a₂, w₂, hq₂, harr₂⟩ := ih m' hlt a₁ w₁ hI₁
        exact ⟨e₂, a₂, w₂, hq₂, .of_steps (Steps.trans harr (.one step_inLoop)) harr₂⟩
      | exit id => exact ⟨_, a₁, w₁, hq, .pass (x := .inLoop c) rfl (fun _ _ => .inl (by simp)) harr⟩
      | goto l => exact ⟨_, a₁, w₁, hq, .pass (x := .inLoop c) rfl (fun _ _ => .inl (by simp)) harr⟩
      | ret => exact ⟨_, a₁, w₁, hq, .pass (x := .inLoop c) rfl (fun _ _ => .inl (by simp)) harr⟩
      | panic ch => exact ⟨_, a₁, w₁, hq, .pass (x := .inLoop c) rfl (fun _ _ => .inl (by simp)) harr⟩
      | outgrown => exact ⟨_, a₁, w₁, hq, .pass (x := .inLoop c) rfl (fun _ _ => .inl (by simp)) harr⟩
  obtain ⟨e, a', w', hq, harr⟩ := key m a w h₀
  exact ⟨e, a', w', hq, .of_steps (.one step_loop) harr⟩
def LoOk (P : Program) (env : Nat → Option Callee) (or : Ora) (n : Nat) (l : List Code) : Prop :=
  ∀ b ∈ l, ∀ L, or.lo (keyOf b) = some L → ∀ c x y, L.inn c = some x → L.G x = some y → ∃ m, loopC P env or b L.h L.ho n m c = some (L.out x y)
theorem evalCode_sound (henv : EnvOk P env) (hm : P.follows .mixedOrders = true) {n : Nat} : ∀ (c : Code) (st : St) (e : Ex) (s : St), LoOk P env or n (loopsIn c) → st.n = n → evalCode P env or c st (fun e s => some (e, s)) = some (e, s) →
    s.n = n ∧ ∀ a w, In w0 B Io st.nx st a w → ∀ Q : Exit → Act → World → Prop, (∀ a w, In w0 B Io s.nx s a w → Q (exOf e) a w) → c.wp P Q a w
  | .skip, st, e, s, hlo, hn, he => by
    cases he
    exact ⟨hn, fun a w h Q hQ => wp_skip (hQ a w h)⟩
  | .exit i, st, e, s, hlo, hn, he => by
    cases he
    exact ⟨hn, fun a w h Q hQ => wp_exit (hQ a w h)⟩
  | .ret, st, e, s, hlo, hn, he => by
    cases he
    exact ⟨hn, fun a w h Q hQ => wp_ret (hQ a w h)⟩
  | .region i ops draw, st, e, s, hlo, hn, he => by
    cases draw with
    | false =>
      simp only [evalCode] at he
      rw [evalOps_nat] at he
      obtain ⟨s', h1, h2⟩ := Option.bind_eq_some_iff.1 he
      cases h2
      refine ⟨by show s'.n = n; rw [evalOps_n h1, pres_n, hn], fun a w h Q hQ => wp_region ?_⟩
      have := evalOps_sound henv (ops := ops) (l := ops.toList) (j := 0) (Q := Q) (fun i => by simp) h1 (pres_sound (or.fz i) h) (fun a w h => hQ a w (by
        obtain ⟨R, ρ, h⟩ := h
        exact ⟨R, ρ, { h with fr := fun i hi => h.fr i (by simpa using hi) }⟩))
      rw [List.range_eq_range']
      simpa using this
    | true =>
      simp only [evalCode] at he
      cases hd : drawnOk ops (Region.before ops) with
      | false => rw [hd] at he; cases he
      | true =>
        rw [hd, cond_true, evalD_nat] at he
        obtain ⟨s', h1, h2⟩ := Option.bind_eq_some_iff.1 he
        cases h2
        refine ⟨?_, fun a w h Q hQ => ?_⟩
        · show s'.n = n
          have := chain_n (evalD_chain (fun i => by simp) h1)
          rw [this, pres_n, hn]
        · refine evalD_sound henv hm hd h1 (pres_sound (or.fz i) h) (fun a w h => hQ a w ?_)
          obtain ⟨R, ρ, h⟩ := h
          exact ⟨R, ρ, { h with }⟩
  | .seq x y, st, e, s, hlo, hn, he => by
    simp only [evalCode] at he
    rw [evalCode_nat] at he
    obtain ⟨⟨e1, s1⟩, h1, h2⟩ := Option.bind_eq_some_iff.1 he
    obtain ⟨n1, g1⟩ := evalCode_sound henv hm x st e1 s1 (fun b hb => hlo b (List.mem_append_left _ hb)) hn h1
    cases e1 with
    | normal =>
      obtain ⟨n2, g2⟩ := evalCode_sound henv hm y s1 e s (fun b hb => hlo b (List.mem_append_right _ hb)) n1 h2
      exact ⟨n2, fun a w h Q hQ => wp_seq (g1 a w h _ fun a w h => g2 a w h Q hQ)⟩
    | exit i => cases h2; exact ⟨n1, fun a w h Q hQ => wp_seq (g1 a w h _ hQ)⟩
    | ret => cases h2; exact ⟨n1, fun a w h Q hQ => wp_seq (g1 a w h _ hQ)⟩
  | .cond c x y, st, e, s, hlo, hn, he => by
    simp only [evalCode] at he
    split at he
    · rename_i t ht
      have hc : ∀ a w, In w0 B Io st.nx st a w → a.eval c = .bool t := fun a w ⟨R, ρ, h⟩ => by
        have := h.ev c
        rw [ht] at this
        exact this
      cases t with
      | true =>
        obtain ⟨n1, g1⟩ := evalCode_sound henv hm x st e s (fun b hb => hlo b (List.mem_append_left _ hb)) hn he
        exact ⟨n1, fun a w h Q hQ => wp_cond_true (hc a w h) (g1 a w h Q hQ)⟩
      | false =>
        obtain ⟨n1, g1⟩ := evalCode_sound henv hm y st e s (fun b hb => hlo b (List.mem_append_right _ hb)) hn he
        exact ⟨n1, fun a w h Q hQ => wp_cond_false (hc a w h) (g1 a w h Q hQ)⟩
    · cases he
  | .block i x, st, e, s, hlo, hn, he => by
    simp only [evalCode] at he
    rw [evalCode_nat] at he
    obtain ⟨⟨e1, s1⟩, h1, h2⟩ := Option.bind_eq_some_iff.1 he
    obtain ⟨n1, g1⟩ := evalCode_sound henv hm x st e1 s1 hlo hn h1
    cases e1 with
    | normal => cases h2; exact ⟨n1, fun a w h Q hQ => wp_block (g1 a w h _ hQ)⟩
    | ret => cases h2; exact ⟨n1, fun a w h Q hQ => wp_block (g1 a w h _ hQ)⟩
    | exit j =>
      dsimp only at h2
      split at h2
      · rename_i hj
        cases h2
        refine ⟨n1, fun a w h Q hQ => wp_block (g1 a w h _ fun a w h => ?_)⟩
        simp only [exOf, Exit.inBlock, hj, if_true]
        exact hQ a w h
      · rename_i hj
        cases h2
        refine ⟨n1, fun a w h Q hQ => wp_block (g1 a w h _ fun a w h => ?_)⟩
        simp only [exOf, Exit.inBlock, hj, if_false]
        exact hQ a w h
  | .loop b, st, e, s, hlo, hn, he => by
    simp only [evalCode] at he
    split at he
    · rename_i L hL
      split at he
      · rename_i c hc
        split at he
        · rename_i x hx
          obtain ⟨y, hy, h2⟩ := Option.bind_eq_some_iff.1 he
          rw [L.law] at h2
          cases h2
          obtain ⟨m, hloop⟩ := hlo b List.mem_cons_self L hL c x y hx hy
          refine ⟨hn, fun a w h Q hQ => ?_⟩
          have hin := gc_sound h hc
          rw [hn] at hin
          refine wp_loop_ind (I := fun m a w => ∃ c, In w0 B Io c.objs.length (ofCan n c) a w ∧ loopC P env or b L.h L.ho n m c = some (L.out x y)) (fun m a w ⟨c, hI, hl⟩ => ?_) (m := m) ⟨c, hin, hloop⟩
          cases m with
          | zero => simp [loopC] at hl
          | succ m =>
            simp only [loopC] at hl
            rw [evalCode_nat] at hl
            obtain ⟨⟨e1, s1⟩, h1, h2⟩ := Option.bind_eq_some_iff.1 hl
            obtain ⟨n1, g1⟩ := evalCode_sound henv hm b (ofCan n c) e1 s1 (fun b' hb => hlo b' (List.mem_cons_of_mem _ hb)) rfl h1
            refine g1 a w hI _ fun a w h => ?_
            have fin : ∀ e1, e1 ≠ .normal → (match gc (L.ho e1) s1 with | some c' => some (e1, c') | none => none) = some (L.out x y) → Q (exOf e1) a w := fun e1 _ h2 => by
              split at h2
              · rename_i c' hc'
                have hout := Option.some.inj h2
                have := gc_sound h hc'
                rw [n1] at this
                have hq := hQ a w
                rw [← hout] at hq
                exact hq (by rw [hn]; exact this)
              · cases h2
            cases e1 with
            | normal =>
              dsimp only at h2
              split at h2
              · rename_i c' hc'
                have := gc_sound h hc'
                rw [n1] at this
                exact ⟨m, by omega, c', this, h2⟩
              · cases h2
            | exit i => exact fin (.exit i) (by simp) h2
            | ret => exact fin .ret (by simp) h2
        · cases he
      · cases he
    · cases he
  | .goto .., _, _, _, _, _, he => by cases he
  | .label .., _, _, _, _, _, he => by cases he
  | .scope .., _, _, _, _, _, he => by cases he
  | .rangeFunc .., _, _, _, _, _, he => by cases he
  | .refuse .., _, _, _, _, _, he => by cases he
variable {P : Program} {w0 gw : W0} {w : World} {B : Nat} {Io R : Nat → Prop} {ρ : Nat → Option Pl} {Fr : Nat → Prop} {st s : St} {a : Act}
variable {env : Nat → Option Callee} {or : Ora}
theorem ALs.nil (C : Nat → Prop) : ALs gw w R [] C := ⟨fun _ _ => False, fun i p hp => by simp at hp, fun _ _ _ _ h => h.elim, fun _ _ h => h.elim⟩
theorem ALs.sub {L : List (Value × AVal)} {C C' : Nat → Prop} (h : ALs gw w R L C) (hC : ∀ b, C b → C' b) : ALs gw w R L C' := by
  obtain ⟨Ss, h1, h2, h3⟩ := h
  exact ⟨Ss, h1, h2, fun i b hb => hC b (h3 i b hb)⟩
theorem ALs.append {M : List (Value × AVal)} {C2 : Nat → Prop} (hM : ALs gw w R M C2) : ∀ {L : List (Value × AVal)} {C1 C : Nat → Prop}, ALs gw w R L C1 → (∀ b, C1 b → C2 b → False) → (∀ b, C1 b ∨ C2 b → C b) → ALs gw w R (L ++ M) C
  | [], C1, C, hL, hd, hC => hM.sub fun b hb => hC b (.inr hb)
  | p :: L, C1, C, hL, hd, hC => by
    obtain ⟨S0, S1, g2, g3, g4, g5⟩ := hL.tail
    exact .cons (S1 := fun b => S1 b ∨ C2 b) g2 (ALs.append hM g3 (fun b h1 h2 => hd b (g5 b (.inr h1)) h2) (fun b h => h)) (fun b h1 h2 => h2.elim (g4 b h1) (hd b (g5 b (.inl h1)))) (fun b h => h.elim (fun h => hC b (.inl (g5 b (.inl h)))) fun h => h.elim (fun h => hC b (.inl (g5 b (.inr h)))) fun h => hC b (.inr h))
theorem Blks_append {q1 q2 : List (Nat × Option Nat)} {b : Nat} : Blks st ρ (q1 ++ q2) b ↔ Blks st ρ q1 b ∨ Blks st ρ q2 b := by
  constructor
  · rintro ⟨q, hq, hb⟩
    rcases List.mem_append.1 hq with h | h
    · exact .inl ⟨q, h, hb⟩
    · exact .inr ⟨q, h, hb⟩
  · rintro (⟨q, hq, hb⟩ | ⟨q, hq, hb⟩)
    · exact ⟨q, List.mem_append_left _ hq, hb⟩
    · exact ⟨q, List.mem_append_right _ hq, hb⟩
def resV (tmps : Array Value) : ResultVar → Sem Value
  | .tmp t => pure (tmps.getD t undef)
  | .cell a t => do loadVar t (← asAddr (tmps.getD a undef))
theorem resRes_or {x y : AVal} (h : resRes st x = some y) : (x = .undef ∧ y = .undef) ∨ resArg st true x = some y := by
  cases x <;> first | (exact .inr h) | (simp only [resRes, Option.some.injEq] at h; exact .inl ⟨rfl, h.symm⟩)
theorem results_list (h : SR w0 B Io R ρ Fr st a w) : ∀ {rvs : List ResultVar} {rs : List AVal}, resultsA P st rvs = some rs → ((resultPrs st rvs).map (·.1)).Nodup →
    ∃ vals, (rvs.mapM (resV a.tmps)).run P w = .ok vals w ∧ vals.length = rs.length ∧ ALs gw w R (vals.zip rs) (Blks st ρ (resultPrs st rvs))
  | [], rs, he, hn => by cases he; exact ⟨[], rfl, rfl, .nil _⟩
  | .tmp t :: rvs, rs, he, hn => by
    simp only [resultsA] at he
    split at he
    · rename_i x xs hx hxs
      cases he
      simp only [resultPrs, List.map_append] at hn ⊢
      obtain ⟨vals, g1, g2, g3⟩ := results_list h hxs (List.nodup_append.1 hn).2.1
      refine ⟨a.tmps.getD t undef :: vals, ?_, by simp [g2], ?_⟩
      · rw [List.mapM_cons]
        simp [resV, g1]
      · rcases resRes_or hx with ⟨_, e⟩ | hx
        · subst e
          exact .cons (S0 := fun _ => False) trivial g3 (fun b h1 h2 => h1) fun b hb => Blks_append.2 (hb.elim (fun h => h.elim) .inr)
        · refine .cons (resArg_own h (h.ev (.tmp t)) hx (.inr rfl) (List.nodup_append.1 hn).1) g3 (fun b h1 h2 => Blks_apart h hn h1 h2) fun b hb => Blks_append.2 hb
    · cases he
  | .cell c T :: rvs, rs, he, hn => by
    simp only [resultsA] at he
    split at he
    · rename_i id hid
      split at he
      · rename_i cs hob
        split at he
        · rename_i hg hsz
          have hsz := of_decide_eq_true hsz
          split at he
          · rename_i ys xs hys hxs
            cases he
            simp only [resultPrs, hid, hob, List.map_append] at hn ⊢
            obtain ⟨vals, g1, g2, g3⟩ := results_list h hxs (List.nodup_append.1 hn).2.1
            have hv := h.ev (.tmp c)
            rw [hid] at hv
            obtain ⟨b, off, h1, h2⟩ := hv
            have h2 : a.tmps.getD c undef = .pointer (some ⟨b, off + 0, none⟩) := h2
            obtain ⟨p, hp, hoa⟩ := h.ob id _ hob
            rw [h1] at hp; cases hp
            obtain ⟨b', off', arr, E, e1, e2, e3⟩ := hoa
            cases e1
            obtain ⟨u, r1, r2⟩ := run_loadVar' (P := P) (w := w) (R := R) (ρ := ρ) (c := 0) (cs := cs) (v := .agg cs) (b := b) (off := off) hg hsz (by simp [takeV]) (fun k x hx => by
              obtain ⟨u, q1, q2⟩ := e3 k x hx
              exact ⟨u, by rw [cellAt_of e2]; exact q1, q2⟩)
            refine ⟨u :: vals, ?_, by simp [g2], ?_⟩
            · rw [List.mapM_cons]
              have h2 : a.tmps.getD c undef = .pointer (some ⟨b, off + 0, none⟩) := h2
              have : (resV a.tmps (.cell c T)).run P w = .ok u w := by
                simp only [resV, h2, asAddr]
                simpa using r1
              simp [this, g1]
            · refine .cons (resArg_own (fl := true) h r2 (by simp [resArg, hys]) (.inr rfl) (List.nodup_append.1 hn).1) g3 (fun b h1 h2 => Blks_apart h hn h1 h2) fun b hb => Blks_append.2 hb
          · cases he
        · cases he
      · cases he
    · cases he
theorem afters_list (h : SR w0 B Io R ρ Fr st a w) : ∀ {ds : List AVal} {vs : List Value} {k : Nat} {asv : List AVal}, vs.length = ds.length → (∀ i v, vs[i]? = some v → w0.par (k + i) = some v) → aftersA st ds k = some asv → ((afterPrs st ds k).map (·.1)).Nodup →
    (ownVals ds vs).length = asv.length ∧ ALs gw w R ((ownVals ds vs).zip asv) (Blks st ρ (afterPrs st ds k))
  | [], vs, k, asv, hl, hp, he, hn => by cases he; exact ⟨rfl, .nil _⟩
  | d :: ds, [], k, asv, hl, hp, he, hn => by simp at hl
  | d :: ds, v :: vs, k, asv, hl, hp, he, hn => by
    have hp' : ∀ i u, vs[i]? = some u → w0.par (k + 1 + i) = some u := fun i u hu => by rw [show k + 1 + i = k + (i + 1) by omega]; exact hp (i + 1) u (by simpa using hu)
    cases ho : isOwn d with
    | false =>
      have e1 : ownVals (d :: ds) (v :: vs) = ownVals ds vs := by simp [ownVals, ho]
      simp only [aftersA, ho] at he
      simp only [afterPrs, ho] at hn ⊢
      rw [e1]
      exact afters_list h (by simpa using hl) hp' he hn
    | true =>
      have e1 : ownVals (d :: ds) (v :: vs) = v :: ownVals ds vs := by simp [ownVals, ho]
      simp only [aftersA, ho] at he
      simp only [afterPrs, ho] at hn ⊢
      rw [e1]
      split at he
      · rename_i ys hys
        split at he
        · rename_i y hpr hy
          cases he
          simp only [hpr, hy, List.map_append] at hn ⊢
          obtain ⟨g1, g2⟩ := afters_list h (by simpa using hl) hp' hys (List.nodup_append.1 hn).2.1
          have hv : VA w0 w R ρ v (st.tm k) := by
            have := h.tm k
            rw [h.par k v (by simpa using hpr) (hp 0 v rfl)] at this
            exact this
          exact ⟨by simp [g1], .cons (resArg_own h hv hy (.inr rfl) (List.nodup_append.1 hn).1) g2 (fun b h1 h2 => Blks_apart h hn h1 h2) fun b hb => Blks_append.2 hb⟩
        · rename_i hno
          cases he
          have hn : ((afterPrs st ds (k + 1)).map (·.1)).Nodup := by
            revert hn
            split
            · rename_i y h1 h2; exact absurd h2 (hno y h1)
            · exact id
          try (split; · rename_i y h1 h2; exact absurd h2 (hno y h1))
          obtain ⟨g1, g2⟩ := afters_list h (by simpa using hl) hp' hys hn
          exact ⟨by simp [g1], .cons (S0 := fun _ => False) trivial g2 (fun b h1 _ => h1) fun b hb => hb.elim (fun h => h.elim) id⟩
      · cases he
theorem resArg_notup {fl : Bool} {x y : AVal} (h : resArg st fl x = some y) : ∀ vs, y ≠ .tup vs := by
  intro vs e
  subst e
  cases x <;> simp only [resArg] at h
  case agg => split at h <;> cases h
  case ptr id c =>
    split at h
    · split at h
      · split at h <;> cases h
      · cases h
    · cases h
  case sref id row win =>
    cases fl <;> simp only [resCell] at h <;> split at h
    all_goals first
      | (cases h; done)
      | (split at h
         all_goals first
           | (cases h; done)
           | (split at h <;> cases h))
  all_goals (cases fl <;> simp [resCell] at h)
theorem resultsA_one {rvs : List ResultVar} {x : AVal} (h : resultsA P st rvs = some [x]) : ∀ vs, x ≠ .tup vs := by
  cases rvs with
  | nil => simp [resultsA] at h
  | cons r rvs =>
    cases r with
    | tmp t =>
      simp only [resultsA] at h
      split at h
      · rename_i y ys hy hys
        simp at h
        rw [← h.1]
        rcases resRes_or hy with ⟨_, e⟩ | hy
        · rw [e]; simp
        · exact resArg_notup hy
      · cases h
    | cell c T =>
      simp only [resultsA] at h
      split at h
      · split at h
        · split at h
          · split at h
            · simp at h
              intro vs e; rw [e] at h; simp at h
            · cases h
          · cases h
        · cases h
      · cases h
theorem resList_tupOf {rvs : List ResultVar} {rs : List AVal} (h : resultsA P st rvs = some rs) : resList (tupOf rs) = rs := by
  match rs, h with
  | [], _ => rfl
  | [x], h =>
    show resList x = [x]
    have := resultsA_one h
    cases x <;> first | rfl | exact absurd rfl (this _)
  | _ :: _ :: _, _ => rfl
theorem slotsOf_get : ∀ (xs : List AVal) (i t : Nat), slotsOf xs i t = if i ≤ t then (xs[t - i]?).getD .undef else .undef
  | [], i, t => by simp [slotsOf]
  | x :: xs, i, t => by
    simp only [slotsOf]
    rw [slotsOf_get xs (i + 1) t]
    by_cases h : t = i
    · subst h; simp
    · simp only [h, if_false]
      by_cases h1 : i ≤ t
      · have : i + 1 ≤ t := by omega
        simp only [this, h1, if_true]
        rw [show t - i = (t - (i + 1)) + 1 by omega]
        simp
      · have : ¬ i + 1 ≤ t := by omega
        simp [this, h1]
def Left (w : World) (R Io : Nat → Prop) (vs us : List Value) (ds : List AVal) (out : AVal × List AVal) (e : Ending) (w' : World) : Prop :=
  ∃ rs : List (Value × AVal), e = .returned (tupV (rs.map (·.1))) ∧ rs.map (·.2) = resList out.1 ∧ tupOf (rs.map (·.2)) = out.1 ∧
      (ownVals ds (vs ++ us)).length = out.2.length ∧ ∃ R', ALs (gnil w) w' R' (rs ++ (ownVals ds (vs ++ us)).zip out.2) (fun b => b < w'.heap.size ∧ ¬ R' b ∧ (Io b ∨ w.heap.size ≤ b)) ∧
      (∀ b, R b → R' b) ∧ (∀ b, R' b → b < w'.heap.size ∧ (R b ∨ (Io b ∨ w.heap.size ≤ b))) ∧ (∀ b, b < w.heap.size → ¬ Io b → w'.heap[b]? = w.heap[b]?) ∧ w.heap.size ≤ w'.heap.size ∧ Quiet w w'
theorem ownVals_app : ∀ {ds es : List AVal} {vs us : List Value}, ds.length = vs.length → ownVals (ds ++ es) (vs ++ us) = ownVals ds vs ++ ownVals es us
  | [], es, [], us, h => by cases es <;> simp [ownVals]
  | [], es, _ :: _, us, h => by simp at h
  | _ :: _, es, [], us, h => by simp at h
  | d :: ds, es, v :: vs, us, h => by
    have := ownVals_app (ds := ds) (es := es) (vs := vs) (us := us) (by simpa using h)
    simp only [List.cons_append, ownVals]
    split <;> simp [this]
theorem call_of {f : Nat} {fn : Func} {code : Code} (hf : P.funcs[f]? = some fn) (hb : fn.body = some code) (henv : EnvOk P env) (hm : P.follows .mixedOrders = true) (hlo : LoOk P env or fn.ntmps (loopsIn code))
    {w : World} {R Io F : Nat → Prop} {vs us : List Value} {ds : List AVal} {out : AVal × List AVal} (hlen : (vs ++ us).length = ds.length) (hals : ALs ⟨w, R, parG vs us fn.ntmps, F⟩ w R ((vs ++ us).zip ds) Io)
    (hF : KF w F w.heap.size Io) (hIo : ∀ b, Io b → b < w.heap.size ∧ ¬ R b) (hR : ∀ b, R b → b < w.heap.size)
    (he : evalFn P env or fn ds us.length = some out) : Calls P f vs.toArray w (Left w R Io vs us ds out) := by
  have hm' : ds.length - us.length = vs.length := by rw [← hlen]; simp
  unfold evalFn at he
  rw [hb] at he
  dsimp only at he
  split at he
  rotate_left
  · cases he
  rename_i hle
  have hle := of_decide_eq_true hle
  unfold evalBody at he
  rw [hm'] at he hle
  have hmap : ((vs ++ us).zip ds).map (·.2) = ds := by
    rw [List.map_snd_zip]
    omega
  have hsz : ({ tmps := vs.toArray ++ Array.replicate (fn.ntmps - vs.toArray.size) undef, defers := [] } : Act).tmps.size = fn.ntmps := by simp; omega
  have hget : ∀ (k : Nat) (v : Value), vs[k]? = some v → (vs.toArray ++ Array.replicate (fn.ntmps - vs.toArray.size) undef).getD k undef = v := fun k v hv => by
    have := lt_of_get hv
    rw [Array.getD_eq_getD_getElem?, Array.getElem?_append_left (by simpa using this)]
    simp [hv]
  have hpar : ∀ (k : Nat) (v : Value), parG vs us fn.ntmps k = some v → tmv ⟨w, R, parG vs us fn.ntmps, F⟩ { tmps := vs.toArray ++ Array.replicate (fn.ntmps - vs.toArray.size) undef, defers := [] } k = v := fun k v hv => by
    by_cases hk : k < fn.ntmps
    · rw [tmv_lt (by rw [hsz]; exact hk)]
      refine hget k v ?_
      unfold parG at hv
      split at hv
      · rename_i v' hv'; rw [hv']; exact hv
      · rw [if_neg (by omega)] at hv; cases hv
    · rw [tmv_ge (by rw [hsz]; exact hk)]
      show (parG vs us fn.ntmps k).getD undef = v
      rw [hv]; rfl
  have hsr0 : SR ⟨w, R, parG vs us fn.ntmps, F⟩ w.heap.size Io R (fun _ => none) (fun _ => True) { tm := fun _ => .undef, ob := fun _ => none, nx := 0, n := fn.ntmps, pr := ownSlots (ds.take vs.length) 0 ++ ownSlots (ds.drop vs.length) fn.ntmps }
      { tmps := vs.toArray ++ Array.replicate (fn.ntmps - vs.toArray.size) undef, defers := [] } w :=
    { size := hsz, dfr := rfl, tm := fun t => trivial, ob := fun id o h => (by cases h), sep := fun id o id' o' p p' b _ h => (by cases h), own := fun id o p b h => (by cases h), rlt := hR, frame := fun b _ _ => rfl, size0 := Nat.le_refl _, fr := fun _ _ => rfl, r0 := fun b hb => hb, r1 := fun b hb => .inl hb, q := .refl w, par := fun k v _ hv => hpar k v hv, f0 := hF }
  obtain ⟨ρ', hin, hil, hiv⟩ := inst_list (i := 0) hsr0 (fun _ _ _ => trivial) (GLe.refl _) hals (fun b hb => ⟨⟨(hIo b hb).1, (hIo b hb).2, .inr hb⟩, fun ⟨id, o, p, h, _⟩ => (by cases h)⟩)
  rw [hmap] at hin hil hiv
  generalize hz : instList ds 0 = z at he hin hil hiv
  obtain ⟨avs, os, m⟩ := z
  dsimp only at he hin hil hiv
  rw [evalCode_nat] at he
  obtain ⟨⟨e, s⟩, he1, he2⟩ := Option.bind_eq_some_iff.1 he
  have hav : avs.length = (vs ++ us).length := by rw [hil]; simp [hlen]
  have hin0 : In ⟨w, R, parG vs us fn.ntmps, F⟩ w.heap.size Io m { tm := slotsG fn.ntmps vs.length avs, ob := objsOf os, nx := m, n := fn.ntmps, pr := ownSlots (ds.take vs.length) 0 ++ ownSlots (ds.drop vs.length) fn.ntmps }
      { tmps := vs.toArray ++ Array.replicate (fn.ntmps - vs.toArray.size) undef, defers := [] } w := by
    have hsr := hin.sr
    refine ⟨R, ρ', { size := hsr.size, dfr := hsr.dfr, tm := fun t => ?_, ob := hsr.ob, sep := hsr.sep, own := hsr.own, rlt := hsr.rlt, frame := hsr.frame, size0 := hsr.size0, fr := fun i hi => hsr.fr i ⟨trivial, fun e => by omega⟩, r0 := hsr.r0, r1 := hsr.r1, q := hsr.q, par := hsr.par, f0 := hsr.f0 }⟩
    have one : ∀ (i : Nat) v x, (vs ++ us)[i]? = some v → avs[i]? = some x → VA ⟨w, R, parG vs us fn.ntmps, F⟩ w R ρ' v x := fun i v x hv hx => by
      have hi : i < ds.length := by rw [← hlen]; exact lt_of_get hv
      have hd : ds[i]? = some ds[i] := List.getElem?_eq_getElem hi
      exact .of1 (hiv i (v, ds[i]) x (by rw [List.getElem?_zip_eq_some]; exact ⟨hv, hd⟩) hx)
    show VA _ _ _ _ _ (slotsG fn.ntmps vs.length avs t)
    unfold slotsG
    split
    · rename_i ht
      have ht := of_decide_eq_true ht
      rw [slotsOf_get]
      simp only [Nat.zero_le, if_true, Nat.sub_zero]
      cases hx : (avs.take vs.length)[t]? with
      | none => exact trivial
      | some x =>
        have htv : t < vs.length := by have := lt_of_get hx; simp at this; omega
        rw [List.getElem?_take_of_lt htv] at hx
        have hv : vs[t]? = some vs[t] := List.getElem?_eq_getElem htv
        rw [tmv_lt (by rw [hsz]; exact ht), hget t _ hv]
        exact one t _ x (by rw [List.getElem?_append_left htv]; exact hv) hx
    · rename_i ht
      have ht := of_decide_eq_false ht
      have ht : fn.ntmps ≤ t := by omega
      rw [slotsOf_get, if_pos ht]
      cases hx : (avs.drop vs.length)[t - fn.ntmps]? with
      | none => exact trivial
      | some x =>
        rw [List.getElem?_drop] at hx
        have hlt : t - fn.ntmps < us.length := by have := lt_of_get hx; rw [hav] at this; simp at this; omega
        have hv : us[t - fn.ntmps]? = some us[t - fn.ntmps] := List.getElem?_eq_getElem hlt
        rw [hpar t _ (parG_guest hle ht hv)]
        exact one _ _ x (by rw [List.getElem?_append_right (by omega), show vs.length + (t - fn.ntmps) - vs.length = t - fn.ntmps by omega]; exact hv) hx
  obtain ⟨hn, hwp⟩ := evalCode_sound (w0 := ⟨w, R, parG vs us fn.ntmps, F⟩) (B := w.heap.size) (Io := Io) henv hm code _ e s hlo rfl he1
  refine calls_of_wp hf hb (hwp _ _ hin0 _ fun a w' h => ?_)
  have fin : (∀ i, e ≠ .exit i) → (match resultsA P (pres s or.fin) fn.results.toList, aftersG (pres s or.fin) fn.ntmps vs.length ds with
      | some rs, some asv => match decide (((resultPrs (pres s or.fin) fn.results.toList ++ (afterPrs (pres s or.fin) (ds.take vs.length) 0 ++ afterPrs (pres s or.fin) (ds.drop vs.length) fn.ntmps)).map (·.1)).Nodup) with
        | true => some (tupOf rs, asv)
        | false => none
      | _, _ => none) = some (out) := fun hne => by
    cases e with
    | exit i => exact absurd rfl (hne i)
    | normal => exact he2
    | ret => exact he2
  have hne : ∀ i, e ≠ .exit i := fun i e' => by subst e'; cases he2
  have he3 := fin hne
  have h := pres_sound or.fin h
  clear fin he2 he he1 hwp hn
  generalize pres s or.fin = s at he3 h
  split at he3
  rotate_left
  · cases he3
  rename_i rs asv hrs has
  split at he3
  rotate_left
  · cases he3
  rename_i hnd
  have hnd := of_decide_eq_true hnd
  have hout := Option.some.inj he3
  rw [List.map_append] at hnd
  have hnd2 := (List.nodup_append.1 hnd).2.1
  have hnd2' := hnd2
  rw [List.map_append] at hnd2
  obtain ⟨R', ρ2, h⟩ := h
  obtain ⟨vals, g1, g2, g3⟩ := results_list (gw := gnil w) h hrs (List.nodup_append.1 hnd).1
  unfold aftersG at has
  split at has
  rotate_left
  · cases has
  rename_i as1 has1
  split at has
  rotate_left
  · cases has
  rename_i as2 has2
  have has := Option.some.inj has
  obtain ⟨f1, f2⟩ := afters_list (gw := gnil w) (vs := vs) h (by simp; omega) (fun i v hv => by
    show parG vs us fn.ntmps (0 + i) = some v
    unfold parG
    rw [Nat.zero_add, hv]) has1 (List.nodup_append.1 hnd2).1
  obtain ⟨f3, f4⟩ := afters_list (gw := gnil w) (vs := us) h (by simp; simp at hlen; omega) (fun i v hv => parG_guest hle (by omega) (by rw [show fn.ntmps + i - fn.ntmps = i by omega]; exact hv)) has2 (List.nodup_append.1 hnd2).2.1
  have hown : ownVals ds (vs ++ us) = ownVals (ds.take vs.length) vs ++ ownVals (ds.drop vs.length) us := by
    rw [← ownVals_app (by simp; simp at hlen; omega), List.take_append_drop]
  have f5 : (ownVals ds (vs ++ us)).length = asv.length := by rw [hown, ← has]; simp [f1, f3]
  have f6 : ALs (gnil w) w' R' ((ownVals ds (vs ++ us)).zip asv) (Blks s ρ2 (afterPrs s (ds.take vs.length) 0 ++ afterPrs s (ds.drop vs.length) fn.ntmps)) := by
    rw [hown, ← has, List.zip_append f1]
    exact ALs.append f4 f2 (fun b h1 h2 => Blks_apart h hnd2 h1 h2) fun b hb => Blks_append.2 hb
  have post : a.defers = [] ∧ ∃ v, (results fn a.tmps).run P w' = .ok v w' ∧ Left w R Io vs us ds out (Ending.returned v) w' := by
    refine ⟨h.dfr, tupV vals, ?_, vals.zip rs, ?_, ?_, ?_, ?_, R', ?_, h.r0, fun b hb => ⟨h.rlt b hb, (h.r1 b hb).imp id Or.symm⟩, h.frame, h.size0, h.q⟩
    · have e : results fn a.tmps = (do
          let vs ← fn.results.mapM (resV a.tmps)
          pure (if h : vs.size = 1 then vs[0] else .tuple vs)) := by
        unfold results
        congr 1
      rw [e, Array.mapM_eq_mapM_toList]
      simp only [Sem.run_bind, Sem.run_map, g1]
      match vals with
      | [] => rfl
      | [x] => rfl
      | x :: y :: r => simp [tupV]
    · rw [List.map_fst_zip (by omega)]
    · rw [List.map_snd_zip (by omega), ← hout]; exact (resList_tupOf hrs).symm
    · rw [List.map_snd_zip (by omega), ← hout]
    · rw [← hout]; exact f5
    · rw [← hout]
      refine ALs.append f6 g3 (fun b h1 h2 => Blks_apart h hnd h1 h2) fun b hb => ?_
      have : ∃ qs, Blks s ρ2 qs b := hb.elim (fun h => ⟨_, h⟩) fun h => ⟨_, h⟩
      obtain ⟨qs, hb⟩ := this
      obtain ⟨q, _, o', p, z1, z2, z3⟩ := Blks_mem_ob h hb
      obtain ⟨y1, y2, y3⟩ := h.own _ o' p b z1 z2 z3
      exact ⟨y1, y2, y3.symm⟩
  cases e with
  | exit i => exact absurd rfl (hne i)
  | normal => exact post
  | ret => exact post
theorem parG_nil (vs : List Value) (gb gb' : Nat) : parG vs [] gb = parG vs [] gb' := by
  funext k
  unfold parG
  cases vs[k]? with
  | some v => rfl
  | none => simp
end Go.OAI
