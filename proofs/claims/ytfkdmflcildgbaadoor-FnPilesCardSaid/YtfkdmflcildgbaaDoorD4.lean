/- Regions that draw their order: the steps may change places. Regions that draw their order: every order. -/
import Derived.Test.YtfkdmflcildgbaaDoorD2
namespace Go.OAI
set_option linter.unusedVariables false

variable {P : Program} {w0 : W0} {w : World} {B : Nat} {Io R : Nat → Prop} {ρ : Nat → Option Pl} {Fr : Nat → Prop} {st s : St} {a : Act}
variable {env : Nat → Option Callee} {ops : Array Oper} {b : Array Nat} {st0 : St} {kc : List (Nat × Nat)}

def wantedA (ops : Array Oper) (o : Oper) (st : St) : Option Bool :=
  match o.guard with
  | none => some true
  | some (g, want) => match dstOf ops g with
    | none => none
    | some s => match ev st (.tmp s) with
      | .bool c => some (c == want)
      | .tup [] => some false
      | _ => none
def Val (P : Program) (env : Nat → Option Callee) (ops : Array Oper) (b : Array Nat) (st0 : St) (kc : List (Nat × Nat)) (j : Nat) (o : Oper) (st : St) (d : Delta) : Prop :=
  ∃ hid ms, hidOf P env ops st0.nx st0 (unord b ops.size j) = some hid ∧ (unord b ops.size j ≠ [] → modIds P env ops st0.nx st0 o = some ms ∧ updOk st0.nx j (unord b ops.size j) ms hid d = true) ∧ keepOk st0 kc d = true ∧
    evalOpJ P env ops st0 kc j (st0.nx + 16 * j) (maskSt ops st0.nx (unord b ops.size j) hid st) o some = some d
def Eff (P : Program) (env : Nat → Option Callee) (ops : Array Oper) (b : Array Nat) (st0 : St) (kc : List (Nat × Nat)) (j : Nat) (st : St) (d : Delta) : Prop :=
  ∃ o, ops[j]? = some o ∧ ((wantedA ops o st = some true ∧ Val P env ops b st0 kc j o st d) ∨ (wantedA ops o st = some false ∧ d = ⟨.tup [], []⟩))
def Chain (P : Program) (env : Nat → Option Callee) (ops : Array Oper) (b : Array Nat) (st0 : St) (kc : List (Nat × Nat)) : List Nat → St → St → Prop
  | [], st, fin => st = fin
  | j :: r, st, fin => ∃ d, Eff P env ops b st0 kc j st d ∧ Chain P env ops b st0 kc r (st.app (dstOf ops j) d) fin

theorem evalD1_val {j : Nat} {o : Oper} {st : St} {α : Type} {k : Delta → Option α} {r : α} (he : evalD1 P env ops b st0 kc j o st k = some r) : ∃ d, Val P env ops b st0 kc j o st d ∧ k d = some r := by
  rw [evalD1_nat] at he
  obtain ⟨d, hd, hk⟩ := Option.bind_eq_some_iff.1 he
  refine ⟨d, ?_, hk⟩
  unfold evalD1 at hd
  dsimp only at hd
  split at hd
  · rename_i hid ms h1 h2
    rw [evalOpJ_nat] at hd
    obtain ⟨d', hd', hk'⟩ := Option.bind_eq_some_iff.1 hd
    cases hu : (unord b ops.size j).isEmpty || updOk st0.nx j (unord b ops.size j) ms hid d' with
    | false => rw [hu] at hk'; cases hk'
    | true =>
      rw [hu, cond_true] at hk'
      cases hkc : keepOk st0 kc d' with
      | false => rw [hkc] at hk'; cases hk'
      | true =>
      rw [hkc] at hk'
      cases hk'
      refine ⟨hid, ms, h1, fun hne => ?_, hkc, hd'⟩
      have he : (unord b ops.size j).isEmpty = false := by
        cases h : unord b ops.size j with
        | nil => exact absurd h hne
        | cons => rfl
      rw [he] at h2 hu
      simpa using ⟨h2, hu⟩
  · cases hd

theorem evalD_chain : ∀ {l : List Oper} {j : Nat} {st fin : St}, (∀ i, l[i]? = ops[j + i]?) → evalD P env ops b st0 kc l j st some = some fin → Chain P env ops b st0 kc (List.range' j l.length) st fin
  | [], j, st, fin, hl, he => by cases he; rfl
  | o :: l, j, st, fin, hl, he => by
    have hj : ops[j]? = some o := by have := hl 0; simpa using this.symm
    have hd : dstOf ops j = o.dst := by simp [dstOf, hj]
    have hl' : ∀ i, l[i]? = ops[j + 1 + i]? := fun i => by
      have := hl (i + 1)
      rw [show j + 1 + i = j + (i + 1) by omega, ← this]
      simp
    show ∃ d, _ ∧ Chain P env ops b st0 kc (List.range' (j + 1) l.length) _ fin
    rw [hd]
    have run : wantedA ops o st = some true → evalD1 P env ops b st0 kc j o st (fun d => evalD P env ops b st0 kc l (j + 1) (st.app o.dst d) some) = some fin → ∃ d, Eff P env ops b st0 kc j st d ∧ Chain P env ops b st0 kc (List.range' (j + 1) l.length) (st.app o.dst d) fin := fun hw he => by
      obtain ⟨d, h1, h2⟩ := evalD1_val he
      exact ⟨d, ⟨o, hj, .inl ⟨hw, h1⟩⟩, evalD_chain hl' h2⟩
    have skip : wantedA ops o st = some false → evalD P env ops b st0 kc l (j + 1) (st.put o.dst (.tup [])) some = some fin → ∃ d, Eff P env ops b st0 kc j st d ∧ Chain P env ops b st0 kc (List.range' (j + 1) l.length) (st.app o.dst d) fin := fun hw he =>
      ⟨⟨.tup [], []⟩, ⟨o, hj, .inr ⟨hw, rfl⟩⟩, by rw [app_nil]; exact evalD_chain hl' he⟩
    simp only [evalD] at he
    split at he
    · rename_i hg
      exact run (by simp [wantedA, hg]) he
    · rename_i jg want hg
      split at he
      · cases he
      · rename_i sl hsl
        split at he
        · rename_i c hb
          have hsl' : dstOf ops jg = some sl := hsl
          have hw : wantedA ops o st = some (c == want) := by simp [wantedA, hg, hsl', hb]
          cases c <;> cases want <;> simp only [cond_true, cond_false] at he <;> rw [kn_self (ev_tmp hb (by simp))] at he
          · exact run hw he
          · exact skip hw he
          · exact skip hw he
          · exact run hw he
        · rename_i hb
          have hsl' : dstOf ops jg = some sl := hsl
          exact skip (by simp [wantedA, hg, hsl', hb]) he
        · cases he

theorem app_tm (st : St) (d : Option Nat) (x : Delta) (t : Nat) : (st.app d x).tm t = if d = some t ∧ t < st.n then x.val else st.tm t := by
  show (st.put d x.val).tm t = _
  cases d with
  | none => simp [St.put]
  | some d =>
    simp only [St.put, setTm_tm, Option.some.injEq]
    by_cases e : t = d
    · subst e; simp
    · have e' : ¬ d = t := fun h => e h.symm
      simp [e, e']
theorem app_ob (st : St) (d : Option Nat) (x : Delta) : (st.app d x).ob = obUpd st.ob x.upd := rfl
theorem app_nx (st : St) (d : Option Nat) (x : Delta) : (st.app d x).nx = st.nx := by
  show (st.put d x.val).nx = _
  simp
theorem app_n (st : St) (d : Option Nat) (x : Delta) : (st.app d x).n = st.n := by
  show (st.put d x.val).n = _
  simp
theorem obUpd_not : ∀ {u : List (Nat × Option Obj)} {ob : Nat → Option Obj} {id : Nat}, (∀ p ∈ u, p.1 ≠ id) → obUpd ob u id = ob id
  | [], _, _, _ => rfl
  | (i, o) :: u, ob, id, h => by
    show obUpd (fun j => if j = i then o else ob j) u id = _
    rw [obUpd_not fun p hp => h p (List.mem_cons_of_mem _ hp)]
    have : ¬ id = i := fun e => h (i, o) List.mem_cons_self e.symm
    simp [this]
theorem obUpd_in : ∀ {u : List (Nat × Option Obj)} {ob ob' : Nat → Option Obj} {id : Nat}, (∃ p ∈ u, p.1 = id) → obUpd ob u id = obUpd ob' u id
  | [], _, _, _, h => by obtain ⟨p, hp, _⟩ := h; simp at hp
  | (i, o) :: u, ob, ob', id, h => by
    show obUpd (fun j => if j = i then o else ob j) u id = obUpd (fun j => if j = i then o else ob' j) u id
    by_cases hu : ∃ p ∈ u, p.1 = id
    · exact obUpd_in hu
    · have hu' : ∀ p ∈ u, p.1 ≠ id := fun p hp e => hu ⟨p, hp, e⟩
      rw [obUpd_not hu', obUpd_not hu']
      obtain ⟨p, hp, e⟩ := h
      rcases List.mem_cons.1 hp with rfl | hp
      · simp at e; simp [e]
      · exact absurd e (hu' p hp)
theorem obUpd_comm {u v : List (Nat × Option Obj)} (ob : Nat → Option Obj) (h : ∀ p ∈ u, ∀ q ∈ v, p.1 ≠ q.1) : obUpd (obUpd ob u) v = obUpd (obUpd ob v) u := by
  funext id
  by_cases hu : ∃ p ∈ u, p.1 = id
  · have hv : ∀ q ∈ v, q.1 ≠ id := fun q hq e => by obtain ⟨p, hp, e'⟩ := hu; exact h p hp q hq (by rw [e, e'])
    rw [obUpd_not hv]
    exact obUpd_in hu
  · have hu' : ∀ p ∈ u, p.1 ≠ id := fun p hp e => hu ⟨p, hp, e⟩
    rw [obUpd_not (ob := obUpd ob v) hu']
    by_cases hv : ∃ p ∈ v, p.1 = id
    · exact obUpd_in hv
    · have hv' : ∀ p ∈ v, p.1 ≠ id := fun p hp e => hv ⟨p, hp, e⟩
      rw [obUpd_not hv', obUpd_not hu', obUpd_not hv']

theorem app_pr (st : St) (d : Option Nat) (x : Delta) : (st.app d x).pr = match d with | some t => if t < st.n then st.pr.filter (fun k => k != t) else st.pr | none => st.pr := by
  show (st.put d x.val).pr = _
  cases d with
  | none => rfl
  | some d =>
    simp only [St.put, St.setTm]
    by_cases h : d < st.n <;> simp [h]
/-- Neither is ahead of the other. -/
def Un (ops : Array Oper) (b : Array Nat) (i j : Nat) : Prop := i < ops.size ∧ j < ops.size ∧ i ≠ j ∧ (b.getD j 0).testBit i = false ∧ (b.getD i 0).testBit j = false
theorem Un.symm {i j : Nat} (h : Un ops b i j) : Un ops b j i := ⟨h.2.1, h.1, fun e => h.2.2.1 e.symm, h.2.2.2.2, h.2.2.2.1⟩
theorem Un.mem {i j : Nat} (h : Un ops b i j) : i ∈ unord b ops.size j := by
  unfold unord
  rw [List.mem_filter]
  refine ⟨List.mem_range.2 h.1, ?_⟩
  rw [h.2.2.2.1, h.2.2.2.2]
  simp [h.2.2.1]

structure DOk (ops : Array Oper) (b : Array Nat) : Prop where
  dst : ∀ i j t, i ≠ j → dstOf ops i = some t → dstOf ops j = some t → False
  fwd : ∀ j o, ops[j]? = some o → ∀ e ∈ o.after, Region.binds .any e = true → e.on < j
  grd : ∀ j o g want, ops[j]? = some o → o.guard = some (g, want) → (b.getD j 0).testBit g = true
theorem drawnOk_spec (h : drawnOk ops b = true) : DOk ops b := by
  unfold drawnOk at h
  rw [Bool.and_eq_true] at h
  have h1 := of_decide_eq_true h.1
  have h2 := List.all_eq_true.1 h.2
  have lt : ∀ i j t, i < j → dstOf ops i = some t → dstOf ops j = some t → False := fun i j t hij hi hj => by
    simp only [dstOf, Option.bind_eq_some_iff] at hi hj
    obtain ⟨oi, hi, hti⟩ := hi
    obtain ⟨oj, hj, htj⟩ := hj
    have := List.pairwise_iff_getElem.1 h1 i j (by have := (Array.getElem?_eq_some_iff.1 hi).1; simpa using this) (by have := (Array.getElem?_eq_some_iff.1 hj).1; simpa using this) hij
    have ei : ops.toList[i]'(by have := (Array.getElem?_eq_some_iff.1 hi).1; simpa using this) = oi := by have := (Array.getElem?_eq_some_iff.1 hi).2; simpa using this
    have ej : ops.toList[j]'(by have := (Array.getElem?_eq_some_iff.1 hj).1; simpa using this) = oj := by have := (Array.getElem?_eq_some_iff.1 hj).2; simpa using this
    rw [ei, ej, hti, htj] at this
    simp at this
  have pt : ∀ (j : Nat) (o : Oper), ops[j]? = some o → (o.after.toList.all (fun e => !Region.binds .any e || decide (e.on < j)) && (match o.guard with
      | some (g, _) => (b.getD j 0).testBit g
      | none => true)) = true := fun j o ho => by
    have hlt := (Array.getElem?_eq_some_iff.1 ho).1
    have := h2 j (List.mem_range.2 hlt)
    rw [ho] at this
    exact this
  refine ⟨fun i j t hij hi hj => ?_, fun j o ho e he hb => ?_, fun j o g want ho hg => ?_⟩
  · rcases Nat.lt_or_gt_of_ne hij with h | h
    · exact lt i j t h hi hj
    · exact lt j i t h hj hi
  · have := pt j o ho
    rw [Bool.and_eq_true] at this
    have := List.all_eq_true.1 this.1 e (by simpa using he)
    simpa [hb] using this
  · have := pt j o ho
    rw [Bool.and_eq_true, hg] at this
    exact this.2

/-- What an operation's effect may touch. -/
theorem Eff.conf {i j : Nat} {st : St} {d : Delta} (h : Eff P env ops b st0 kc i st d) (hu : Un ops b j i) {p : Nat × Option Obj} (hp : p ∈ d.upd) :
    (st0.nx + 16 * i ≤ p.1 ∧ p.1 < st0.nx + 16 * (i + 1)) ∨ (∃ o ms hid, ops[i]? = some o ∧ modIds P env ops st0.nx st0 o = some ms ∧ p.1 ∈ ms ∧ hidOf P env ops st0.nx st0 (unord b ops.size i) = some hid ∧ p.1 ∉ hid ∧ ∀ u ∈ unord b ops.size i, ¬ (st0.nx + 16 * u ≤ p.1 ∧ p.1 < st0.nx + 16 * (u + 1))) := by
  obtain ⟨o, ho, h | h⟩ := h
  · obtain ⟨_, hid, ms, h1, h2, h3⟩ := h
    obtain ⟨h4, h5⟩ := h2 (fun e => by have := hu.mem; rw [e] at this; simp at this)
    have := List.all_eq_true.1 h5 p hp
    simp only [Bool.or_eq_true, Bool.and_eq_true, decide_eq_true_eq, Bool.not_eq_true', List.contains_iff_mem, List.any_eq_false, decide_eq_true_eq] at this
    rcases this with h | ⟨h6, h7, h8⟩
    · exact .inl h
    · exact .inr ⟨o, ms, hid, ho, h4, h6, h1, by simpa using h7, fun u hu' => by have := h8 u hu'; simpa using this⟩
  · rw [h.2] at hp; simp at hp

theorem hidOf_mem : ∀ {us hid : List Nat}, hidOf P env ops st0.nx st0 us = some hid → ∀ u ∈ us, ∃ o ms, ops[u]? = some o ∧ modIds P env ops st0.nx st0 o = some ms ∧ ∀ x ∈ ms, x ∈ hid
  | [], hid, h, u, hu => by simp at hu
  | v :: us, hid, h, u, hu => by
    simp only [hidOf] at h
    split at h
    · rename_i a1 h1
      split at h
      · rename_i b1 h2
        cases h
        rcases List.mem_cons.1 hu with rfl | hu
        · obtain ⟨o, ho, hm⟩ := Option.map_eq_some_iff.1 h1
          exact ⟨o, a1, ho, hm, fun x hx => List.mem_append_left _ hx⟩
        · obtain ⟨o, ms, g1, g2, g3⟩ := hidOf_mem h2 u hu
          exact ⟨o, ms, g1, g2, fun x hx => List.mem_append_right _ (g3 x hx)⟩
      · cases h
    · cases h

theorem mask_app (hd : DOk ops b) {i j : Nat} {st : St} {d : Delta} {hid : List Nat} (h : Eff P env ops b st0 kc i st d) (hu : Un ops b i j) (hh : hidOf P env ops st0.nx st0 (unord b ops.size j) = some hid) :
    maskSt ops st0.nx (unord b ops.size j) hid (st.app (dstOf ops i) d) = maskSt ops st0.nx (unord b ops.size j) hid st := by
  have e1 : (maskSt ops st0.nx (unord b ops.size j) hid (st.app (dstOf ops i) d)).tm = (maskSt ops st0.nx (unord b ops.size j) hid st).tm := by
    funext t
    simp only [maskSt]
    cases hm : (unord b ops.size j).any (fun i => dstOf ops i == some t) with
    | true => rfl
    | false =>
      simp only [cond_false]
      rw [app_tm]
      have : ¬ dstOf ops i = some t := fun e => by
        have := List.any_eq_false.1 hm i hu.mem
        simp [e] at this
      simp [this]
  have e2 : (maskSt ops st0.nx (unord b ops.size j) hid (st.app (dstOf ops i) d)).ob = (maskSt ops st0.nx (unord b ops.size j) hid st).ob := by
    funext id
    simp only [maskSt]
    cases hm : (unord b ops.size j).any (fun u => decide (st0.nx + 16 * u ≤ id) && decide (id < st0.nx + 16 * (u + 1))) || hid.contains id with
    | true => rfl
    | false =>
      simp only [cond_false]
      rw [app_ob]
      rw [Bool.or_eq_false_iff] at hm
      refine obUpd_not fun p hp e => ?_
      rcases h.conf hu.symm hp with h1 | ⟨o, ms, _, ho, h1, h2, _⟩
      · have := List.any_eq_false.1 hm.1 i hu.mem
        rw [e] at h1
        simp [h1] at this
      · obtain ⟨o', ms', g1, g2, g3⟩ := hidOf_mem hh i hu.mem
        rw [ho] at g1; cases g1
        rw [h1] at g2; cases g2
        have := g3 _ h2
        rw [e] at this
        have h3 := hm.2
        simp [this] at h3
  have e3 : (maskSt ops st0.nx (unord b ops.size j) hid (st.app (dstOf ops i) d)).nx = (maskSt ops st0.nx (unord b ops.size j) hid st).nx := app_nx ..
  have e4 : (maskSt ops st0.nx (unord b ops.size j) hid (st.app (dstOf ops i) d)).n = (maskSt ops st0.nx (unord b ops.size j) hid st).n := app_n ..
  have e5 : (maskSt ops st0.nx (unord b ops.size j) hid (st.app (dstOf ops i) d)).pr = (maskSt ops st0.nx (unord b ops.size j) hid st).pr := rfl
  generalize maskSt ops st0.nx (unord b ops.size j) hid (st.app (dstOf ops i) d) = x at *
  generalize maskSt ops st0.nx (unord b ops.size j) hid st = y at *
  cases x; cases y
  simp only at e1 e2 e3 e4 e5
  subst e1; subst e2; subst e3; subst e4; subst e5
  rfl

theorem wantedA_app (hd : DOk ops b) {i j : Nat} {o : Oper} {st : St} (d : Delta) (ho : ops[j]? = some o) (hu : Un ops b i j) : wantedA ops o (st.app (dstOf ops i) d) = wantedA ops o st := by
  unfold wantedA
  split
  · rfl
  · rename_i g want hg
    have hb := hd.grd j o g want ho hg
    have hne : i ≠ g := fun e => by rw [← e, hu.2.2.2.1] at hb; cases hb
    split
    · rfl
    · rename_i sl hsl
      have : ¬ dstOf ops i = some sl := fun e => hd.dst i g sl hne e hsl
      have e : ev (st.app (dstOf ops i) d) (.tmp sl) = ev st (.tmp sl) := by
        simp only [ev, app_n, app_tm]
        simp [this]
      rw [e]

theorem Eff.of_mask {i j : Nat} {st st' : St} {d : Delta} (h : Eff P env ops b st0 kc j st d) (hw : ∀ o, ops[j]? = some o → wantedA ops o st' = wantedA ops o st)
    (hm : ∀ hid, hidOf P env ops st0.nx st0 (unord b ops.size j) = some hid → maskSt ops st0.nx (unord b ops.size j) hid st' = maskSt ops st0.nx (unord b ops.size j) hid st) : Eff P env ops b st0 kc j st' d := by
  obtain ⟨o, ho, ⟨h1, hid, ms, h2, h3, h4⟩ | ⟨h1, h2⟩⟩ := h
  · exact ⟨o, ho, .inl ⟨(hw o ho).trans h1, hid, ms, h2, h3, by rw [hm hid h2]; exact h4⟩⟩
  · exact ⟨o, ho, .inr ⟨(hw o ho).trans h1, h2⟩⟩

theorem app_comm (hd : DOk ops b) {i j : Nat} {st : St} {di dj : Delta} (hu : Un ops b i j) (hupd : ∀ p ∈ di.upd, ∀ q ∈ dj.upd, p.1 ≠ q.1) : (st.app (dstOf ops i) di).app (dstOf ops j) dj = (st.app (dstOf ops j) dj).app (dstOf ops i) di := by
  have e1 : ((st.app (dstOf ops i) di).app (dstOf ops j) dj).tm = ((st.app (dstOf ops j) dj).app (dstOf ops i) di).tm := by
    funext t
    simp only [app_tm, app_n]
    by_cases hi : dstOf ops i = some t
    · have hj : ¬ dstOf ops j = some t := fun e => hd.dst i j t hu.2.2.1 hi e
      simp [hi, hj]
    · simp [hi]
  have e2 : ((st.app (dstOf ops i) di).app (dstOf ops j) dj).ob = ((st.app (dstOf ops j) dj).app (dstOf ops i) di).ob := by
    simp only [app_ob]
    exact obUpd_comm _ hupd
  have e3 : ((st.app (dstOf ops i) di).app (dstOf ops j) dj).nx = ((st.app (dstOf ops j) dj).app (dstOf ops i) di).nx := by simp only [app_nx]
  have e4 : ((st.app (dstOf ops i) di).app (dstOf ops j) dj).n = ((st.app (dstOf ops j) dj).app (dstOf ops i) di).n := by simp only [app_n]
  have e5 : ((st.app (dstOf ops i) di).app (dstOf ops j) dj).pr = ((st.app (dstOf ops j) dj).app (dstOf ops i) di).pr := by
    simp only [app_pr, app_n]
    cases dstOf ops i with
    | none => cases dstOf ops j <;> rfl
    | some x =>
      cases dstOf ops j with
      | none => rfl
      | some y =>
        dsimp only
        split <;> split <;> simp [List.filter_filter, Bool.and_comm]
  generalize (st.app (dstOf ops i) di).app (dstOf ops j) dj = x at *
  generalize (st.app (dstOf ops j) dj).app (dstOf ops i) di = y at *
  cases x; cases y
  simp only at e1 e2 e3 e4 e5
  subst e1; subst e2; subst e3; subst e4; subst e5
  rfl

theorem eff_swap (hd : DOk ops b) {i j : Nat} {st : St} {di dj : Delta} (hu : Un ops b i j) (hi : Eff P env ops b st0 kc i st di) (hj : Eff P env ops b st0 kc j (st.app (dstOf ops i) di) dj) :
    Eff P env ops b st0 kc j st dj ∧ Eff P env ops b st0 kc i (st.app (dstOf ops j) dj) di ∧ (st.app (dstOf ops i) di).app (dstOf ops j) dj = (st.app (dstOf ops j) dj).app (dstOf ops i) di := by
  have hj' : Eff P env ops b st0 kc j st dj := hj.of_mask (i := i) (fun o ho => (wantedA_app hd di ho hu).symm) fun hid hh => (mask_app hd hi hu hh).symm
  refine ⟨hj', hi.of_mask (i := j) (fun o ho => wantedA_app hd dj ho hu.symm) fun hid hh => mask_app hd hj' hu.symm hh, app_comm hd hu fun p hp q hq e => ?_⟩
  have hne := hu.2.2.1
  rcases hi.conf hu.symm hp with h1 | ⟨o, ms, hid, ho, h1, h2, h3, h4, h5⟩ <;> rcases hj'.conf hu hq with g1 | ⟨o', ms', hid', ho', g1, g2, g3, g4, g5⟩
  · rw [e] at h1; omega
  · rw [e] at h1; exact g5 i hu.mem h1
  · rw [← e] at g1; exact h5 j hu.symm.mem g1
  · obtain ⟨o2, ms2, f1, f2, f3⟩ := hidOf_mem g3 i hu.mem
    rw [ho] at f1; cases f1
    rw [h1] at f2; cases f2
    exact g4 (by rw [← e]; exact f3 _ h2)

theorem chain_take (hd : DOk ops b) : ∀ {pre post : List Nat} {i : Nat} {st fin : St}, (∀ u ∈ pre, Un ops b u i) → Chain P env ops b st0 kc (pre ++ i :: post) st fin →
    ∃ d, Eff P env ops b st0 kc i st d ∧ Chain P env ops b st0 kc (pre ++ post) (st.app (dstOf ops i) d) fin
  | [], post, i, st, fin, hu, h => h
  | u :: pre, post, i, st, fin, hu, h => by
    obtain ⟨du, h1, h2⟩ := h
    obtain ⟨d, g1, g2⟩ := chain_take hd (fun v hv => hu v (List.mem_cons_of_mem _ hv)) h2
    obtain ⟨e1, e2, e3⟩ := eff_swap hd (hu u List.mem_cons_self) h1 g1
    exact ⟨d, e1, du, e2, by rw [← e3]; exact g2⟩
end Go.OAI

/-! ## Regions that draw their order: every order. -/
namespace Go.OAI
set_option linter.unusedVariables false

variable {P : Program} {w0 : W0} {w : World} {B : Nat} {Io R : Nat → Prop} {ρ : Nat → Option Pl} {Fr : Nat → Prop} {st s : St} {a : Act}
variable {env : Nat → Option Callee} {ops : Array Oper} {b : Array Nat} {st0 : St} {kc : List (Nat × Nat)}

def stepB (acc : Array Nat) (o : Oper) : Array Nat := acc.push (o.after.foldl (fun s e => if Region.binds .any e then s ||| 2 ^ e.on ||| acc.getD e.on 0 else s) 0)
theorem foldB {acc : Array Nat} {u : Nat} : ∀ {es : List Edge} {s : Nat}, (es.foldl (fun s e => if Region.binds .any e then s ||| 2 ^ e.on ||| acc.getD e.on 0 else s) s).testBit u = true →
    s.testBit u = true ∨ ∃ e ∈ es, Region.binds .any e = true ∧ (u = e.on ∨ (acc.getD e.on 0).testBit u = true)
  | [], s, h => .inl h
  | e :: es, s, h => by
    rcases foldB (es := es) h with h | ⟨e', h1, h2⟩
    · by_cases hb : Region.binds .any e = true
      · simp only [hb, if_true, Nat.testBit_or, Bool.or_eq_true, Nat.testBit_two_pow, decide_eq_true_eq] at h
        rcases h with (h | h) | h
        · exact .inl h
        · exact .inr ⟨e, List.mem_cons_self, hb, .inl h.symm⟩
        · exact .inr ⟨e, List.mem_cons_self, hb, .inr h⟩
      · simp only [hb] at h
        exact .inl (by simpa using h)
    · exact .inr ⟨e', List.mem_cons_of_mem _ h1, h2⟩
theorem foldBs : ∀ {l : List Oper} {acc : Array Nat}, (∀ j, j < acc.size → (l.foldl stepB acc).getD j 0 = acc.getD j 0) ∧
    ∀ j u, acc.size ≤ j → ((l.foldl stepB acc).getD j 0).testBit u = true → ∃ o, l[j - acc.size]? = some o ∧ ∃ e ∈ o.after, Region.binds .any e = true ∧ (u = e.on ∨ (e.on < j ∧ ((l.foldl stepB acc).getD e.on 0).testBit u = true))
  | [], acc => ⟨fun j hj => rfl, fun j u hj h => by
      have : acc.getD j 0 = 0 := by rw [Array.getD_eq_getD_getElem?, Array.getElem?_eq_none hj]; rfl
      simp only [List.foldl_nil] at h
      rw [this] at h
      simp at h⟩
  | o :: l, acc => by
    obtain ⟨g1, g2⟩ := foldBs (l := l) (acc := stepB acc o)
    have hsz : (stepB acc o).size = acc.size + 1 := by simp [stepB]
    have hold : ∀ j, j < acc.size → (stepB acc o).getD j 0 = acc.getD j 0 := fun j hj => by
      rw [Array.getD_eq_getD_getElem?, Array.getD_eq_getD_getElem?]
      unfold stepB
      rw [Array.getElem?_push_lt hj]
      simp [hj]
    refine ⟨fun j hj => ?_, fun j u hj h => ?_⟩
    · rw [List.foldl_cons, g1 j (by omega), hold j hj]
    · rw [List.foldl_cons] at h ⊢
      by_cases e : j = acc.size
      · subst e
        rw [g1 _ (by omega)] at h
        have hl : (stepB acc o).getD acc.size 0 = o.after.foldl (fun s e => if Region.binds .any e then s ||| 2 ^ e.on ||| acc.getD e.on 0 else s) 0 := by
          rw [Array.getD_eq_getD_getElem?]
          unfold stepB
          rw [Array.getElem?_push_size]
          rfl
        rw [hl, ← Array.foldl_toList] at h
        rcases foldB h with h | ⟨e, h1, h2, h3⟩
        · simp at h
        · refine ⟨o, by simp, e, by simpa using h1, h2, h3.imp id fun h3 => ?_⟩
          have hlt : e.on < acc.size := by
            by_cases hlt : e.on < acc.size
            · exact hlt
            · have : acc.getD e.on 0 = 0 := by rw [Array.getD_eq_getD_getElem?, Array.getElem?_eq_none (by omega)]; rfl
              rw [this] at h3; simp at h3
          exact ⟨hlt, by rw [g1 _ (by omega), hold _ hlt]; exact h3⟩
      · obtain ⟨o', h1, e', h2, h3, h4⟩ := g2 j u (by omega) h
        refine ⟨o', ?_, e', h2, h3, h4⟩
        rw [hsz] at h1
        rw [show j - acc.size = (j - (acc.size + 1)) + 1 by omega]
        simpa using h1
theorem before_bit {j u : Nat} (h : ((Region.before ops).getD j 0).testBit u = true) : ∃ o, ops[j]? = some o ∧ ∃ e ∈ o.after, Region.binds .any e = true ∧ (u = e.on ∨ (e.on < j ∧ ((Region.before ops).getD e.on 0).testBit u = true)) := by
  have e : Region.before ops = ops.toList.foldl stepB #[] := by
    unfold Region.before
    rw [← Array.foldl_toList]
    rfl
  rw [e] at h ⊢
  obtain ⟨o, h1, h2⟩ := (foldBs (l := ops.toList) (acc := #[])).2 j u (by simp) h
  exact ⟨o, by simpa using h1, h2⟩
theorem before_lt (hd : DOk ops (Region.before ops)) : ∀ (j u : Nat), ((Region.before ops).getD j 0).testBit u = true → u < j := by
  intro j
  induction j using Nat.strongRecOn with
  | _ j ih =>
    intro u h
    obtain ⟨o, ho, e, he, hb, h⟩ := before_bit h
    have := hd.fwd j o ho e he hb
    rcases h with h | ⟨_, h⟩
    · omega
    · have := ih e.on this u h; omega

theorem wanted_of {o : Oper} {c : Bool} (h : SR w0 B Io R ρ Fr st a w) (hw : wantedA ops o st = some c) : Region.wanted o (yielded ops a.tmps) = c := by
  unfold wantedA at hw
  unfold Region.wanted
  split at hw
  · rename_i hg
    rw [hg]; cases hw; rfl
  · rename_i g want hg
    rw [hg]
    split at hw
    · cases hw
    · rename_i sl hsl
      split at hw
      · rename_i t ht
        cases hw
        have := yielded_of h hsl ht
        simp [this]
      · rename_i ht
        cases hw
        have := yielded_none h hsl ht
        simp [this]
      · cases hw

theorem obUpd_none {u : List (Nat × Option Obj)} {ob : Nat → Option Obj} {id : Nat} (h : u.any (fun q => q.1 == id) = false) : obUpd ob u id = ob id :=
  obUpd_not fun p hp e => by
    have := List.any_eq_false.1 h p hp
    simp [e] at this
theorem eqSl_eq {x y : Option AVal} (h : eqSl x y = true) : x = y := by
  unfold eqSl at h
  split at h
  · rename_i T l U m
    split at h
    · rename_i e
      subst e
      have : Ty.castL rfl l = m := by simpa [eqP] using h
      rw [← this]; rfl
    · cases h
  · cases h
theorem Keep.app {st : St} {dst : Option Nat} {d : Delta} (h : Keep kc st0 st) (hk : keepOk st0 kc d = true) : Keep kc st0 (st.app dst d) := fun p hp x hx => by
  have h1 := List.all_eq_true.1 hk p hp
  have e : (st.app dst d).ob = obUpd st.ob d.upd := rfl
  rw [e]
  cases ha : d.upd.any (fun q => q.1 == p.1) with
  | false => rw [obUpd_none ha]; exact h p hp x hx
  | true =>
    rw [ha, cond_true] at h1
    have h2 := eqSl_eq h1
    rw [hx] at h2
    unfold kcRow at h2
    obtain ⟨q, hq, hqe⟩ := List.any_eq_true.1 ha
    rw [obUpd_in (ob' := fun _ => none) ⟨q, hq, by simpa using hqe⟩]
    split at h2
    · rename_i cs hc
      exact ⟨cs, hc, h2⟩
    · cases h2

structure RInv (ops : Array Oper) (rem : List Nat) (listed : Array Bool) : Prop where
  sorted : rem.Pairwise (· < ·)
  lt : ∀ i ∈ rem, i < ops.size
  lst : ∀ i, listed[i]? = if i < ops.size then some (decide (i ∉ rem)) else none
  closed : ∀ j o, ops[j]? = some o → j ∉ rem → ∀ e ∈ o.after, Region.binds .any e = true → e.on ∉ rem

theorem RInv.bits {rem : List Nat} {listed : Array Bool} (h : RInv ops rem listed) : ∀ (j : Nat), (∀ o, ops[j]? = some o → ∀ e ∈ o.after, Region.binds .any e = true → e.on ∉ rem) → ∀ u, ((Region.before ops).getD j 0).testBit u = true → u ∉ rem := by
  intro j
  induction j using Nat.strongRecOn with
  | _ j ih =>
    intro hj u hb
    obtain ⟨o, ho, e, he, hb', h'⟩ := before_bit hb
    have hon := hj o ho e he hb'
    rcases h' with h' | ⟨h1, h2⟩
    · rw [h']; exact hon
    · exact ih e.on h1 (fun o' ho' => h.closed e.on o' ho' hon) u h2

theorem drawn_any (henv : EnvOk P env) (hd : DOk ops (Region.before ops)) {Q : Exit → Act → World → Prop} {fin : St} (hQ : ∀ a w, In w0 B Io (st0.nx + 16 * ops.size) fin a w → Q .normal a w) :
    ∀ (fuel : Nat) (rem : List Nat) (listed : Array Bool) (st : St) (a : Act) (w : World) (R : Nat → Prop) (ρ : Nat → Option Pl), rem.length ≤ fuel → RInv ops rem listed → Chain P env ops (Region.before ops) st0 kc rem st fin →
    SR w0 B Io R ρ (fun i => (∃ j ∈ rem, Own (st0.nx + 16 * j) i) ∨ st0.nx + 16 * ops.size ≤ i) st a w → Keep kc st0 st → wpAny P .any ops Q fuel listed a w := by
  intro fuel
  have done : ∀ {rem : List Nat} {listed : Array Bool} {st : St} {a : Act} {w : World} {R : Nat → Prop} {ρ : Nat → Option Pl}, rem = [] → Chain P env ops (Region.before ops) st0 kc rem st fin →
      SR w0 B Io R ρ (fun i => (∃ j ∈ rem, Own (st0.nx + 16 * j) i) ∨ st0.nx + 16 * ops.size ≤ i) st a w → Q .normal a w := fun hr hc h => by
    subst hr
    cases hc
    exact hQ _ _ ⟨_, _, h.weaken fun i hi => .inr hi⟩
  have get : ∀ {rem : List Nat} {listed : Array Bool} (hi : RInv ops rem listed) (i : Nat), (listed.getD i true = false ↔ i ∈ rem) ∧ (listed.getD i false = true ↔ i < ops.size ∧ i ∉ rem) := fun hi i => by
    rw [Array.getD_eq_getD_getElem?, Array.getD_eq_getD_getElem?, hi.lst]
    by_cases hlt : i < ops.size
    · simp [hlt]
    · simp only [hlt, if_false, Option.getD_none, false_and, iff_false]
      exact ⟨⟨fun h => (by cases h), fun h => absurd (hi.lt i h) hlt⟩, by simp⟩
  induction fuel with
  | zero =>
    intro rem listed st a w R ρ hf hi hc h hkp
    have hr : rem = [] := List.length_eq_zero_iff.1 (by omega)
    refine ⟨?_, done (listed := listed) hr hc h⟩
    cases hr' : Region.ready .any ops listed with
    | nil => rfl
    | cons j js =>
      have : j ∈ Region.ready .any ops listed := by rw [hr']; exact List.mem_cons_self
      have := ((get hi j).1).1 (mem_ready.1 this).1
      rw [hr] at this; simp at this
  | succ fuel ih =>
    intro rem listed st a w R ρ hf hi hc h hkp
    refine ⟨fun hr => ?_, fun i hmem => ?_⟩
    · refine done (listed := listed) ?_ hc h
      cases rem with
      | nil => rfl
      | cons j js =>
        exfalso
        have hlt := hi.lt j List.mem_cons_self
        have : j ∈ Region.ready .any ops listed := by
          rw [mem_ready]
          refine ⟨((get hi j).1).2 List.mem_cons_self, ops[j], by simp [hlt], fun e he hb => ?_⟩
          have hon := hd.fwd j ops[j] (by simp [hlt]) e he hb
          refine ((get hi e.on).2).2 ⟨by omega, fun hm => ?_⟩
          rcases List.mem_cons.1 hm with h1 | h1
          · omega
          · have := (List.pairwise_cons.1 hi.sorted).1 _ h1; omega
        rw [hr] at this; simp at this
    · obtain ⟨h1, o, ho, h2⟩ := mem_ready.1 hmem
      have himem := ((get hi i).1).1 h1
      have h2 : ∀ e ∈ o.after, Region.binds .any e = true → e.on ∉ rem := fun e he hb => (((get hi e.on).2).1 (h2 e he hb)).2
      obtain ⟨pre, post, rfl⟩ := List.append_of_mem himem
      have hilt := hi.lt i himem
      obtain ⟨s1, s2, s3⟩ := List.pairwise_append.1 hi.sorted
      have hpre : ∀ u ∈ pre, u < i := fun u hu => s3 u hu i List.mem_cons_self
      have hpost : ∀ u ∈ post, i < u := fun u hu => (List.pairwise_cons.1 s2).1 u hu
      have hun : ∀ u ∈ pre, Un ops (Region.before ops) u i := fun u hu => by
        have hul := hpre u hu
        refine ⟨by omega, hilt, by omega, ?_, ?_⟩
        · cases hb : ((Region.before ops).getD i 0).testBit u with
          | false => rfl
          | true => exact absurd (List.mem_append_left _ hu) (hi.bits i (fun o' ho' => by rw [ho] at ho'; cases ho'; exact h2) u hb)
        · cases hb : ((Region.before ops).getD u 0).testBit i with
          | false => rfl
          | true => have := before_lt hd u i hb; omega
      obtain ⟨d, g1, g2⟩ := chain_take hd hun hc
      have hne : i ∉ pre ++ post := fun hm => by
        rcases List.mem_append.1 hm with hm | hm
        · have := hpre i hm; omega
        · have := hpost i hm; omega
      have hi' : RInv ops (pre ++ post) (listed.setIfInBounds i true) := by
        refine ⟨?_, fun u hu => hi.lt u ?_, fun u => ?_, fun j o' ho' hj e he hb => ?_⟩
        · refine List.pairwise_append.2 ⟨s1, (List.pairwise_cons.1 s2).2, fun x hx y hy => s3 x hx y (List.mem_cons_of_mem _ hy)⟩
        · rcases List.mem_append.1 hu with hu | hu
          · exact List.mem_append_left _ hu
          · exact List.mem_append_right _ (List.mem_cons_of_mem _ hu)
        · have hsz : i < listed.size := by
            have := hi.lst i
            rw [if_pos hilt] at this
            exact (Array.getElem?_eq_some_iff.1 this).1
          by_cases e : i = u
          · subst e
            rw [Array.getElem?_setIfInBounds_self_of_lt hsz, if_pos hilt]
            simp [hne]
          · rw [Array.getElem?_setIfInBounds_ne e, hi.lst u]
            have : u ∉ pre ++ i :: post ↔ u ∉ pre ++ post := by
              simp only [List.mem_append, List.mem_cons]
              constructor
              · intro h hm; exact h (hm.imp id .inr)
              · rintro h (hm | hm | hm)
                · exact h (.inl hm)
                · exact e hm.symm
                · exact h (.inr hm)
            by_cases hu : u < ops.size
            · simp only [hu, if_true]
              congr 1
              exact decide_eq_decide.2 this
            · simp [hu]
        · by_cases e' : j = i
          · subst e'
            rw [ho] at ho'; cases ho'
            intro hm
            refine h2 e he hb ?_
            rcases List.mem_append.1 hm with hm | hm
            · exact List.mem_append_left _ hm
            · exact List.mem_append_right _ (List.mem_cons_of_mem _ hm)
          · have hjn : j ∉ pre ++ i :: post := by
              intro hm
              rcases List.mem_append.1 hm with hm | hm
              · exact hj (List.mem_append_left _ hm)
              · rcases List.mem_cons.1 hm with hm | hm
                · exact e' hm
                · exact hj (List.mem_append_right _ hm)
            intro hm
            refine hi.closed j o' ho' hjn e he hb ?_
            rcases List.mem_append.1 hm with hm | hm
            · exact List.mem_append_left _ hm
            · exact List.mem_append_right _ (List.mem_cons_of_mem _ hm)
      have hlen : (pre ++ post).length ≤ fuel := by simp at hf ⊢; omega
      have hfr : ∀ x, ((∃ j ∈ pre ++ post, Own (st0.nx + 16 * j) x) ∨ st0.nx + 16 * ops.size ≤ x) → ((∃ j ∈ pre ++ i :: post, Own (st0.nx + 16 * j) x) ∨ st0.nx + 16 * ops.size ≤ x) ∧ ¬ Own (st0.nx + 16 * i) x := by
        rintro x (⟨j, hj, hx⟩ | hx)
        · refine ⟨.inl ⟨j, ?_, hx⟩, fun hx' => ?_⟩
          · rcases List.mem_append.1 hj with hm | hm
            · exact List.mem_append_left _ hm
            · exact List.mem_append_right _ (List.mem_cons_of_mem _ hm)
          · obtain ⟨a1, a2⟩ := hx
            obtain ⟨b1, b2⟩ := hx'
            exact hne (by rw [show i = j by omega]; exact hj)
        · refine ⟨.inr hx, fun hx' => ?_⟩
          obtain ⟨b1, b2⟩ := hx'
          omega
      have hdst : dstOf ops i = o.dst := by simp [dstOf, ho]
      rw [hdst] at g2
      unfold wpOp
      simp only [ho]
      obtain ⟨o', ho', ⟨hw, hid, ms, e1, e2, e4, e3⟩ | ⟨hw, e1⟩⟩ := g1
      · rw [ho] at ho'; cases ho'
        rw [if_pos (wanted_of h hw)]
        have hsub : Sub (maskSt ops st0.nx (unord (Region.before ops) ops.size i) hid st) st := by
          refine ⟨fun t => ?_, fun t => ?_, rfl⟩
          · simp only [maskSt]
            cases (unord (Region.before ops) ops.size i).any _ with
            | true => exact .inl rfl
            | false => exact .inr rfl
          · simp only [maskSt]
            generalize (_ || _ : Bool) = c
            cases c with
            | true => exact .inl rfl
            | false => exact .inr rfl
        have q2 := opJ_sound henv h hsub (fun x hx => .inl ⟨i, himem, hx⟩) hkp e3
        refine .inl (q2 _ _ fun v w' ⟨R', ρ', h3⟩ => ?_)
        exact ih (pre ++ post) _ _ _ _ R' ρ' hlen hi' g2 (h3.weaken hfr) (hkp.app e4)
      · rw [ho] at ho'; cases ho'
        have := wanted_of h hw
        rw [if_neg (by simp [this])]
        subst e1
        rw [app_nil] at g2
        exact ih (pre ++ post) _ _ _ _ R ρ hlen hi' g2 ((h.skipped o.dst).weaken fun x hx => (hfr x hx).1) (fun p hp x hx => by
          have e : (st.put o.dst (.tup [])).ob = st.ob := by
            cases o.dst with
            | none => rfl
            | some t0 => simp only [St.put, St.setTm]; split <;> rfl
          rw [e]
          exact hkp p hp x hx)

theorem drawn_grows (w : World) : Grows w { w with drawn := w.drawn + 1 } := fun b hb => rfl

theorem evalD_sound (henv : EnvOk P env) (hm : P.follows .mixedOrders = true) {id : Nat} {st fin : St} {Q : Exit → Act → World → Prop} (hd : drawnOk ops (Region.before ops) = true)
    (he : evalD P env ops (Region.before ops) st kc ops.toList 0 st some = some fin) (h : In w0 B Io st.nx st a w) (hQ : ∀ a w, In w0 B Io (st.nx + 16 * ops.size) fin a w → Q .normal a w) : (Code.region id ops true).wp P Q a w := by
  obtain ⟨R, ρ, h⟩ := h
  have hc := evalD_chain (fun i => by simp) he
  refine wp_region_any hm (drawn_any henv (drawnOk_spec hd) (st0 := st) hQ ops.size (List.range' 0 ops.toList.length) _ st _ _ R ρ (by simp) ⟨?_, fun i hi => ?_, fun i => ?_, fun j o ho hj => ?_⟩ hc ((h.grow (drawn_grows w) ⟨rfl, rfl⟩).weaken ?_) (Keep.refl kc st))
  · exact List.pairwise_lt_range'
  · have := List.mem_range'_1.1 hi
    simp at this; exact this
  · rw [Array.getElem?_replicate]
    by_cases hlt : i < ops.size
    · have : i ∈ List.range' 0 ops.toList.length := List.mem_range'_1.2 ⟨by omega, by simpa using hlt⟩
      simp [hlt]
    · simp [hlt]
  · exfalso
    have hlt := (Array.getElem?_eq_some_iff.1 ho).1
    exact hj (List.mem_range'_1.2 ⟨by omega, by simpa using hlt⟩)
  · rintro i (⟨j, hj, hx⟩ | hx)
    · have := hx.1; show st.nx ≤ i; omega
    · show st.nx ≤ i; omega
end Go.OAI
