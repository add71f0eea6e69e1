/- Regions that draw their order: the steps may change places. -/
import Derived.Test.YtaiopbdbnellhaaD2
namespace Go.OAI
set_option linter.unusedVariables false

variable {P : Program} {w0 : W0} {w : World} {B : Nat} {Io R : Nat → Prop} {ρ : Nat → Option Pl} {Fr : Nat → Prop} {st s : St} {a : Act}
variable {env : Nat → Option Callee} {ops : Array Oper} {b : Array Nat} {st0 : St}

def wantedA (ops : Array Oper) (o : Oper) (st : St) : Option Bool :=
  match o.guard with
  | none => some true
  | some (g, want) => match dstOf ops g with
    | none => none
    | some s => match st.tm s with
      | .bool c => some (c == want)
      | .tup [] => some false
      | _ => none
def Val (P : Program) (env : Nat → Option Callee) (ops : Array Oper) (b : Array Nat) (st0 : St) (j : Nat) (o : Oper) (st : St) (d : Delta) : Prop :=
  ∃ hid ms, hidOf env ops st0.nx st0 (unord b ops.size j) = some hid ∧ (unord b ops.size j ≠ [] → modIds env ops st0.nx st0 o = some ms ∧ updOk st0.nx j (unord b ops.size j) ms hid d = true) ∧
    evalOp P env (st0.nx + 16 * j) (maskSt ops st0.nx (unord b ops.size j) hid st) o some = some d
def Eff (P : Program) (env : Nat → Option Callee) (ops : Array Oper) (b : Array Nat) (st0 : St) (j : Nat) (st : St) (d : Delta) : Prop :=
  ∃ o, ops[j]? = some o ∧ ((wantedA ops o st = some true ∧ Val P env ops b st0 j o st d) ∨ (wantedA ops o st = some false ∧ d = ⟨.tup [], []⟩))
def Chain (P : Program) (env : Nat → Option Callee) (ops : Array Oper) (b : Array Nat) (st0 : St) : List Nat → St → St → Prop
  | [], st, fin => st = fin
  | j :: r, st, fin => ∃ d, Eff P env ops b st0 j st d ∧ Chain P env ops b st0 r (st.app (dstOf ops j) d) fin

theorem evalD1_val {j : Nat} {o : Oper} {st : St} {α : Type} {k : Delta → Option α} {r : α} (he : evalD1 P env ops b st0 j o st k = some r) : ∃ d, Val P env ops b st0 j o st d ∧ k d = some r := by
  rw [evalD1_nat] at he
  obtain ⟨d, hd, hk⟩ := Option.bind_eq_some_iff.1 he
  refine ⟨d, ?_, hk⟩
  unfold evalD1 at hd
  dsimp only at hd
  split at hd
  · rename_i hid ms h1 h2
    rw [evalOp_nat] at hd
    obtain ⟨d', hd', hk'⟩ := Option.bind_eq_some_iff.1 hd
    cases hu : (unord b ops.size j).isEmpty || updOk st0.nx j (unord b ops.size j) ms hid d' with
    | false => rw [hu] at hk'; cases hk'
    | true =>
      rw [hu] at hk'
      cases hk'
      refine ⟨hid, ms, h1, fun hne => ?_, hd'⟩
      have he : (unord b ops.size j).isEmpty = false := by
        cases h : unord b ops.size j with
        | nil => exact absurd h hne
        | cons => rfl
      rw [he] at h2 hu
      simpa using ⟨h2, hu⟩
  · cases hd

theorem evalD_chain : ∀ {l : List Oper} {j : Nat} {st fin : St}, (∀ i, l[i]? = ops[j + i]?) → evalD P env ops b st0 l j st some = some fin → Chain P env ops b st0 (List.range' j l.length) st fin
  | [], j, st, fin, hl, he => by cases he; rfl
  | o :: l, j, st, fin, hl, he => by
    have hj : ops[j]? = some o := by have := hl 0; simpa using this.symm
    have hd : dstOf ops j = o.dst := by simp [dstOf, hj]
    have hl' : ∀ i, l[i]? = ops[j + 1 + i]? := fun i => by
      have := hl (i + 1)
      rw [show j + 1 + i = j + (i + 1) by omega, ← this]
      simp
    show ∃ d, _ ∧ Chain P env ops b st0 (List.range' (j + 1) l.length) _ fin
    rw [hd]
    have run : wantedA ops o st = some true → evalD1 P env ops b st0 j o st (fun d => evalD P env ops b st0 l (j + 1) (st.app o.dst d) some) = some fin → ∃ d, Eff P env ops b st0 j st d ∧ Chain P env ops b st0 (List.range' (j + 1) l.length) (st.app o.dst d) fin := fun hw he => by
      obtain ⟨d, h1, h2⟩ := evalD1_val he
      exact ⟨d, ⟨o, hj, .inl ⟨hw, h1⟩⟩, evalD_chain hl' h2⟩
    have skip : wantedA ops o st = some false → evalD P env ops b st0 l (j + 1) (st.put o.dst (.tup [])) some = some fin → ∃ d, Eff P env ops b st0 j st d ∧ Chain P env ops b st0 (List.range' (j + 1) l.length) (st.app o.dst d) fin := fun hw he =>
      ⟨⟨.tup [], []⟩, ⟨o, hj, .inr ⟨hw, rfl⟩⟩, by rw [app_nil]; exact evalD_chain hl' he⟩
    simp only [evalD] at he
    split at he
    · rename_i hg
      exact run (by simp [wantedA, hg]) he
    · rename_i jg want hg
      split at he
      · cases he
      · rename_i sl hsl
        split at he
        · rename_i c hb
          have hsl' : dstOf ops jg = some sl := hsl
          have hw : wantedA ops o st = some (c == want) := by simp [wantedA, hg, hsl', hb]
          cases c <;> cases want <;> simp only [cond_true, cond_false] at he <;> rw [kn_self hb] at he
          · exact run hw he
          · exact skip hw he
          · exact skip hw he
          · exact run hw he
        · rename_i hb
          have hsl' : dstOf ops jg = some sl := hsl
          exact skip (by simp [wantedA, hg, hsl', hb]) he
        · cases he

theorem app_tm (st : St) (d : Option Nat) (x : Delta) (t : Nat) : (st.app d x).tm t = if d = some t ∧ t < st.n then x.val else st.tm t := by
  show (st.put d x.val).tm t = _
  cases d with
  | none => simp [St.put]
  | some d =>
    simp only [St.put, setTm_tm, Option.some.injEq]
    by_cases e : t = d
    · subst e; simp
    · have e' : ¬ d = t := fun h => e h.symm
      simp [e, e']
theorem app_ob (st : St) (d : Option Nat) (x : Delta) : (st.app d x).ob = obUpd st.ob x.upd := rfl
theorem app_nx (st : St) (d : Option Nat) (x : Delta) : (st.app d x).nx = st.nx := by
  show (st.put d x.val).nx = _
  simp
theorem app_n (st : St) (d : Option Nat) (x : Delta) : (st.app d x).n = st.n := by
  show (st.put d x.val).n = _
  simp
theorem obUpd_not : ∀ {u : List (Nat × Option Obj)} {ob : Nat → Option Obj} {id : Nat}, (∀ p ∈ u, p.1 ≠ id) → obUpd ob u id = ob id
  | [], _, _, _ => rfl
  | (i, o) :: u, ob, id, h => by
    show obUpd (fun j => if j = i then o else ob j) u id = _
    rw [obUpd_not fun p hp => h p (List.mem_cons_of_mem _ hp)]
    have : ¬ id = i := fun e => h (i, o) List.mem_cons_self e.symm
    simp [this]
theorem obUpd_in : ∀ {u : List (Nat × Option Obj)} {ob ob' : Nat → Option Obj} {id : Nat}, (∃ p ∈ u, p.1 = id) → obUpd ob u id = obUpd ob' u id
  | [], _, _, _, h => by obtain ⟨p, hp, _⟩ := h; simp at hp
  | (i, o) :: u, ob, ob', id, h => by
    show obUpd (fun j => if j = i then o else ob j) u id = obUpd (fun j => if j = i then o else ob' j) u id
    by_cases hu : ∃ p ∈ u, p.1 = id
    · exact obUpd_in hu
    · have hu' : ∀ p ∈ u, p.1 ≠ id := fun p hp e => hu ⟨p, hp, e⟩
      rw [obUpd_not hu', obUpd_not hu']
      obtain ⟨p, hp, e⟩ := h
      rcases List.mem_cons.1 hp with rfl | hp
      · simp at e; simp [e]
      · exact absurd e (hu' p hp)
theorem obUpd_comm {u v : List (Nat × Option Obj)} (ob : Nat → Option Obj) (h : ∀ p ∈ u, ∀ q ∈ v, p.1 ≠ q.1) : obUpd (obUpd ob u) v = obUpd (obUpd ob v) u := by
  funext id
  by_cases hu : ∃ p ∈ u, p.1 = id
  · have hv : ∀ q ∈ v, q.1 ≠ id := fun q hq e => by obtain ⟨p, hp, e'⟩ := hu; exact h p hp q hq (by rw [e, e'])
    rw [obUpd_not hv]
    exact obUpd_in hu
  · have hu' : ∀ p ∈ u, p.1 ≠ id := fun p hp e => hu ⟨p, hp, e⟩
    rw [obUpd_not (ob := obUpd ob v) hu']
    by_cases hv : ∃ p ∈ v, p.1 = id
    · exact obUpd_in hv
    · have hv' : ∀ p ∈ v, p.1 ≠ id := fun p hp e => hv ⟨p, hp, e⟩
      rw [obUpd_not hv', obUpd_not hu', obUpd_not hv']

theorem app_pr (st : St) (d : Option Nat) (x : Delta) : (st.app d x).pr = match d with | some t => if t < st.n then st.pr.filter (fun k => k != t) else st.pr | none => st.pr := by
  show (st.put d x.val).pr = _
  cases d with
  | none => rfl
  | some d =>
    simp only [St.put, St.setTm]
    by_cases h : d < st.n <;> simp [h]
/-- Neither is ahead of the other. -/
def Un (ops : Array Oper) (b : Array Nat) (i j : Nat) : Prop := i < ops.size ∧ j < ops.size ∧ i ≠ j ∧ (b.getD j 0).testBit i = false ∧ (b.getD i 0).testBit j = false
theorem Un.symm {i j : Nat} (h : Un ops b i j) : Un ops b j i := ⟨h.2.1, h.1, fun e => h.2.2.1 e.symm, h.2.2.2.2, h.2.2.2.1⟩
theorem Un.mem {i j : Nat} (h : Un ops b i j) : i ∈ unord b ops.size j := by
  unfold unord
  rw [List.mem_filter]
  refine ⟨List.mem_range.2 h.1, ?_⟩
  rw [h.2.2.2.1, h.2.2.2.2]
  simp [h.2.2.1]

structure DOk (ops : Array Oper) (b : Array Nat) : Prop where
  dst : ∀ i j t, i ≠ j → dstOf ops i = some t → dstOf ops j = some t → False
  fwd : ∀ j o, ops[j]? = some o → ∀ e ∈ o.after, Region.binds .any e = true → e.on < j
  grd : ∀ j o g want, ops[j]? = some o → o.guard = some (g, want) → (b.getD j 0).testBit g = true
theorem drawnOk_spec (h : drawnOk ops b = true) : DOk ops b := by
  unfold drawnOk at h
  rw [Bool.and_eq_true] at h
  have h1 := of_decide_eq_true h.1
  have h2 := List.all_eq_true.1 h.2
  have lt : ∀ i j t, i < j → dstOf ops i = some t → dstOf ops j = some t → False := fun i j t hij hi hj => by
    simp only [dstOf, Option.bind_eq_some_iff] at hi hj
    obtain ⟨oi, hi, hti⟩ := hi
    obtain ⟨oj, hj, htj⟩ := hj
    have := List.pairwise_iff_getElem.1 h1 i j (by have := (Array.getElem?_eq_some_iff.1 hi).1; simpa using this) (by have := (Array.getElem?_eq_some_iff.1 hj).1; simpa using this) hij
    have ei : ops.toList[i]'(by have := (Array.getElem?_eq_some_iff.1 hi).1; simpa using this) = oi := by have := (Array.getElem?_eq_some_iff.1 hi).2; simpa using this
    have ej : ops.toList[j]'(by have := (Array.getElem?_eq_some_iff.1 hj).1; simpa using this) = oj := by have := (Array.getElem?_eq_some_iff.1 hj).2; simpa using this
    rw [ei, ej, hti, htj] at this
    simp at this
  have pt : ∀ (j : Nat) (o : Oper), ops[j]? = some o → (o.after.toList.all (fun e => !Region.binds .any e || decide (e.on < j)) && (match o.guard with
      | some (g, _) => (b.getD j 0).testBit g
      | none => true)) = true := fun j o ho => by
    have hlt := (Array.getElem?_eq_some_iff.1 ho).1
    have := h2 j (List.mem_range.2 hlt)
    rw [ho] at this
    exact this
  refine ⟨fun i j t hij hi hj => ?_, fun j o ho e he hb => ?_, fun j o g want ho hg => ?_⟩
  · rcases Nat.lt_or_gt_of_ne hij with h | h
    · exact lt i j t h hi hj
    · exact lt j i t h hj hi
  · have := pt j o ho
    rw [Bool.and_eq_true] at this
    have := List.all_eq_true.1 this.1 e (by simpa using he)
    simpa [hb] using this
  · have := pt j o ho
    rw [Bool.and_eq_true, hg] at this
    exact this.2

/-- What an operation's effect may touch. -/
theorem Eff.conf {i j : Nat} {st : St} {d : Delta} (h : Eff P env ops b st0 i st d) (hu : Un ops b j i) {p : Nat × Option Obj} (hp : p ∈ d.upd) :
    (st0.nx + 16 * i ≤ p.1 ∧ p.1 < st0.nx + 16 * (i + 1)) ∨ (∃ o ms hid, ops[i]? = some o ∧ modIds env ops st0.nx st0 o = some ms ∧ p.1 ∈ ms ∧ hidOf env ops st0.nx st0 (unord b ops.size i) = some hid ∧ p.1 ∉ hid ∧ ∀ u ∈ unord b ops.size i, ¬ (st0.nx + 16 * u ≤ p.1 ∧ p.1 < st0.nx + 16 * (u + 1))) := by
  obtain ⟨o, ho, h | h⟩ := h
  · obtain ⟨_, hid, ms, h1, h2, h3⟩ := h
    obtain ⟨h4, h5⟩ := h2 (fun e => by have := hu.mem; rw [e] at this; simp at this)
    have := List.all_eq_true.1 h5 p hp
    simp only [Bool.or_eq_true, Bool.and_eq_true, decide_eq_true_eq, Bool.not_eq_true', List.contains_iff_mem, List.any_eq_false, decide_eq_true_eq] at this
    rcases this with h | ⟨h6, h7, h8⟩
    · exact .inl h
    · exact .inr ⟨o, ms, hid, ho, h4, h6, h1, by simpa using h7, fun u hu' => by have := h8 u hu'; simpa using this⟩
  · rw [h.2] at hp; simp at hp

theorem hidOf_mem : ∀ {us hid : List Nat}, hidOf env ops st0.nx st0 us = some hid → ∀ u ∈ us, ∃ o ms, ops[u]? = some o ∧ modIds env ops st0.nx st0 o = some ms ∧ ∀ x ∈ ms, x ∈ hid
  | [], hid, h, u, hu => by simp at hu
  | v :: us, hid, h, u, hu => by
    simp only [hidOf] at h
    split at h
    · rename_i a1 h1
      split at h
      · rename_i b1 h2
        cases h
        rcases List.mem_cons.1 hu with rfl | hu
        · obtain ⟨o, ho, hm⟩ := Option.map_eq_some_iff.1 h1
          exact ⟨o, a1, ho, hm, fun x hx => List.mem_append_left _ hx⟩
        · obtain ⟨o, ms, g1, g2, g3⟩ := hidOf_mem h2 u hu
          exact ⟨o, ms, g1, g2, fun x hx => List.mem_append_right _ (g3 x hx)⟩
      · cases h
    · cases h

theorem mask_app (hd : DOk ops b) {i j : Nat} {st : St} {d : Delta} {hid : List Nat} (h : Eff P env ops b st0 i st d) (hu : Un ops b i j) (hh : hidOf env ops st0.nx st0 (unord b ops.size j) = some hid) :
    maskSt ops st0.nx (unord b ops.size j) hid (st.app (dstOf ops i) d) = maskSt ops st0.nx (unord b ops.size j) hid st := by
  have e1 : (maskSt ops st0.nx (unord b ops.size j) hid (st.app (dstOf ops i) d)).tm = (maskSt ops st0.nx (unord b ops.size j) hid st).tm := by
    funext t
    simp only [maskSt]
    cases hm : (unord b ops.size j).any (fun i => dstOf ops i == some t) with
    | true => rfl
    | false =>
      simp only [cond_false]
      rw [app_tm]
      have : ¬ dstOf ops i = some t := fun e => by
        have := List.any_eq_false.1 hm i hu.mem
        simp [e] at this
      simp [this]
  have e2 : (maskSt ops st0.nx (unord b ops.size j) hid (st.app (dstOf ops i) d)).ob = (maskSt ops st0.nx (unord b ops.size j) hid st).ob := by
    funext id
    simp only [maskSt]
    cases hm : (unord b ops.size j).any (fun u => decide (st0.nx + 16 * u ≤ id) && decide (id < st0.nx + 16 * (u + 1))) || hid.contains id with
    | true => rfl
    | false =>
      simp only [cond_false]
      rw [app_ob]
      rw [Bool.or_eq_false_iff] at hm
      refine obUpd_not fun p hp e => ?_
      rcases h.conf hu.symm hp with h1 | ⟨o, ms, _, ho, h1, h2, _⟩
      · have := List.any_eq_false.1 hm.1 i hu.mem
        rw [e] at h1
        simp [h1] at this
      · obtain ⟨o', ms', g1, g2, g3⟩ := hidOf_mem hh i hu.mem
        rw [ho] at g1; cases g1
        rw [h1] at g2; cases g2
        have := g3 _ h2
        rw [e] at this
        have h3 := hm.2
        simp [this] at h3
  have e3 : (maskSt ops st0.nx (unord b ops.size j) hid (st.app (dstOf ops i) d)).nx = (maskSt ops st0.nx (unord b ops.size j) hid st).nx := app_nx ..
  have e4 : (maskSt ops st0.nx (unord b ops.size j) hid (st.app (dstOf ops i) d)).n = (maskSt ops st0.nx (unord b ops.size j) hid st).n := app_n ..
  have e5 : (maskSt ops st0.nx (unord b ops.size j) hid (st.app (dstOf ops i) d)).pr = (maskSt ops st0.nx (unord b ops.size j) hid st).pr := rfl
  generalize maskSt ops st0.nx (unord b ops.size j) hid (st.app (dstOf ops i) d) = x at *
  generalize maskSt ops st0.nx (unord b ops.size j) hid st = y at *
  cases x; cases y
  simp only at e1 e2 e3 e4 e5
  subst e1; subst e2; subst e3; subst e4; subst e5
  rfl

theorem wantedA_app (hd : DOk ops b) {i j : Nat} {o : Oper} {st : St} (d : Delta) (ho : ops[j]? = some o) (hu : Un ops b i j) : wantedA ops o (st.app (dstOf ops i) d) = wantedA ops o st := by
  unfold wantedA
  split
  · rfl
  · rename_i g want hg
    have hb := hd.grd j o g want ho hg
    have hne : i ≠ g := fun e => by rw [← e, hu.2.2.2.1] at hb; cases hb
    split
    · rfl
    · rename_i sl hsl
      rw [app_tm]
      have : ¬ dstOf ops i = some sl := fun e => hd.dst i g sl hne e hsl
      simp [this]

theorem Eff.of_mask {i j : Nat} {st st' : St} {d : Delta} (h : Eff P env ops b st0 j st d) (hw : ∀ o, ops[j]? = some o → wantedA ops o st' = wantedA ops o st)
    (hm : ∀ hid, hidOf env ops st0.nx st0 (unord b ops.size j) = some hid → maskSt ops st0.nx (unord b ops.size j) hid st' = maskSt ops st0.nx (unord b ops.size j) hid st) : Eff P env ops b st0 j st' d := by
  obtain ⟨o, ho, ⟨h1, hid, ms, h2, h3, h4⟩ | ⟨h1, h2⟩⟩ := h
  · exact ⟨o, ho, .inl ⟨(hw o ho).trans h1, hid, ms, h2, h3, by rw [hm hid h2]; exact h4⟩⟩
  · exact ⟨o, ho, .inr ⟨(hw o ho).trans h1, h2⟩⟩

theorem app_comm (hd : DOk ops b) {i j : Nat} {st : St} {di dj : Delta} (hu : Un ops b i j) (hupd : ∀ p ∈ di.upd, ∀ q ∈ dj.upd, p.1 ≠ q.1) : (st.app (dstOf ops i) di).app (dstOf ops j) dj = (st.app (dstOf ops j) dj).app (dstOf ops i) di := by
  have e1 : ((st.app (dstOf ops i) di).app (dstOf ops j) dj).tm = ((st.app (dstOf ops j) dj).app (dstOf ops i) di).tm := by
    funext t
    simp only [app_tm, app_n]
    by_cases hi : dstOf ops i = some t
    · have hj : ¬ dstOf ops j = some t := fun e => hd.dst i j t hu.2.2.1 hi e
      simp [hi, hj]
    · simp [hi]
  have e2 : ((st.app (dstOf ops i) di).app (dstOf ops j) dj).ob = ((st.app (dstOf ops j) dj).app (dstOf ops i) di).ob := by
    simp only [app_ob]
    exact obUpd_comm _ hupd
  have e3 : ((st.app (dstOf ops i) di).app (dstOf ops j) dj).nx = ((st.app (dstOf ops j) dj).app (dstOf ops i) di).nx := by simp only [app_nx]
  have e4 : ((st.app (dstOf ops i) di).app (dstOf ops j) dj).n = ((st.app (dstOf ops j) dj).app (dstOf ops i) di).n := by simp only [app_n]
  have e5 : ((st.app (dstOf ops i) di).app (dstOf ops j) dj).pr = ((st.app (dstOf ops j) dj).app (dstOf ops i) di).pr := by
    simp only [app_pr, app_n]
    cases dstOf ops i with
    | none => cases dstOf ops j <;> rfl
    | some x =>
      cases dstOf ops j with
      | none => rfl
      | some y =>
        dsimp only
        split <;> split <;> simp [List.filter_filter, Bool.and_comm]
  generalize (st.app (dstOf ops i) di).app (dstOf ops j) dj = x at *
  generalize (st.app (dstOf ops j) dj).app (dstOf ops i) di = y at *
  cases x; cases y
  simp only at e1 e2 e3 e4 e5
  subst e1; subst e2; subst e3; subst e4; subst e5
  rfl

theorem eff_swap (hd : DOk ops b) {i j : Nat} {st : St} {di dj : Delta} (hu : Un ops b i j) (hi : Eff P env ops b st0 i st di) (hj : Eff P env ops b st0 j (st.app (dstOf ops i) di) dj) :
    Eff P env ops b st0 j st dj ∧ Eff P env ops b st0 i (st.app (dstOf ops j) dj) di ∧ (st.app (dstOf ops i) di).app (dstOf ops j) dj = (st.app (dstOf ops j) dj).app (dstOf ops i) di := by
  have hj' : Eff P env ops b st0 j st dj := hj.of_mask (i := i) (fun o ho => (wantedA_app hd di ho hu).symm) fun hid hh => (mask_app hd hi hu hh).symm
  refine ⟨hj', hi.of_mask (i := j) (fun o ho => wantedA_app hd dj ho hu.symm) fun hid hh => mask_app hd hj' hu.symm hh, app_comm hd hu fun p hp q hq e => ?_⟩
  have hne := hu.2.2.1
  rcases hi.conf hu.symm hp with h1 | ⟨o, ms, hid, ho, h1, h2, h3, h4, h5⟩ <;> rcases hj'.conf hu hq with g1 | ⟨o', ms', hid', ho', g1, g2, g3, g4, g5⟩
  · rw [e] at h1; omega
  · rw [e] at h1; exact g5 i hu.mem h1
  · rw [← e] at g1; exact h5 j hu.symm.mem g1
  · obtain ⟨o2, ms2, f1, f2, f3⟩ := hidOf_mem g3 i hu.mem
    rw [ho] at f1; cases f1
    rw [h1] at f2; cases f2
    exact g4 (by rw [← e]; exact f3 _ h2)

theorem chain_take (hd : DOk ops b) : ∀ {pre post : List Nat} {i : Nat} {st fin : St}, (∀ u ∈ pre, Un ops b u i) → Chain P env ops b st0 (pre ++ i :: post) st fin →
    ∃ d, Eff P env ops b st0 i st d ∧ Chain P env ops b st0 (pre ++ post) (st.app (dstOf ops i) d) fin
  | [], post, i, st, fin, hu, h => h
  | u :: pre, post, i, st, fin, hu, h => by
    obtain ⟨du, h1, h2⟩ := h
    obtain ⟨d, g1, g2⟩ := chain_take hd (fun v hv => hu v (List.mem_cons_of_mem _ hv)) h2
    obtain ⟨e1, e2, e3⟩ := eff_swap hd (hu u List.mem_cons_self) h1 g1
    exact ⟨d, e1, du, e2, by rw [← e3]; exact g2⟩
end Go.OAI
