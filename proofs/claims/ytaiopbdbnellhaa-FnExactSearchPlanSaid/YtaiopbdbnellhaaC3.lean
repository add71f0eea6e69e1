/- Calls: the whole. -/
import Derived.Test.YtaiopbdbnellhaaC2
namespace Go.OAI
set_option linter.unusedVariables false

variable {P : Program} {w0 : W0} {w w' : World} {B : Nat} {Io Io2 R R2 R3 : Nat → Prop} {ρ ρk : Nat → Option Pl} {Fr Frk : Nat → Prop} {st stk s : St} {a : Act}

theorem ALs.split {L M : List (Value × AVal)} {C : Nat → Prop} (h : ALs w R (L ++ M) C) : ∃ C1 C2, ALs w R L C1 ∧ ALs w R M C2 ∧ (∀ b, C1 b → C2 b → False) ∧ ∀ b, C1 b ∨ C2 b → C b := by
  obtain ⟨Ss, h1, h2, h3⟩ := h
  refine ⟨fun b => ∃ i, i < L.length ∧ Ss i b, fun b => ∃ i, L.length ≤ i ∧ Ss i b, ⟨fun i b => i < L.length ∧ Ss i b, fun i p hp => ?_, fun i j b hij hi hj => h2 i j b hij hi.2 hj.2, fun i b hb => ⟨i, hb⟩⟩,
    ⟨fun i => Ss (L.length + i), fun i p hp => ?_, fun i j b hij hi hj => h2 _ _ b (by omega) hi hj, fun i b hb => ⟨_, by omega, hb⟩⟩, ?_, ?_⟩
  · have hi := lt_of_get hp
    have := h1 i p (by rw [List.getElem?_append_left hi]; exact hp)
    have e : (fun b => i < L.length ∧ Ss i b) = Ss i := by funext b; exact propext ⟨fun h => h.2, fun h => ⟨hi, h⟩⟩
    show AT w R p.1 (fun b => i < L.length ∧ Ss i b) p.2
    rw [e]; exact this
  · exact h1 _ p (by rw [List.getElem?_append_right (by omega)]; simpa using hp)
  · rintro b ⟨i, hi, hb⟩ ⟨j, hj, hb'⟩
    exact h2 i j b (by omega) hb hb'
  · rintro b (⟨i, _, hb⟩ | ⟨i, _, hb⟩) <;> exact h3 i b hb

theorem RT.free : ∀ {T : Ty} {vs : List Value} {x : T.den}, T.plain = true → RT w R T vs x → RT w R2 T vs x
  | .int _, _, _, _, h | .bool, _, _, _, h | .str, _, _, _, h | .unit, _, _, _, h => h
  | .slice _, _, _, hp, _ => by cases hp
  | .pair p q, _, _, hp, h => by
    simp only [Ty.plain, Bool.and_eq_true] at hp
    obtain ⟨us, ws, e, h1, h2⟩ := h
    exact ⟨us, ws, e, RT.free hp.1 h1, RT.free hp.2 h2⟩
theorem SlOwn.free {T : Ty} {S : SPl} {l : List T.den} (hp : T.plain = true) (h : SlOwn w R T S l) : SlOwn w R2 T S l := by
  obtain ⟨h1, h2, h3⟩ := h
  refine ⟨h1, h2, fun hc => ?_⟩
  obtain ⟨b, off, arr, E, e1, e2, e3, e4⟩ := h3 hc
  refine ⟨b, off, arr, E, e1, e2, e3, fun i x hx => ?_⟩
  obtain ⟨us, g1, g2⟩ := e4 i x hx
  exact ⟨us, RT.free hp g1, g2⟩
theorem CT.free {v : Value} {S : Nat → Prop} {x : AVal} (hf : roFree1 x = true) (h : CT w R v S x) : CT w R2 v S x := by
  cases x
  case osl T l =>
    obtain ⟨Sp, h1, h2, h3⟩ := h
    exact ⟨Sp, h1, h2.free hf, h3⟩
  case omat T l =>
    obtain ⟨Sp, rows, h1, h2, h3⟩ := h
    obtain ⟨S', rows', e, m1, m2, m3, m4, m5, m6⟩ := h2
    exact ⟨Sp, rows, h1, ⟨S', rows', e, m1, m2, m3, fun i r hr => ⟨(m4 i r hr).1, (m4 i r hr).2.free hf⟩, m5, m6⟩, h3⟩
  case sl => simp [roFree1] at hf
  all_goals exact h
theorem CTs.free {vs : Nat → Option Value} {S : Nat → Prop} {cs : List AVal} (hf : cs.all roFree1 = true) (h : CTs w R vs cs S) : CTs w R2 vs cs S := by
  obtain ⟨Ss, h1, h2, h3⟩ := h
  refine ⟨Ss, fun i x hx => ?_, h2, h3⟩
  obtain ⟨u, g1, g2⟩ := h1 i x hx
  exact ⟨u, g1, g2.free (List.all_eq_true.1 hf x (List.mem_of_getElem? hx))⟩
theorem roFree_cons (x : AVal) (xs : List AVal) : roFree (x :: xs) = (roFree [x] && roFree xs) := by
  cases x <;> simp [roFree]
theorem AT.free {v : Value} {S : Nat → Prop} {x : AVal} (hf : roFree [x] = true) (h : AT w R v S x) : AT w R2 v S x := by
  cases x
  case agg cs =>
    obtain ⟨us, h1, h2, h3⟩ := h
    simp only [roFree, Bool.and_true] at hf
    exact ⟨us, h1, h2, h3.free hf⟩
  case obox cs =>
    obtain ⟨b, off, arr, E, h1, h2, h3, S', h4, h5⟩ := h
    simp only [roFree, Bool.and_true] at hf
    exact ⟨b, off, arr, E, h1, h2, h3, S', h4.free hf, h5⟩
  case undef => exact trivial
  all_goals
    simp only [roFree, Bool.and_true] at hf
    rw [at_ct _ (by simp) (by simp) (by simp)] at h ⊢
    exact CT.free hf h
theorem roFree_mem : ∀ {xs : List AVal} {x : AVal}, roFree xs = true → x ∈ xs → roFree [x] = true
  | [], _, _, h => by simp at h
  | y :: ys, x, hf, h => by
    rw [roFree_cons, Bool.and_eq_true] at hf
    rcases List.mem_cons.1 h with e | e
    · rw [e]; exact hf.1
    · exact roFree_mem hf.2 e
theorem ALs.free {L : List (Value × AVal)} {C : Nat → Prop} (hf : ∀ p ∈ L, roFree [p.2] = true) (h : ALs w R L C) : ALs w R2 L C := by
  obtain ⟨Ss, h1, h2, h3⟩ := h
  exact ⟨Ss, fun i p hp => (h1 i p hp).free (hf p (List.mem_of_getElem? hp)), h2, h3⟩

theorem ownVals_get : ∀ {ds xs : List AVal} {vs : List Value}, vs.length = xs.length → ds.length = xs.length → (∀ (t : Nat) v x, vs[t]? = some v → xs[t]? = some x → VA w R ρ v x) →
    (ownVals ds vs).length = (pickOwn true ds xs).length ∧ ∀ (t : Nat) v x, (ownVals ds vs)[t]? = some v → (pickOwn true ds xs)[t]? = some x → VA w R ρ v x
  | [], [], [], _, _, _ => ⟨rfl, fun t v x h => by simp [ownVals] at h⟩
  | [], _ :: _, _, _, h, _ => by simp at h
  | _ :: _, [], _, _, h, _ => by simp at h
  | _, [], _ :: _, h, _, _ => by simp at h
  | _, _ :: _, [], h, _, _ => by simp at h
  | d :: ds, x :: xs, v :: vs, h1, h2, h3 => by
    obtain ⟨g1, g2⟩ := ownVals_get (by simpa using h1) (by simpa using h2) (fun t u z hu hz => h3 (t + 1) u z (by simpa using hu) (by simpa using hz))
    cases ho : isOwn d with
    | true =>
      have e1 : ownVals (d :: ds) (v :: vs) = v :: ownVals ds vs := by simp [ownVals, ho]
      have e2 : pickOwn true (d :: ds) (x :: xs) = x :: pickOwn true ds xs := by simp [pickOwn, ho]
      rw [e1, e2]
      refine ⟨by simp [g1], fun t u z hu hz => ?_⟩
      match t with
      | 0 => simp at hu hz; subst hu; subst hz; exact h3 0 _ _ rfl rfl
      | t + 1 => exact g2 t u z (by simpa using hu) (by simpa using hz)
    | false =>
      have e1 : ownVals (d :: ds) (v :: vs) = ownVals ds vs := by simp [ownVals, ho]
      have e2 : pickOwn true (d :: ds) (x :: xs) = pickOwn true ds xs := by simp [pickOwn, ho]
      rw [e1, e2]; exact ⟨g1, g2⟩

theorem VA1s_tup {rs : List (Value × AVal)} {zs : List AVal} (hl : zs.length = rs.length) (h : ∀ (t : Nat) p y, rs[t]? = some p → zs[t]? = some y → VA1 w R ρ p.1 y) :
    VA w R ρ (.tuple (rs.map (·.1)).toArray) (.tup zs) :=
  ⟨(rs.map (·.1)).toArray, rfl, by simp [hl], fun i u x hu hx => by
    simp only [List.getElem?_toArray, List.getElem?_map, Option.map_eq_some_iff] at hu
    obtain ⟨p, hp, rfl⟩ := hu
    exact h i p x hp hx⟩

theorem instRes_one {v : AVal} (hv : ∀ vs, v ≠ .tup vs) (j : Nat) : instRes v j = instArg v j := by
  cases v <;> first | rfl | exact absurd rfl (hv _)

/-- The results, laid in. -/
theorem inst_res {rs : List (Value × AVal)} {v : AVal} {C : Nat → Prop} {j : Nat} (h : SR w0 B Io R ρ Fr st a w) (hf : ∀ t, j ≤ t → t < (instList (resList v) j).2.2 → Fr t) (hr : rs.map (·.2) = resList v) (hr' : tupOf (rs.map (·.2)) = v) (hc : ALs w R rs C) (hS : Fits R B Io st ρ w C) :
    ∃ ρ', Inst w0 B Io R ρ Fr st a w j (instRes v j).2.2 C (instRes v j).2.1 ρ' ∧ VA w R ρ' (tupV (rs.map (·.1))) (instRes v j).1 := by
  obtain ⟨ρ', g1, g2, g3⟩ := inst_list (i := j) h (hr ▸ hf) hc hS
  match rs, hr, hr', hc, g1, g2, g3 with
  | [], hr, hr', hc, g1, g2, g3 =>
    simp [tupOf] at hr'
    subst hr'
    refine ⟨ρ', g1, VA1s_tup (rs := []) rfl fun t p y hp => by simp at hp⟩
  | [p], hr, hr', hc, g1, g2, g3 =>
    simp [tupOf] at hr'
    subst hr'
    have hv : ∀ vs, p.2 ≠ .tup vs := by
      intro vs e
      have hr : [p.2] = resList p.2 := hr
      rw [e] at hr
      have hr : [AVal.tup vs] = vs := hr
      have := congrArg (fun l : List AVal => SizeOf.sizeOf l) hr
      simp at this
      omega
    have e : instList ([p].map (·.2)) j = ([(instArg p.2 j).1], (instArg p.2 j).2.1, (instArg p.2 j).2.2) := by simp [instList]
    rw [e] at g1 g2 g3
    rw [instRes_one hv]
    exact ⟨ρ', g1, .of1 (g3 0 p _ rfl rfl)⟩
  | p :: q :: rs, hr, hr', hc, g1, g2, g3 =>
    have e : v = .tup ((p :: q :: rs).map (·.2)) := by rw [← hr']; rfl
    subst e
    exact ⟨ρ', g1, VA1s_tup (rs := p :: q :: rs) g2 g3⟩

structure EnvOk (P : Program) (env : Nat → Option Callee) : Prop where
  ok : ∀ g cl, env g = some cl → CalleeOk P g cl
  enter : ∀ g cl, env g = some cl → ∀ args w, (callFunc g args).run P w = .ok (.enter g args) w

theorem prsOf_nil_of {xs : List AVal} (h : (idsOf st xs).isEmpty = true) : prsOf st xs = [] := by
  have := prsOf_map (st := st) xs
  rw [List.isEmpty_iff.1 h] at this
  simpa using this
theorem Blks_mem_ob {qs : List (Nat × Option Nat)} {b : Nat} (h : SR w0 B Io R ρ Fr st a w) (hb : Blks st ρ qs b) : ∃ q ∈ qs, ∃ o p, st.ob q.1 = some o ∧ ρ q.1 = some p ∧ blkO p b := by
  obtain ⟨q, hq, hb⟩ := hb
  obtain ⟨o, p, h1, h2, h3⟩ := blkR_obj h hb
  exact ⟨q, hq, o, p, h1, h2, h3⟩

theorem dels_ob (ids : List Nat) (st : St) (id : Nat) : (st.obs (ids.map fun i => (i, none))).ob id = if id ∈ ids then none else st.ob id := by
  induction ids generalizing st with
  | nil => rfl
  | cons i ids ih =>
    show (({ st with ob := fun j => if j = i then none else st.ob j } : St).obs (ids.map fun i => (i, none))).ob id = _
    rw [ih]
    by_cases h1 : id ∈ ids
    · simp [h1]
    · by_cases h2 : id = i
      · simp [h2]
      · simp [h1, h2]

theorem resCell_sub (hs : Sub s st) {fl : Bool} {x y : AVal} (he : resCell s fl x = some y) : resCell st fl x = some y := by
  cases x <;> try exact he
  rename_i id row win
  rcases hs.ob id with e | e
  · cases fl <;> simp [resCell, full, e] at he
  · cases fl <;> simpa only [resCell, full, e] using he
theorem resCells_sub (hs : Sub s st) {fl : Bool} : ∀ {xs ys : List AVal}, resCells s fl xs = some ys → resCells st fl xs = some ys
  | [], ys, he => he
  | x :: xs, ys, he => by
    simp only [resCells] at he ⊢
    split at he
    · rename_i y h1
      split at he
      · rename_i ys' h2
        cases he
        rw [resCell_sub hs h1, resCells_sub hs h2]
      · cases he
    · cases he
theorem resArg_sub (hs : Sub s st) {fl : Bool} {x y : AVal} (he : resArg s fl x = some y) : resArg st fl x = some y ∧ ownArg s x = ownArg st x := by
  have cell : (∀ cs, x ≠ .agg cs) → (∀ id c, x ≠ .ptr id c) → resArg st fl x = some y ∧ ownArg s x = ownArg st x := by
    intro h1 h2
    have e1 : ∀ u : St, resArg u fl x = resCell u fl x := fun u => by cases x <;> first | rfl | exact absurd rfl (h1 _) | exact absurd rfl (h2 _ _)
    have e2 : ∀ u : St, ownArg u x = ownIds [x] := fun u => by cases x <;> first | rfl | exact absurd rfl (h1 _) | exact absurd rfl (h2 _ _)
    rw [e1] at he ⊢
    exact ⟨resCell_sub hs he, by rw [e2, e2]⟩
  cases x
  case agg cs =>
    simp only [resArg] at he ⊢
    split at he
    · rename_i ys h1
      cases he
      rw [resCells_sub hs h1]
      exact ⟨rfl, rfl⟩
    · cases he
  case ptr id c =>
    cases c with
    | succ c => simp [resArg] at he
    | zero =>
      simp only [resArg, ownArg] at he ⊢
      rcases hs.ob id with e | e
      · simp [e] at he
      · rw [e] at he ⊢
        refine ⟨?_, rfl⟩
        split at he
        · rename_i cs hcs
          split at he
          · rename_i ys h1
            cases he
            simp only [resCells_sub hs h1]
          · cases he
        · cases he
  all_goals exact cell (by simp) (by simp)
theorem resArgs_sub (hs : Sub s st) : ∀ {fl : List Bool} {xs ds : List AVal}, resArgs s fl xs = some ds → resArgs st fl xs = some ds ∧ ∀ b, idsOf s (pickOwn b ds xs) = idsOf st (pickOwn b ds xs)
  | fl, [], ds, he => by cases fl <;> (cases he; exact ⟨rfl, fun b => rfl⟩)
  | fl, x :: xs, ds, he => by
    have eq : ∀ u : St, resArgs u fl (x :: xs) = match resArg u (fl.headD false) x with
      | some y => match resArgs u fl.tail xs with
        | some ys => some (y :: ys)
        | none => none
      | none => none := fun u => by cases fl <;> rfl
    rw [eq] at he ⊢
    split at he
    · rename_i y h1
      split at he
      · rename_i ys h2
        cases he
        obtain ⟨g1, g2⟩ := resArg_sub hs h1
        obtain ⟨g3, g4⟩ := resArgs_sub hs h2
        rw [g1, g3]
        refine ⟨rfl, fun b => ?_⟩
        simp only [pickOwn]
        split
        · simp only [idsOf, g2, g4]
        · exact g4 b
      · cases he
    · cases he
theorem backCell_sub (hs : Sub s st) {x y : AVal} {os : List (Nat × Option Obj)} (he : backCell s x y = some os) : backCell st x y = some os := by
  cases x <;> try exact he
  rename_i id row win
  rcases hs.ob id with e | e
  · cases row <;> cases win <;> cases y <;> simp [backCell, e] at he ⊢
    exact he
  · cases row <;> cases win <;> cases y <;> simpa only [backCell, e] using he
theorem backCells_sub (hs : Sub s st) : ∀ {xs ys : List AVal} {os : List (Nat × Option Obj)}, backCells s xs ys = some os → backCells st xs ys = some os
  | [], [], os, he => he
  | [], _ :: _, os, he => by cases he
  | _ :: _, [], os, he => by cases he
  | x :: xs, y :: ys, os, he => by
    simp only [backCells] at he ⊢
    split at he
    · rename_i o1 h1
      split at he
      · rename_i o2 h2
        cases he
        rw [backCell_sub hs h1, backCells_sub hs h2]
      · cases he
    · cases he
theorem backArg_sub (hs : Sub s st) {x y : AVal} {i : Nat} {r : List (Nat × Option Obj) × Nat} (he : backArg s x y i = some r) : backArg st x y i = some r := by
  unfold backArg at he ⊢
  split at he
  · exact he
  · exact he
  · split at he
    · rename_i o1 h1
      rw [backCells_sub hs h1]; exact he
    · cases he
  · split at he
    · rename_i o1 h1
      rw [backCell_sub hs h1]; exact he
    · cases he
theorem backArgs_sub (hs : Sub s st) : ∀ {xs ys : List AVal} {i : Nat} {r : List (Nat × Option Obj) × Nat}, backArgs s xs ys i = some r → backArgs st xs ys i = some r
  | [], [], i, r, he => he
  | [], _ :: _, i, r, he => by cases he
  | _ :: _, [], i, r, he => by cases he
  | x :: xs, y :: ys, i, r, he => by
    simp only [backArgs] at he ⊢
    split at he
    · rename_i o1 j1 h1
      split at he
      · rename_i o2 j2 h2
        cases he
        rw [backArg_sub hs h1]
        simp only [backArgs_sub hs h2]
      · cases he
    · cases he

theorem callA_sound {c : Callee} {g ib : Nat} {α : Type} {k : Delta → Option α} {r : α} {xs : List AVal} {vs : List Value} {o : Oper} (h : SR w0 B Io R ρ Fr st a w) (hs : Sub s st) (hf : ∀ i, Own ib i → Fr i)
    (hc : CalleeOk P g c) (hl : vs.length = xs.length) (hv : ∀ (i : Nat) v x, vs[i]? = some v → xs[i]? = some x → VA w R ρ v x) (hr : (execOp a.eval o).run P w = .ok (.enter g vs.toArray) w)
    (he : callA c ib s xs k = some r) : ∃ d, k d = some r ∧ OpOk P w0 B Io Fr ib st a w o d := by
  unfold callA at he
  split at he
  · cases he
  rename_i ds hds
  obtain ⟨hds, hids⟩ := resArgs_sub hs hds
  simp only [hids] at he
  split at he
  · cases he
  rename_i hcond
  rw [Bool.and_eq_true] at hcond
  have hn := of_decide_eq_true hcond.1
  have hdis : ∀ i ∈ idsOf st (pickOwn false ds xs), i ∉ idsOf st (pickOwn true ds xs) := fun i hi => by
    have := List.all_eq_true.1 hcond.2 i hi
    simpa using this
  split at he
  · cases he
  rename_i x hinn
  obtain ⟨y, hG, he⟩ := Option.bind_eq_some_iff.1 he
  split at he
  · cases he
  rename_i hfree
  split at he
  · cases he
  rename_i os j hback
  have hback := backArgs_sub hs hback
  generalize hz : instRes (c.out y).1 j = zz at he
  obtain ⟨z, ns, j'⟩ := zz
  dsimp only at he
  split at he
  rotate_left
  · cases he
  rename_i hj
  have hj := of_decide_eq_true hj
  refine ⟨_, he, ?_⟩
  clear he
  generalize hown : pickOwn true ds xs = own at *
  generalize hro : pickOwn false ds xs = ro at *
  have hIo2 : ∀ b, Blks st ρ (prsOf st own) b → b < w.heap.size ∧ ¬ R b ∧ (B ≤ b ∨ Io b) := fun b hb => by
    obtain ⟨q, hq, o', p, g1, g2, g3⟩ := Blks_mem_ob h hb
    exact h.own _ o' p b g1 g2 g3
  have hRo : ∀ b, Blks st ρ (prsOf st ro) b → b < w.heap.size ∧ ¬ Blks st ρ (prsOf st own) b := fun b hb => by
    obtain ⟨q, hq, o', p, g1, g2, g3⟩ := Blks_mem_ob h hb
    refine ⟨(h.own _ o' p b g1 g2 g3).1, fun hb' => ?_⟩
    obtain ⟨q', hq', o2, p2, f1, f2, f3⟩ := Blks_mem_ob h hb'
    have h1 : q.1 ∈ idsOf st ro := by rw [← prsOf_map]; exact List.mem_map_of_mem hq
    have h2 : q'.1 ∈ idsOf st own := by rw [← prsOf_map]; exact List.mem_map_of_mem hq'
    exact h.sep q.1 o' q'.1 o2 p p2 b (fun e => hdis _ h1 (by rw [e]; exact h2)) g1 f1 g2 f2 g3 f3
  obtain ⟨hdl, hals⟩ := resArgs_sound (R2 := fun b => R b ∨ Blks st ρ (prsOf st ro) b) h (fun b hb => .inl hb) hl hv hds (by rw [hown]; exact hn) (by rw [hro]; exact fun b hb => .inr hb)
  rw [hown] at hals
  have hcall := hc w (fun b => R b ∨ Blks st ρ (prsOf st ro) b) (Blks st ρ (prsOf st own)) vs ds x y (by rw [hl, hdl]) hals
    (fun b hb => ⟨(hIo2 b hb).1, fun hb' => hb'.elim (hIo2 b hb).2.1 fun hb' => (hRo b hb').2 hb⟩) (fun b hb => hb.elim (h.rlt b) fun hb => (hRo b hb).1) hinn hG
  intro next Q hn'
  unfold Oper.wp
  rw [hr, Oper.upon_enter]
  refine Calls.mono hcall fun e w' he => ?_
  obtain ⟨rs, rfl, hrs, hrs', hlen, R', hals', hRR, hR', hsame, hsize, hquiet⟩ := he
  show next _ _
  apply hn'
  obtain ⟨R3, hals3, hr3a, hr3b, hr3c⟩ : ∃ R3 : Nat → Prop, ALs w' R3 (rs ++ (ownVals ds vs).zip (c.out y).2) (fun b => b < w'.heap.size ∧ ¬ R' b ∧ (Blks st ρ (prsOf st own) b ∨ w.heap.size ≤ b)) ∧
      (∀ b, R b → R3 b) ∧ (∀ b, R3 b → b < w'.heap.size ∧ (R b ∨ (Blks st ρ (prsOf st own) b ∨ w.heap.size ≤ b))) ∧ ∀ b, R3 b → R' b := by
    rcases Bool.or_eq_true_iff.1 hfree with hfr | hro0
    · rw [Bool.and_eq_true] at hfr
      refine ⟨R, ALs.free (fun p hp => ?_) hals', fun b hb => hb, fun b hb => ⟨Nat.lt_of_lt_of_le (h.rlt b hb) hsize, .inl hb⟩, fun b hb => hRR b (.inl hb)⟩
      rcases List.mem_append.1 hp with hp | hp
      · exact roFree_mem hfr.1 (by rw [← hrs]; exact List.mem_map_of_mem hp)
      · exact roFree_mem hfr.2 (List.of_mem_zip (show (p.1, p.2) ∈ _ from hp)).2
    · have e := prsOf_nil_of hro0
      refine ⟨R', hals', fun b hb => hRR b (.inl hb), fun b hb => ⟨(hR' b hb).1, ?_⟩, fun b hb => hb⟩
      rcases (hR' b hb).2 with hb' | hb'
      · rcases hb' with hb' | hb'
        · exact .inl hb'
        · rw [e] at hb'; obtain ⟨q, hq, _⟩ := hb'; simp at hq
      · exact .inr hb'
  clear hals'
  -- the state without what was handed over
  have hk0 := h.dels (idsOf st own)
  have hlive0 : ∀ b, Live (st.obs ((idsOf st own).map fun i => (i, none))) ρ b → ∃ id o' p, id ∉ idsOf st own ∧ st.ob id = some o' ∧ ρ id = some p ∧ blkO p b := by
    rintro b ⟨id, o', p, q1, q2, q3⟩
    rw [dels_ob] at q1
    split at q1
    · cases q1
    · rename_i hid; exact ⟨id, o', p, hid, q1, q2, q3⟩
  have hap0 : ∀ b, Blks st ρ (prsOf st own) b → ¬ Live (st.obs ((idsOf st own).map fun i => (i, none))) ρ b := fun b hb hlv => by
    obtain ⟨id, o', p, q1, q2, q3, q4⟩ := hlive0 b hlv
    obtain ⟨q', hq', o2, p2, f1, f2, f3⟩ := Blks_mem_ob h hb
    have h2 : q'.1 ∈ idsOf st own := by rw [← prsOf_map]; exact List.mem_map_of_mem hq'
    exact h.sep id o' q'.1 o2 p p2 b (fun e => q1 (by rw [e]; exact h2)) q2 f1 q3 f2 q4 f3
  have hk1 := hk0.world (w' := w') (C := Blks st ρ (prsOf st own)) (fun b hb => ⟨(hIo2 b hb).2.1, (hIo2 b hb).2.2, hap0 b hb⟩) (fun b hb hb' => hsame b hb hb') hsize hquiet
  have hk2 := hk1.growR (R2 := R3) hr3a (fun b hb => ⟨(hr3b b hb).1, fun hlv => by
    obtain ⟨id, o', p, q1, q2, q3, q4⟩ := hlive0 b hlv
    obtain ⟨z1, z2, z3⟩ := h.own id o' p b q2 q3 q4
    rcases (hr3b b hb).2 with hb' | hb' | hb'
    · exact z2 hb'
    · exact hap0 b hb' hlv
    · omega⟩) fun b hb => (hr3b b hb).2.imp id fun hb' => hb'.elim (fun hb' => (hIo2 b hb').2.2) fun hb' => .inl (Nat.le_trans h.size0 hb')
  have ctx : Ctx w0 B Io R ρ Fr st a w w' (Blks st ρ (prsOf st own)) R3 := ⟨h, hr3a, hsame, hsize, fun b hb => (hIo2 b hb).2.1, fun b hb => (hr3b b hb).2⟩
  have bk0 : Bk w0 B Io R ρ st a w w' (Blks st ρ (prsOf st own)) R3 ρ Fr (st.obs ((idsOf st own).map fun i => (i, none))) := ⟨hk2, .refl _, fun id o' p b q1 q2 q3 => by
    refine .inr ⟨fun hb => hap0 b hb ⟨id, o', p, q1, q2, q3⟩, ?_⟩
    rw [dels_ob] at q1
    split at q1
    · cases q1
    · exact ⟨o', p, q1, q2, q3⟩⟩
  have hfit : ∀ b, (b < w'.heap.size ∧ ¬ R' b ∧ (Blks st ρ (prsOf st own) b ∨ w.heap.size ≤ b)) → (b < w'.heap.size ∧ ¬ R3 b ∧ (B ≤ b ∨ Io b)) ∧ ¬ Live (st.obs ((idsOf st own).map fun i => (i, none))) ρ b := by
    rintro b ⟨q1, q2, q3⟩
    refine ⟨⟨q1, fun hb => q2 (hr3c b hb), ?_⟩, fun hlv => ?_⟩
    · rcases q3 with q3 | q3
      · exact (hIo2 b q3).2.2
      · exact .inl (Nat.le_trans h.size0 q3)
    · rcases q3 with q3 | q3
      · exact hap0 b q3 hlv
      · obtain ⟨id, o', p, _, z2, z3, z4⟩ := hlive0 b hlv
        have := (h.own id o' p b z2 z3 z4).1
        omega
  obtain ⟨C1, C2, hA1, hA2, hA3, hA4⟩ := hals3.split
  obtain ⟨ho1, ho2⟩ := ownVals_get (ρ := ρ) (w := w) (R := R) (ds := ds) hl hdl hv
  rw [hown] at ho1 ho2
  have hjle := backArgs_le hback
  have hjj : j ≤ (instList (resList (c.out y).1) j).2.2 := instList_le _ _
  have hj2 : (instList (resList (c.out y).1) j).2.2 ≤ j' := by
    have : (instRes (c.out y).1 j).2.2 = j' := by rw [hz]
    rw [← this]
    cases (c.out y).1 <;> first | exact Nat.le_refl _ | (simp [instRes, resList, instList])
  obtain ⟨ρ1, bk1, le1, _, lv1⟩ := back_args ctx bk0 (i := ib) (j := j) (fun t q1 q2 => hf t ⟨q1, by omega⟩) ho1 ho2 hA2 ⟨fun b hb => hfit b (hA4 b (.inr hb)), fun b hb => (hA4 b (.inr hb)).2.2⟩ hback
    (other_of h (by rw [prsOf_map]; exact hn))
  obtain ⟨ρ2, in2, hva⟩ := inst_res (j := j) bk1.sr (fun t q1 q2 => ⟨hf t ⟨by omega, by omega⟩, fun e => by omega⟩) hrs hrs' hA1 (fun b hb => ⟨(hfit b (hA4 b (.inl hb))).1, fun hlv => by
    rcases lv1 b hlv with q | q | q
    · exact (hfit b (hA4 b (.inl hb))).2 q
    · exact hA3 b hb q
    · rcases (hA4 b (.inl hb)).2.2 with q' | q'
      · exact q.1 q'
      · have := q.2; omega⟩)
  rw [hz] at in2 hva
  dsimp only at in2 hva
  have hij := in2.ij
  refine ⟨R3, ρ2, ?_⟩
  rw [app_obs, obs_append, obs_append]
  exact (in2.sr.put o.dst hva).weaken fun t ht => ⟨⟨ht.1, fun e => ht.2 ⟨e.1, by omega⟩⟩, fun e => ht.2 ⟨by omega, by omega⟩⟩

theorem ok_call {env : Nat → Option Callee} {ib : Nat} {α : Type} {k : Delta → Option α} {r : α} {o : Oper} {c : Call} {f : Operand} (henv : EnvOk P env) (h : SR w0 B Io R ρ Fr st a w) (hs : Sub s st) (hf : ∀ i, Own ib i → Fr i)
    (ho : o.op = .call c) (hc : c.callee = .value f) (he : evalOp P env ib s o k = some r) : ∃ d, k d = some r ∧ OpOk P w0 B Io Fr ib st a w o d := by
  unfold evalOp at he
  simp only [ho, hc] at he
  split at he
  · rename_i g hg
    split at he
    · rename_i cl hcl
      have hfv := h.evs hs f
      rw [hg] at hfv
      obtain ⟨_, hfv⟩ : ([] : List AVal) = [] ∧ a.eval f = .func (.func g) #[] #[] := hfv
      refine callA_sound h hs hf (henv.ok g cl hcl) (vs := c.args.toList.map a.eval) (by simp) (fun i v x h1 h2 => ?_) ?_ he
      · simp only [List.getElem?_map, Option.map_eq_some_iff] at h1 h2
        obtain ⟨p, hp, rfl⟩ := h1
        obtain ⟨q, hq, rfl⟩ := h2
        rw [hp] at hq; cases hq
        exact h.evs hs p
      · have := henv.enter g cl hcl (c.args.map a.eval) w
        have e : (c.args.toList.map a.eval).toArray = c.args.map a.eval := by apply Array.ext'; simp
        rw [e]
        simpa [execOp, ho, resolve, hc, hfv, Deferred.ofValue, invoke] using this
    · cases he
  · cases he
end Go.OAI
