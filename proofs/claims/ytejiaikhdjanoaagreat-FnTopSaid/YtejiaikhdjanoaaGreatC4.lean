/- Calls: the whole. Rows move: a slice with its memory becomes a row of a slice of slices. -/
import Derived.Test.YtejiaikhdjanoaaGreatC2
namespace Go.OAI
set_option linter.unusedVariables false
variable {P : Program} {w0 : W0} {gw : W0} {w w' : World} {B : Nat} {Io Io2 R R2 R3 : Nat → Prop} {ρ ρk : Nat → Option Pl} {Fr Frk : Nat → Prop} {st stk s : St} {a : Act}
theorem ALs.split {L M : List (Value × AVal)} {C : Nat → Prop} (h : ALs gw w R (L ++ M) C) : ∃ C1 C2, ALs gw w R L C1 ∧ ALs gw w R M C2 ∧ (∀ b, C1 b → C2 b → False) ∧ ∀ b, C1 b ∨ C2 b → C b := by
  obtain ⟨Ss, h1, h2, h3⟩ := h
  refine ⟨fun b => ∃ i, i < L.length ∧ Ss i b, fun b => ∃ i, L.length ≤ i ∧ Ss i b, ⟨fun i b => i < L.length ∧ Ss i b, fun i p hp => ?_, fun i j b hij hi hj => h2 i j b hij hi.2 hj.2, fun i b hb => ⟨i, hb⟩⟩,
    ⟨fun i => Ss (L.length + i), fun i p hp => ?_, fun i j b hij hi hj => h2 _ _ b (by omega) hi hj, fun i b hb => ⟨_, by omega, hb⟩⟩, ?_, ?_⟩
  · have hi := lt_of_get hp
    have := h1 i p (by rw [List.getElem?_append_left hi]; exact hp)
    have e : (fun b => i < L.length ∧ Ss i b) = Ss i := by funext b; exact propext ⟨fun h => h.2, fun h => ⟨hi, h⟩⟩
    show AT gw w R p.1 (fun b => i < L.length ∧ Ss i b) p.2
    rw [e]; exact this
  · exact h1 _ p (by rw [List.getElem?_append_right (by omega)]; simpa using hp)
  · rintro b ⟨i, hi, hb⟩ ⟨j, hj, hb'⟩
    exact h2 i j b (by omega) hb hb'
  · rintro b (⟨i, _, hb⟩ | ⟨i, _, hb⟩) <;> exact h3 i b hb
theorem RT.free : ∀ {T : Ty} {vs : List Value} {x : T.den}, T.plain = true → RT w R T vs x → RT w R2 T vs x
  | .int _, _, _, _, h | .bool, _, _, _, h | .str, _, _, _, h | .unit, _, _, _, h => h
  | .slice _, _, _, hp, _ => by cases hp
  | .pair p q, _, _, hp, h => by
    simp only [Ty.plain, Bool.and_eq_true] at hp
    obtain ⟨us, ws, e, h1, h2⟩ := h
    exact ⟨us, ws, e, RT.free hp.1 h1, RT.free hp.2 h2⟩
theorem SlOwn.free {T : Ty} {S : SPl} {l : List T.den} (hp : T.plain = true) (h : SlOwn w R T S l) : SlOwn w R2 T S l := by
  obtain ⟨h1, h2, h3⟩ := h
  refine ⟨h1, h2, fun hc => ?_⟩
  obtain ⟨b, off, arr, E, e1, e2, e3, e4⟩ := h3 hc
  refine ⟨b, off, arr, E, e1, e2, e3, fun i x hx => ?_⟩
  obtain ⟨us, g1, g2⟩ := e4 i x hx
  exact ⟨us, RT.free hp g1, g2⟩
theorem CT.free {v : Value} {S : Nat → Prop} {x : AVal} (hf : roFree1 x = true) (h : CT w R v S x) : CT w R2 v S x := by
  cases x
  case osl T l =>
    obtain ⟨Sp, h1, h2, h3⟩ := h
    exact ⟨Sp, h1, h2.free hf, h3⟩
  case omat T l =>
    obtain ⟨Sp, rows, h1, h2, h3⟩ := h
    obtain ⟨S', rows', e, m1, m2, m3, m4, m5, m6⟩ := h2 (gnil w)
    exact ⟨Sp, rows, h1, fun _ => ⟨S', rows', e, m1, m2, m3, fun i r hr => ⟨(m4 i r hr).1, (m4 i r hr).2.free hf⟩, m5, m6⟩, h3⟩
  case sl => simp [roFree1] at hf
  all_goals exact h
theorem CTs.free {vs : Nat → Option Value} {S : Nat → Prop} {cs : List AVal} (hf : cs.all roFree1 = true) (h : CTs w R vs cs S) : CTs w R2 vs cs S := by
  obtain ⟨Ss, h1, h2, h3⟩ := h
  refine ⟨Ss, fun i x hx => ?_, h2, h3⟩
  obtain ⟨u, g1, g2⟩ := h1 i x hx
  exact ⟨u, g1, g2.free (List.all_eq_true.1 hf x (List.mem_of_getElem? hx))⟩
theorem roFree_cons (x : AVal) (xs : List AVal) : roFree (x :: xs) = (roFree [x] && roFree xs) := by
  cases x <;> simp [roFree]
theorem AT.free {v : Value} {S : Nat → Prop} {x : AVal} (hf : roFree [x] = true) (h : AT gw w R v S x) : AT gw w R2 v S x := by
  cases x
  case agg cs =>
    obtain ⟨us, h1, h2, h3⟩ := h
    simp only [roFree, Bool.and_true] at hf
    exact ⟨us, h1, h2, h3.free hf⟩
  case obox cs =>
    obtain ⟨b, off, arr, E, h1, h2, h3, S', h4, h5⟩ := h
    simp only [roFree, Bool.and_true] at hf
    exact ⟨b, off, arr, E, h1, h2, h3, S', h4.free hf, h5⟩
  case undef => exact trivial
  case rptr => exact h
  case cfn => exact h
  all_goals
    simp only [roFree, Bool.and_true] at hf
    rw [at_ct _ (by simp) (by simp) (by simp) (by simp) (by simp)] at h ⊢
    exact CT.free hf h
theorem roFree_mem : ∀ {xs : List AVal} {x : AVal}, roFree xs = true → x ∈ xs → roFree [x] = true
  | [], _, _, h => by simp at h
  | y :: ys, x, hf, h => by
    rw [roFree_cons, Bool.and_eq_true] at hf
    rcases List.mem_cons.1 h with e | e
    · rw [e]; exact hf.1
    · exact roFree_mem hf.2 e
theorem ALs.free {L : List (Value × AVal)} {C : Nat → Prop} (hf : ∀ p ∈ L, roFree [p.2] = true) (h : ALs gw w R L C) : ALs gw w R2 L C := by
  obtain ⟨Ss, h1, h2, h3⟩ := h
  exact ⟨Ss, fun i p hp => (h1 i p hp).free (hf p (List.mem_of_getElem? hp)), h2, h3⟩
theorem ownVals_get : ∀ {ds xs : List AVal} {vs : List Value}, vs.length = xs.length → ds.length = xs.length → (∀ (t : Nat) v x d, vs[t]? = some v → xs[t]? = some x → ds[t]? = some d → isOwn d = true → VA w0 w R ρ v x) →
    (ownVals ds vs).length = (pickOwn true ds xs).length ∧ ∀ (t : Nat) v x, (ownVals ds vs)[t]? = some v → (pickOwn true ds xs)[t]? = some x → VA w0 w R ρ v x
  | [], [], [], _, _, _ => ⟨rfl, fun t v x h => by simp [ownVals] at h⟩
  | [], _ :: _, _, _, h, _ => by simp at h
  | _ :: _, [], _, _, h, _ => by simp at h
  | _, [], _ :: _, h, _, _ => by simp at h
  | _, _ :: _, [], h, _, _ => by simp at h
  | d :: ds, x :: xs, v :: vs, h1, h2, h3 => by
    obtain ⟨g1, g2⟩ := ownVals_get (by simpa using h1) (by simpa using h2) (fun t u z d' hu hz hd ho => h3 (t + 1) u z d' (by simpa using hu) (by simpa using hz) (by simpa using hd) ho)
    cases ho : isOwn d with
    | true =>
      have e1 : ownVals (d :: ds) (v :: vs) = v :: ownVals ds vs := by simp [ownVals, ho]
      have e2 : pickOwn true (d :: ds) (x :: xs) = x :: pickOwn true ds xs := by simp [pickOwn, ho]
      rw [e1, e2]
      refine ⟨by simp [g1], fun t u z hu hz => ?_⟩
      match t with
      | 0 => simp at hu hz; subst hu; subst hz; exact h3 0 _ _ d rfl rfl rfl ho
      | t + 1 => exact g2 t u z (by simpa using hu) (by simpa using hz)
    | false =>
      have e1 : ownVals (d :: ds) (v :: vs) = ownVals ds vs := by simp [ownVals, ho]
      have e2 : pickOwn true (d :: ds) (x :: xs) = pickOwn true ds xs := by simp [pickOwn, ho]
      rw [e1, e2]; exact ⟨g1, g2⟩
theorem VA1s_tup {rs : List (Value × AVal)} {zs : List AVal} (hl : zs.length = rs.length) (h : ∀ (t : Nat) p y, rs[t]? = some p → zs[t]? = some y → VA1 w0 w R ρ p.1 y) :
    VA w0 w R ρ (.tuple (rs.map (·.1)).toArray) (.tup zs) :=
  ⟨(rs.map (·.1)).toArray, rfl, by simp [hl], fun i u x hu hx => by
    simp only [List.getElem?_toArray, List.getElem?_map, Option.map_eq_some_iff] at hu
    obtain ⟨p, hp, rfl⟩ := hu
    exact h i p x hp hx⟩
theorem instRes_one {v : AVal} (hv : ∀ vs, v ≠ .tup vs) (j : Nat) : instRes v j = instArg v j := by
  cases v <;> first | rfl | exact absurd rfl (hv _)
theorem inst_res {rs : List (Value × AVal)} {v : AVal} {C : Nat → Prop} {j : Nat} (h : SR w0 B Io R ρ Fr st a w) (hf : ∀ t, j ≤ t → t < (instList (resList v) j).2.2 → Fr t) (hr : rs.map (·.2) = resList v) (hr' : tupOf (rs.map (·.2)) = v) (hg : GLe gw w0) (hc : ALs gw w R rs C) (hS : Fits R B Io st ρ w C) :
    ∃ ρ', Inst w0 B Io R ρ Fr st a w j (instRes v j).2.2 C (instRes v j).2.1 ρ' ∧ VA w0 w R ρ' (tupV (rs.map (·.1))) (instRes v j).1 := by
  obtain ⟨ρ', g1, g2, g3⟩ := inst_list (i := j) h (hr ▸ hf) hg hc hS
  match rs, hr, hr', hc, g1, g2, g3 with
  | [], hr, hr', hc, g1, g2, g3 =>
    simp [tupOf] at hr'
    subst hr'
    refine ⟨ρ', g1, VA1s_tup (rs := []) rfl fun t p y hp => by simp at hp⟩
  | [p], hr, hr', hc, g1, g2, g3 =>
    simp [tupOf] at hr'
    subst hr'
    have hv : ∀ vs, p.2 ≠ .tup vs := by
      intro vs e
      have hr : [p.2] = resList p.2 := hr
      rw [e] at hr
      have hr : [AVal.tup vs] = vs := hr
      have := congrArg (fun l : List AVal => SizeOf.sizeOf l) hr
      simp at this
      omega
    have e : instList ([p].map (·.2)) j = ([(instArg p.2 j).1], (instArg p.2 j).2.1, (instArg p.2 j).2.2) := by simp [instList]
    rw [e] at g1 g2 g3
    rw [instRes_one hv]
    exact ⟨ρ', g1, .of1 (g3 0 p _ rfl rfl)⟩
  | p :: q :: rs, hr, hr', hc, g1, g2, g3 =>
    have e : v = .tup ((p :: q :: rs).map (·.2)) := by rw [← hr']; rfl
    subst e
    exact ⟨ρ', g1, VA1s_tup (rs := p :: q :: rs) g2 g3⟩
structure EnvOk (P : Program) (env : Nat → Option Callee) : Prop where
  ok : ∀ g cl, env g = some cl → CalleeOk P g cl
  enter : ∀ g cl, env g = some cl → ∀ args w, (callFunc g args).run P w = .ok (.enter g args) w
theorem prsOf_nil_of {xs : List AVal} (h : (idsOf st xs).isEmpty = true) : prsOf st xs = [] := by
  have := prsOf_map (st := st) xs
  rw [List.isEmpty_iff.1 h] at this
  simpa using this
theorem Blks_mem_ob {qs : List (Nat × Option Nat)} {b : Nat} (h : SR w0 B Io R ρ Fr st a w) (hb : Blks st ρ qs b) : ∃ q ∈ qs, ∃ o p, st.ob q.1 = some o ∧ ρ q.1 = some p ∧ blkO p b := by
  obtain ⟨q, hq, hb⟩ := hb
  obtain ⟨o, p, h1, h2, h3⟩ := blkR_obj h hb
  exact ⟨q, hq, o, p, h1, h2, h3⟩
theorem SR.kf {qs : List (Nat × Option Nat)} (h : SR w0 B Io R ρ Fr st a w) : KF w w0.F w.heap.size (Blks st ρ qs) where
  st := fun b hb => by
    obtain ⟨q1, q2⟩ := h.f0.st b hb
    refine ⟨Nat.lt_of_lt_of_le q1 h.size0, fun hb' => ?_⟩
    obtain ⟨q, hq, o', p, f1, f2, f3⟩ := Blks_mem_ob h hb'
    rcases (h.own _ o' p b f1 f2 f3).2.2 with q3 | q3
    · omega
    · exact q2 q3
  ng := h.f0.ng
  tt := TT.congr (fun b hb => h.frame b (h.f0.st b (h.f0.ng b hb)).1 (h.f0.st b (h.f0.ng b hb)).2) h.f0.tt
theorem dels_ob (ids : List Nat) (st : St) (id : Nat) : (st.obs (ids.map fun i => (i, none))).ob id = if id ∈ ids then none else st.ob id := by
  induction ids generalizing st with
  | nil => rfl
  | cons i ids ih =>
    show (({ st with ob := fun j => if j = i then none else st.ob j } : St).obs (ids.map fun i => (i, none))).ob id = _
    rw [ih]
    by_cases h1 : id ∈ ids
    · simp [h1]
    · by_cases h2 : id = i
      · simp [h2]
      · simp [h1, h2]
theorem resCell_sub (hs : Sub s st) {fl : Bool} {x y : AVal} (he : resCell s fl x = some y) : resCell st fl x = some y := by
  cases x <;> try exact he
  rename_i id row win
  rcases hs.ob id with e | e
  · cases fl <;> simp [resCell, full, e] at he
  · cases fl <;> simpa only [resCell, full, e] using he
theorem resCells_sub (hs : Sub s st) {fl : Bool} : ∀ {xs ys : List AVal}, resCells s fl xs = some ys → resCells st fl xs = some ys
  | [], ys, he => he
  | x :: xs, ys, he => by
    simp only [resCells] at he ⊢
    split at he
    · rename_i y h1
      split at he
      · rename_i ys' h2
        cases he
        rw [resCell_sub hs h1, resCells_sub hs h2]
      · cases he
    · cases he
theorem resArg_sub (hs : Sub s st) {fl : Bool} {x y : AVal} (he : resArg s fl x = some y) : resArg st fl x = some y ∧ ownArg s x = ownArg st x := by
  have cell : (∀ cs, x ≠ .agg cs) → (∀ id c, x ≠ .ptr id c) → resArg st fl x = some y ∧ ownArg s x = ownArg st x := by
    intro h1 h2
    have e1 : ∀ u : St, resArg u fl x = resCell u fl x := fun u => by cases x <;> first | rfl | exact absurd rfl (h1 _) | exact absurd rfl (h2 _ _)
    have e2 : ∀ u : St, ownArg u x = ownIds [x] := fun u => by cases x <;> first | rfl | exact absurd rfl (h1 _) | exact absurd rfl (h2 _ _)
    rw [e1] at he ⊢
    exact ⟨resCell_sub hs he, by rw [e2, e2]⟩
  cases x
  case agg cs =>
    simp only [resArg] at he ⊢
    split at he
    · rename_i ys h1
      cases he
      rw [resCells_sub hs h1]
      exact ⟨rfl, rfl⟩
    · cases he
  case ptr id c =>
    cases c with
    | succ c => simp [resArg] at he
    | zero =>
      simp only [resArg, ownArg] at he ⊢
      rcases hs.ob id with e | e
      · simp [e] at he
      · rw [e] at he ⊢
        refine ⟨?_, rfl⟩
        split at he
        · rename_i cs hcs
          split at he
          · rename_i ys h1
            cases he
            simp only [resCells_sub hs h1]
          · cases he
        · cases he
  all_goals exact cell (by simp) (by simp)
theorem resArgs_sub (hs : Sub s st) : ∀ {fl : List Bool} {xs ds : List AVal}, resArgs s fl xs = some ds → resArgs st fl xs = some ds ∧ ∀ b, idsOf s (pickOwn b ds xs) = idsOf st (pickOwn b ds xs)
  | fl, [], ds, he => by cases fl <;> (cases he; exact ⟨rfl, fun b => rfl⟩)
  | fl, x :: xs, ds, he => by
    have eq : ∀ u : St, resArgs u fl (x :: xs) = match resArg u (fl.headD false) x with
      | some y => match resArgs u fl.tail xs with
        | some ys => some (y :: ys)
        | none => none
      | none => none := fun u => by cases fl <;> rfl
    rw [eq] at he ⊢
    split at he
    · rename_i y h1
      split at he
      · rename_i ys h2
        cases he
        obtain ⟨g1, g2⟩ := resArg_sub hs h1
        obtain ⟨g3, g4⟩ := resArgs_sub hs h2
        rw [g1, g3]
        refine ⟨rfl, fun b => ?_⟩
        simp only [pickOwn]
        split
        · simp only [idsOf, g2, g4]
        · exact g4 b
      · cases he
    · cases he
theorem backCell_sub (hs : Sub s st) {x y : AVal} {os : List (Nat × Option Obj)} (he : backCell s x y = some os) : backCell st x y = some os := by
  cases x <;> try exact he
  rename_i id row win
  rcases hs.ob id with e | e
  · cases row <;> cases win <;> cases y <;> simp [backCell, e] at he ⊢
    exact he
  · cases row <;> cases win <;> cases y <;> simpa only [backCell, e] using he
theorem backCells_sub (hs : Sub s st) : ∀ {xs ys : List AVal} {os : List (Nat × Option Obj)}, backCells s xs ys = some os → backCells st xs ys = some os
  | [], [], os, he => he
  | [], _ :: _, os, he => by cases he
  | _ :: _, [], os, he => by cases he
  | x :: xs, y :: ys, os, he => by
    simp only [backCells] at he ⊢
    split at he
    · rename_i o1 h1
      split at he
      · rename_i o2 h2
        cases he
        rw [backCell_sub hs h1, backCells_sub hs h2]
      · cases he
    · cases he
theorem backArg_sub (hs : Sub s st) {x y : AVal} {i : Nat} {r : List (Nat × Option Obj) × Nat} (he : backArg s x y i = some r) : backArg st x y i = some r := by
  unfold backArg at he ⊢
  split at he
  · exact he
  · exact he
  · split at he
    · rename_i o1 h1
      rw [backCells_sub hs h1]; exact he
    · cases he
  · split at he
    · rename_i o1 h1
      rw [backCell_sub hs h1]; exact he
    · cases he
theorem backArgs_sub (hs : Sub s st) : ∀ {xs ys : List AVal} {i : Nat} {r : List (Nat × Option Obj) × Nat}, backArgs s xs ys i = some r → backArgs st xs ys i = some r
  | [], [], i, r, he => he
  | [], _ :: _, i, r, he => by cases he
  | _ :: _, [], i, r, he => by cases he
  | x :: xs, y :: ys, i, r, he => by
    simp only [backArgs] at he ⊢
    split at he
    · rename_i o1 j1 h1
      split at he
      · rename_i o2 j2 h2
        cases he
        rw [backArg_sub hs h1]
        simp only [backArgs_sub hs h2]
      · cases he
    · cases he
theorem call_core {c : Callee} {g ib : Nat} {vs us : List Value} {ds own ro : List AVal} {o : Oper} {F R2 : Nat → Prop} {x : c.X} {y : c.Y} {os ns : List (Nat × Option Obj)} {j j' : Nat} {z : AVal}
    (h : SR w0 B Io R ρ Fr st a w) (hf : ∀ i, Own ib i → Fr i)
    (hc : CalleeOk P g c) (hn : (idsOf st own).Nodup) (hdis : ∀ i ∈ idsOf st ro, i ∉ idsOf st own) (hlen : (vs ++ us).length = ds.length) (hgl : us.length = c.gp.length) (hgb : us ≠ [] → vs.length ≤ c.gb)
    (hR : ∀ b, R b → R2 b) (hR2 : ∀ b, R2 b → R b ∨ Blks st ρ (prsOf st ro) b)
    (hals : ALs ⟨w, R2, parG vs us c.gb, F⟩ w R2 ((vs ++ us).zip ds) (Blks st ρ (prsOf st own))) (hF : KF w F w.heap.size (Blks st ρ (prsOf st own)))
    (ho1 : (ownVals ds (vs ++ us)).length = own.length) (ho2 : ∀ (t : Nat) v x, (ownVals ds (vs ++ us))[t]? = some v → own[t]? = some x → VA w0 w R ρ v x)
    (hinn : c.inn ds = some x) (hG : c.G x = some y) (hfree : ((roFree (resList (c.out y).1) && roFree (c.out y).2) || (idsOf st ro).isEmpty) = true)
    (hback : backArgs st own (c.out y).2 ib = some (os, j)) (hz : instRes (c.out y).1 j = (z, ns, j')) (hj : j' ≤ ib + 16)
    (hr : (execOp a.eval o).run P w = .ok (.enter g vs.toArray) w) : OpOk P w0 B Io Fr ib st a w o ⟨z, (idsOf st own).map (fun i => (i, none)) ++ (os ++ ns)⟩ := by
  have hIo2 : ∀ b, Blks st ρ (prsOf st own) b → b < w.heap.size ∧ ¬ R b ∧ (B ≤ b ∨ Io b) := fun b hb => by
    obtain ⟨q, hq, o', p, g1, g2, g3⟩ := Blks_mem_ob h hb
    exact h.own _ o' p b g1 g2 g3
  have hRo : ∀ b, Blks st ρ (prsOf st ro) b → b < w.heap.size ∧ ¬ Blks st ρ (prsOf st own) b := fun b hb => by
    obtain ⟨q, hq, o', p, g1, g2, g3⟩ := Blks_mem_ob h hb
    refine ⟨(h.own _ o' p b g1 g2 g3).1, fun hb' => ?_⟩
    obtain ⟨q', hq', o2, p2, f1, f2, f3⟩ := Blks_mem_ob h hb'
    have h1 : q.1 ∈ idsOf st ro := by rw [← prsOf_map]; exact List.mem_map_of_mem hq
    have h2 : q'.1 ∈ idsOf st own := by rw [← prsOf_map]; exact List.mem_map_of_mem hq'
    exact h.sep q.1 o' q'.1 o2 p p2 b (fun e => hdis _ h1 (by rw [e]; exact h2)) g1 f1 g2 f2 g3 f3
  have hcall := hc w R2 (Blks st ρ (prsOf st own)) F vs us ds x y hlen hgl hgb hals hF
    (fun b hb => ⟨(hIo2 b hb).1, fun hb' => ((hR2 b hb').elim (hIo2 b hb).2.1 fun hb' => (hRo b hb').2 hb)⟩) (fun b hb => (hR2 b hb).elim (h.rlt b) fun hb => (hRo b hb).1) hinn hG
  intro next Q hn'
  unfold Oper.wp
  rw [hr, Oper.upon_enter]
  refine Calls.mono hcall fun e w' he => ?_
  obtain ⟨rs, rfl, hrs, hrs', hlen, R', hals', hRR, hR', hsame, hsize, hquiet⟩ := he
  show next _ _
  apply hn'
  obtain ⟨R3, hals3, hr3a, hr3b, hr3c⟩ : ∃ R3 : Nat → Prop, ALs (gnil w) w' R3 (rs ++ (ownVals ds (vs ++ us)).zip (c.out y).2) (fun b => b < w'.heap.size ∧ ¬ R' b ∧ (Blks st ρ (prsOf st own) b ∨ w.heap.size ≤ b)) ∧
      (∀ b, R b → R3 b) ∧ (∀ b, R3 b → b < w'.heap.size ∧ (R b ∨ (Blks st ρ (prsOf st own) b ∨ w.heap.size ≤ b))) ∧ ∀ b, R3 b → R' b := by
    rcases Bool.or_eq_true_iff.1 hfree with hfr | hro0
    · rw [Bool.and_eq_true] at hfr
      refine ⟨R, ALs.free (fun p hp => ?_) hals', fun b hb => hb, fun b hb => ⟨Nat.lt_of_lt_of_le (h.rlt b hb) hsize, .inl hb⟩, fun b hb => hRR b (hR b hb)⟩
      rcases List.mem_append.1 hp with hp | hp
      · exact roFree_mem hfr.1 (by rw [← hrs]; exact List.mem_map_of_mem hp)
      · exact roFree_mem hfr.2 (List.of_mem_zip (show (p.1, p.2) ∈ _ from hp)).2
    · have e := prsOf_nil_of hro0
      refine ⟨R', hals', fun b hb => hRR b (hR b hb), fun b hb => ⟨(hR' b hb).1, ?_⟩, fun b hb => hb⟩
      rcases (hR' b hb).2 with hb' | hb'
      · rcases hR2 b hb' with hb' | hb'
        · exact .inl hb'
        · rw [e] at hb'; obtain ⟨q, hq, _⟩ := hb'; simp at hq
      · exact .inr hb'
  clear hals'
  -- the state without what was handed over
  have hk0 := h.dels (idsOf st own)
  have hlive0 : ∀ b, Live (st.obs ((idsOf st own).map fun i => (i, none))) ρ b → ∃ id o' p, id ∉ idsOf st own ∧ st.ob id = some o' ∧ ρ id = some p ∧ blkO p b := by
    rintro b ⟨id, o', p, q1, q2, q3⟩
    rw [dels_ob] at q1
    split at q1
    · cases q1
    · rename_i hid; exact ⟨id, o', p, hid, q1, q2, q3⟩
  have hap0 : ∀ b, Blks st ρ (prsOf st own) b → ¬ Live (st.obs ((idsOf st own).map fun i => (i, none))) ρ b := fun b hb hlv => by
    obtain ⟨id, o', p, q1, q2, q3, q4⟩ := hlive0 b hlv
    obtain ⟨q', hq', o2, p2, f1, f2, f3⟩ := Blks_mem_ob h hb
    have h2 : q'.1 ∈ idsOf st own := by rw [← prsOf_map]; exact List.mem_map_of_mem hq'
    exact h.sep id o' q'.1 o2 p p2 b (fun e => q1 (by rw [e]; exact h2)) q2 f1 q3 f2 q4 f3
  have hk1 := hk0.world (w' := w') (C := Blks st ρ (prsOf st own)) (fun b hb => ⟨(hIo2 b hb).2.1, (hIo2 b hb).2.2, hap0 b hb⟩) (fun b hb hb' => hsame b hb hb') hsize hquiet
  have hk2 := hk1.growR (R2 := R3) hr3a (fun b hb => ⟨(hr3b b hb).1, fun hlv => by
    obtain ⟨id, o', p, q1, q2, q3, q4⟩ := hlive0 b hlv
    obtain ⟨z1, z2, z3⟩ := h.own id o' p b q2 q3 q4
    rcases (hr3b b hb).2 with hb' | hb' | hb'
    · exact z2 hb'
    · exact hap0 b hb' hlv
    · omega⟩) fun b hb => (hr3b b hb).2.imp id fun hb' => hb'.elim (fun hb' => (hIo2 b hb').2.2) fun hb' => .inl (Nat.le_trans h.size0 hb')
  have ctx : Ctx w0 B Io R ρ Fr st a w w' (Blks st ρ (prsOf st own)) R3 := ⟨h, hr3a, hsame, hsize, fun b hb => (hIo2 b hb).2.1, fun b hb => (hr3b b hb).2⟩
  have bk0 : Bk w0 B Io R ρ st a w w' (Blks st ρ (prsOf st own)) R3 ρ Fr (st.obs ((idsOf st own).map fun i => (i, none))) := ⟨hk2, .refl _, fun id o' p b q1 q2 q3 => by
    refine .inr ⟨fun hb => hap0 b hb ⟨id, o', p, q1, q2, q3⟩, ?_⟩
    rw [dels_ob] at q1
    split at q1
    · cases q1
    · exact ⟨o', p, q1, q2, q3⟩⟩
  have hfit : ∀ b, (b < w'.heap.size ∧ ¬ R' b ∧ (Blks st ρ (prsOf st own) b ∨ w.heap.size ≤ b)) → (b < w'.heap.size ∧ ¬ R3 b ∧ (B ≤ b ∨ Io b)) ∧ ¬ Live (st.obs ((idsOf st own).map fun i => (i, none))) ρ b := by
    rintro b ⟨q1, q2, q3⟩
    refine ⟨⟨q1, fun hb => q2 (hr3c b hb), ?_⟩, fun hlv => ?_⟩
    · rcases q3 with q3 | q3
      · exact (hIo2 b q3).2.2
      · exact .inl (Nat.le_trans h.size0 q3)
    · rcases q3 with q3 | q3
      · exact hap0 b q3 hlv
      · obtain ⟨id, o', p, _, z2, z3, z4⟩ := hlive0 b hlv
        have := (h.own id o' p b z2 z3 z4).1
        omega
  obtain ⟨C1, C2, hA1, hA2, hA3, hA4⟩ := hals3.split
  have hjle := backArgs_le hback
  have hjj : j ≤ (instList (resList (c.out y).1) j).2.2 := instList_le _ _
  have hj2 : (instList (resList (c.out y).1) j).2.2 ≤ j' := by
    have : (instRes (c.out y).1 j).2.2 = j' := by rw [hz]
    rw [← this]
    cases (c.out y).1 <;> first | exact Nat.le_refl _ | (simp [instRes, resList, instList])
  obtain ⟨ρ1, bk1, le1, _, lv1⟩ := back_args ctx bk0 (i := ib) (j := j) (fun t q1 q2 => hf t ⟨q1, by omega⟩) ho1 ho2 hA2 ⟨fun b hb => hfit b (hA4 b (.inr hb)), fun b hb => (hA4 b (.inr hb)).2.2⟩ hback
    (other_of h (by rw [prsOf_map]; exact hn))
  obtain ⟨ρ2, in2, hva⟩ := inst_res (j := j) bk1.sr (fun t q1 q2 => ⟨hf t ⟨by omega, by omega⟩, fun e => by omega⟩) hrs hrs' (GLe.nil w w0) hA1 (fun b hb => ⟨(hfit b (hA4 b (.inl hb))).1, fun hlv => by
    rcases lv1 b hlv with q | q | q
    · exact (hfit b (hA4 b (.inl hb))).2 q
    · exact hA3 b hb q
    · rcases (hA4 b (.inl hb)).2.2 with q' | q'
      · exact q.1 q'
      · have := q.2; omega⟩)
  rw [hz] at in2 hva
  dsimp only at in2 hva
  have hij := in2.ij
  refine ⟨R3, ρ2, ?_⟩
  rw [app_obs, obs_append, obs_append]
  exact (in2.sr.put o.dst hva).weaken fun t ht => ⟨⟨ht.1, fun e => ht.2 ⟨e.1, by omega⟩⟩, fun e => ht.2 ⟨by omega, by omega⟩⟩
theorem callA_sound {c : Callee} {g ib : Nat} {α : Type} {k : Delta → Option α} {r : α} {xs : List AVal} {vs : List Value} {o : Oper} (h : SR w0 B Io R ρ Fr st a w) (hs : Sub s st) (hf : ∀ i, Own ib i → Fr i)
    (hc : CalleeOk P g c) (hgp : c.gp = []) (hl : vs.length = xs.length) (hv : ∀ (i : Nat) v x, vs[i]? = some v → xs[i]? = some x → VA w0 w R ρ v x) (hr : (execOp a.eval o).run P w = .ok (.enter g vs.toArray) w)
    (he : callA c ib s xs k = some r) : ∃ d, k d = some r ∧ OpOk P w0 B Io Fr ib st a w o d := by
  unfold callA at he
  split at he
  · cases he
  rename_i ds hds
  obtain ⟨hds, hids⟩ := resArgs_sub hs hds
  simp only [hids] at he
  split at he
  · cases he
  rename_i hcond
  rw [Bool.and_eq_true] at hcond
  have hn := of_decide_eq_true hcond.1
  have hdis : ∀ i ∈ idsOf st (pickOwn false ds xs), i ∉ idsOf st (pickOwn true ds xs) := fun i hi => by
    have := List.all_eq_true.1 hcond.2 i hi
    simpa using this
  split at he
  · cases he
  rename_i x hinn
  obtain ⟨y, hG, he⟩ := Option.bind_eq_some_iff.1 he
  rw [c.law] at he
  split at he
  · cases he
  rename_i hfree
  split at he
  · cases he
  rename_i os j hback
  have hback := backArgs_sub hs hback
  generalize hz : instRes (c.out y).1 j = zz at he
  obtain ⟨z, ns, j'⟩ := zz
  dsimp only at he
  split at he
  rotate_left
  · cases he
  rename_i hj
  have hj := of_decide_eq_true hj
  refine ⟨_, he, ?_⟩
  clear he
  obtain ⟨hdl, hals⟩ := resArgs_sound (gw := ⟨w, fun b => R b ∨ Blks st ρ (prsOf st (pickOwn false ds xs)) b, parG vs [] c.gb, w0.F⟩) (R2 := fun b => R b ∨ Blks st ρ (prsOf st (pickOwn false ds xs)) b) h (fun b hb => .inl hb) hl hv hds hn fun b hb => .inr hb
  obtain ⟨ho1, ho2⟩ := ownVals_get (ρ := ρ) (w0 := w0) (w := w) (R := R) (ds := ds) hl hdl fun t v x d h1 h2 _ _ => hv t v x h1 h2
  exact call_core (us := []) (F := w0.F) h hf hc hn hdis (by simp [hl, hdl]) (by rw [hgp]; rfl) (fun h => absurd rfl h) (fun b hb => .inl hb) (fun b hb => hb) (by simpa using hals) h.kf (by simpa using ho1) (by simpa using ho2) hinn hG hfree hback hz hj hr
def ArgR (w0 : W0) (w : World) (R : Nat → Prop) (ρ : Nat → Option Pl) (v : Value) (x : Arg) : Prop := VA w0 w R ρ v x.1 ∧ ∀ q, x.2 = some q → w0.par q = some v
def PathV (w : World) (V : List Value) (u : Value) : GP → Prop
  | .cell k c => ∃ b off, V[k]? = some (.pointer (some ⟨b, off, none⟩)) ∧ cellAt w b (off + c) = some u ∧ u.oneCell' = true
  | .cap k c => ∃ f cs, V[k]? = some (.func f #[] cs) ∧ cs[c]? = some u
def ArgsR (w0 : W0) (w : World) (R : Nat → Prop) (ρ : Nat → Option Pl) (V : List Value) (L : List Arg) : Prop :=
  V.length = L.length ∧ ∀ (i : Nat) v x, V[i]? = some v → L[i]? = some x → ArgR w0 w R ρ v x
theorem PathV.app {V U : List Value} {u : Value} {p : GP} (h : PathV w V u p) : PathV w (V ++ U) u p := by
  cases p with
  | cell k c =>
    obtain ⟨b, off, h1, h2⟩ := h
    exact ⟨b, off, by rw [List.getElem?_append_left (lt_of_get h1)]; exact h1, h2⟩
  | cap k c =>
    obtain ⟨f, cs, h1, h2⟩ := h
    exact ⟨f, cs, by rw [List.getElem?_append_left (lt_of_get h1)]; exact h1, h2⟩
theorem ArgsR.val {V : List Value} {L : List Arg} (h : ArgsR w0 w R ρ V L) {k : Nat} {x : Arg} (hx : L[k]? = some x) : ∃ v, V[k]? = some v ∧ ArgR w0 w R ρ v x := by
  have hk : k < V.length := by rw [h.1]; exact lt_of_get hx
  exact ⟨V[k], List.getElem?_eq_getElem hk, h.2 k _ x (List.getElem?_eq_getElem hk) hx⟩
theorem guest1_sound (h : SR w0 B Io R ρ Fr st a w) (hs : Sub s st) {V : List Value} {L : List Arg} (hr : ArgsR w0 w R ρ V L) {p : GP} {x : Arg} (e : guest1 s L p = some x) : ∃ u, ArgR w0 w R ρ u x ∧ PathV w V u p := by
  cases p with
  | cell k c =>
    simp only [guest1] at e
    split at e
    · rename_i id o hk
      obtain ⟨v, hv1, hv2, _⟩ := hr.val hk
      obtain ⟨b, off, g1, g2⟩ := hv2
      split at e
      · rename_i cs hob
        obtain ⟨q, hq, hoa⟩ := h.ob id _ (hs.obj hob)
        obtain ⟨b', off', arr, E, rfl, e2, e3⟩ := hoa
        rw [g1] at hq; cases hq
        split at e
        · rename_i y hy
          cases e
          obtain ⟨u, f1, f2⟩ := e3 c y hy
          exact ⟨u, ⟨VA.ofC f2, fun q hq => by cases hq⟩, b, off, by rw [hv1, g2]; simp, by rw [cellAt_of e2]; exact f1, f2.one⟩
        · cases e
      · cases e
    · rename_i ts o hk
      obtain ⟨v, hv1, hv2, _⟩ := hr.val hk
      obtain ⟨b, off, g1, g2, g3⟩ := hv2
      split at e
      · rename_i t ht
        obtain ⟨u, f1, f2, f3⟩ := g3 c t ht
        split at e
        · rename_i y hy
          cases e
          exact ⟨u, ⟨pvAt_spec h hs hy f2, fun q hq => by cases hq; exact f2⟩, b, off, by rw [hv1, g1]; simp, by rw [h.still g2]; exact f1, f3⟩
        · cases e
      · cases e
    · cases e
  | cap k c =>
    simp only [guest1] at e
    split at e
    · rename_i f caps o hk
      obtain ⟨v, hv1, hv2, _⟩ := hr.val hk
      obtain ⟨us, g1, g2, g3⟩ := hv2
      split at e
      · rename_i y hy
        cases e
        have hc : c < us.size := by rw [g2]; exact lt_of_get hy
        have hp := g3 c us[c] y (Array.getElem?_eq_getElem hc) hy
        refine ⟨us[c], ⟨?_, fun q hq => by cases hq⟩, _, us, by rw [hv1, g1], Array.getElem?_eq_getElem hc⟩
        cases y with
        | ptr id c' => exact VA.ofC hp
        | _ => exact hp.elim
      · cases e
    · rename_i f ts o hk
      obtain ⟨v, hv1, hv2, _⟩ := hr.val hk
      obtain ⟨us, g1, g2, g3⟩ := hv2
      split at e
      · rename_i t ht
        have hc : c < us.size := by rw [g2]; exact lt_of_get ht
        have hp := g3 c us[c] t (Array.getElem?_eq_getElem hc) ht
        split at e
        · rename_i y hy
          cases e
          exact ⟨us[c], ⟨pvAt_spec h hs hy hp, fun q hq => by cases hq; exact hp⟩, _, us, by rw [hv1, g1], Array.getElem?_eq_getElem hc⟩
        · cases e
      · cases e
    · cases e
theorem guests_sound (h : SR w0 B Io R ρ Fr st a w) (hs : Sub s st) : ∀ {ps : List GP} {L0 L : List Arg} {V : List Value}, ArgsR w0 w R ρ V L0 → guests s ps L0 = some L →
    ∃ us : List Value, us.length = ps.length ∧ ArgsR w0 w R ρ (V ++ us) L ∧ ∀ (n : Nat) p u, ps[n]? = some p → us[n]? = some u → PathV w (V ++ us) u p
  | [], L0, L, V, hr, e => by cases e; exact ⟨[], rfl, by simpa using hr, fun n p u hp => by simp at hp⟩
  | p :: ps, L0, L, V, hr, e => by
    simp only [guests] at e
    split at e
    · rename_i x hx
      obtain ⟨u, g1, g2⟩ := guest1_sound h hs hr hx
      obtain ⟨us, f1, f2, f3⟩ := guests_sound h hs (V := V ++ [u]) ⟨by simp [hr.1], fun i v y hv hy => by
        by_cases hi : i < V.length
        · rw [List.getElem?_append_left hi] at hv
          rw [List.getElem?_append_left (by rw [← hr.1]; exact hi)] at hy
          exact hr.2 i v y hv hy
        · rw [List.getElem?_append_right (by omega)] at hv
          rw [List.getElem?_append_right (by rw [← hr.1]; omega)] at hy
          rw [hr.1] at hv
          generalize i - L0.length = m at hv hy
          match m with
          | 0 => simp at hv hy; subst hv; subst hy; exact g1
          | m + 1 => simp at hv⟩ e
      have ea : V ++ [u] ++ us = V ++ u :: us := by simp
      rw [ea] at f2 f3
      refine ⟨u :: us, by simp [f1], f2, fun n q y hq hy => ?_⟩
      match n with
      | 0 => simp at hq hy; subst hq; subst hy; exact g2.app
      | n + 1 => exact f3 n q y (by simpa using hq) (by simpa using hy)
    · cases e
theorem pvArgs_sound (h : SR w0 B Io R ρ Fr st a w) (hs : Sub s st) : ∀ {ts : List Nat} {xs : List Arg} {us : List Value}, pvArgs s ts = some xs → us.length = ts.length → (∀ (i : Nat) u t, us[i]? = some u → ts[i]? = some t → w0.par t = some u) →
    xs.length = ts.length ∧ ∀ (i : Nat) u x, us[i]? = some u → xs[i]? = some x → ArgR w0 w R ρ u x
  | [], xs, us, e, hl, hp => by cases e; exact ⟨rfl, fun i u x _ hx => by simp at hx⟩
  | t :: ts, xs, us, e, hl, hp => by
    cases us with
    | nil => simp at hl
    | cons u us =>
      simp only [pvArgs] at e
      split at e
      · rename_i v hv
        split at e
        · rename_i vs hvs
          cases e
          obtain ⟨g1, g2⟩ := pvArgs_sound h hs hvs (by simpa using hl) (fun i u' t' h1 h2 => hp (i + 1) u' t' (by simpa using h1) (by simpa using h2))
          refine ⟨by simp [g1], fun i u' x h1 h2 => ?_⟩
          match i with
          | 0 =>
            simp at h1 h2; subst h1; subst h2
            have := hp 0 u t rfl rfl
            exact ⟨pvAt_spec h hs hv this, fun q hq => by cases hq; exact this⟩
          | i + 1 => exact g2 i u' x (by simpa using h1) (by simpa using h2)
        · cases e
      · cases e
theorem sameA_spec {v v' : Value} {x y : Arg} (hx : ArgR w0 w R ρ v x) (hy : ArgR w0 w R ρ v' y) (e : sameA x y = true) : v = v' := by
  unfold sameA at e
  split at e
  · have e := of_decide_eq_true e
    subst e
    have h1 := hx.2 _ rfl
    have h2 := hy.2 _ rfl
    rw [h1] at h2
    exact Option.some.inj h2
  · rw [Bool.and_eq_true] at e
    have e1 := of_decide_eq_true e.1
    have e2 := of_decide_eq_true e.2
    subst e1; subst e2
    obtain ⟨b, off, h1, h2⟩ := hx.1
    obtain ⟨b', off', h3, h4⟩ := hy.1
    rw [h1] at h3; cases h3
    rw [h2, h4]
  · cases e
theorem cellsOk_spec {gp : List GP} {gb : Nat} {L : List Arg} {x : Arg} : ∀ {ts : List Nat} {j : Nat}, cellsOk gp gb L x ts j = true → ∀ (k t : Nat), ts[k]? = some t → gb ≤ t ∧ ∃ i y, gp[t - gb]? = some (.cell i (j + k)) ∧ L[i]? = some y ∧ sameA y x = true
  | [], j, e, k, t, ht => by simp at ht
  | t0 :: ts, j, e, k, t, ht => by
    simp only [cellsOk, Bool.and_eq_true] at e
    obtain ⟨⟨e1, e2⟩, e3⟩ := e
    match k with
    | 0 =>
      simp at ht; subst ht
      refine ⟨of_decide_eq_true e1, ?_⟩
      split at e2
      · rename_i i c hg
        rw [Bool.and_eq_true] at e2
        obtain ⟨e4, e5⟩ := e2
        have e4 := of_decide_eq_true e4
        subst e4
        split at e5
        · rename_i y hy
          exact ⟨i, y, hg, hy, e5⟩
        · cases e5
      · cases e2
    | k + 1 =>
      have := cellsOk_spec e3 k t (by simpa using ht)
      rwa [show j + (k + 1) = j + 1 + k by omega]
theorem capsOk_spec {gp : List GP} {gb i : Nat} : ∀ {ts : List Nat} {j : Nat}, capsOk gp gb i ts j = true → ∀ (k t : Nat), ts[k]? = some t → gb ≤ t ∧ gp[t - gb]? = some (.cap i (j + k))
  | [], j, e, k, t, ht => by simp at ht
  | t0 :: ts, j, e, k, t, ht => by
    simp only [capsOk, Bool.and_eq_true] at e
    obtain ⟨⟨e1, e2⟩, e3⟩ := e
    match k with
    | 0 =>
      simp at ht; subst ht
      refine ⟨of_decide_eq_true e1, ?_⟩
      split at e2
      · rename_i i' c hg
        rw [Bool.and_eq_true] at e2
        have e4 := of_decide_eq_true e2.1
        have e5 := of_decide_eq_true e2.2
        subst e4; subst e5
        exact hg
      · cases e2
    | k + 1 =>
      have := capsOk_spec e3 k t (by simpa using ht)
      rwa [show j + (k + 1) = j + 1 + k by omega]
theorem parG_guest {vs us : List Value} {gb t : Nat} {u : Value} (h : vs.length ≤ gb) (ht : gb ≤ t) (hu : us[t - gb]? = some u) : parG vs us gb t = some u := by
  unfold parG
  rw [List.getElem?_eq_none (by omega), if_pos ht]
  exact hu
theorem formOk_sound (h : SR w0 B Io R ρ Fr st a w) {gp : List GP} {gb : Nat} {vs us : List Value} {L : List Arg} {F : Nat → Prop} (full : ArgsR w0 w R ρ (vs ++ us) L) (hgl : us.length = gp.length) (hgb : us ≠ [] → vs.length ≤ gb)
    (hp : ∀ (n : Nat) p u, gp[n]? = some p → us[n]? = some u → PathV w (vs ++ us) u p) (hF1 : ∀ b, w0.F b → F b) {i : Nat} {x : Arg} {v : Value} {d : AVal} (hv : (vs ++ us)[i]? = some v) (hx : L[i]? = some x)
    (hF2 : ∀ id c b off, x.1 = .ptr id c → ρ id = some (.box b off) → F b) (e : formOk s gp gb L i x d = true) :
    AT ⟨w, R2, parG vs us gb, F⟩ w R2 v (fun _ => False) d ∧ isOwn d = false := by
  have hxv := full.2 i v x hv hx
  have guest : ∀ t p, gb ≤ t → gp[t - gb]? = some p → ∃ u, parG vs us gb t = some u ∧ PathV w (vs ++ us) u p := fun t p ht hg => by
    have hlt : t - gb < us.length := by rw [hgl]; exact lt_of_get hg
    have hu := List.getElem?_eq_getElem hlt
    exact ⟨_, parG_guest (hgb (by intro e; subst e; simp at hlt)) ht hu, hp _ p _ hg hu⟩
  unfold formOk at e
  split at e
  · rename_i ts
    rw [Bool.and_eq_true] at e
    obtain ⟨e1, e2⟩ := e
    refine ⟨?_, rfl⟩
    obtain ⟨b, off, hvv, hFb⟩ : ∃ b off, v = .pointer (some ⟨b, off, none⟩) ∧ F b := by
      have hx1 := hxv.1
      unfold isBoxP at e1
      split at e1
      · rename_i id hxe
        rw [hxe] at hx1
        obtain ⟨b, off, g1, g2⟩ := hx1
        exact ⟨b, off, by simpa using g2, hF2 id 0 b off hxe g1⟩
      · rename_i us' hxe
        rw [hxe] at hx1
        obtain ⟨b, off, g1, g2, _⟩ := hx1
        exact ⟨b, off, by simpa using g1, hF1 b g2⟩
      · cases e1
    refine ⟨b, off, by simpa using hvv, hFb, fun k t ht => ?_⟩
    obtain ⟨q1, i', y, q2, q3, q4⟩ := cellsOk_spec e2 k t ht
    obtain ⟨u, p1, b', off', p2, p3, p4⟩ := guest t _ q1 q2
    obtain ⟨v', r1, r2⟩ := full.val q3
    have := sameA_spec r2 hxv q4
    subst this
    rw [r1] at p2
    have p2 := Option.some.inj p2
    rw [hvv] at p2
    simp only [Value.pointer.injEq, Option.some.injEq, Addr.mk.injEq] at p2
    obtain ⟨rfl, rfl, _⟩ := p2
    rw [Nat.zero_add] at p3
    exact ⟨u, p3, p1, p4⟩
  · rename_i f ts
    refine ⟨?_, rfl⟩
    obtain ⟨cs, hvv, hcs, hok⟩ : ∃ cs : Array Value, v = .func (.func f) #[] cs ∧ cs.size = ts.length ∧ capsOk gp gb i ts 0 = true := by
      have hx1 := hxv.1
      split at e
      · rename_i g caps hxe
        rw [hxe] at hx1
        obtain ⟨cs, g1, g2, _⟩ := hx1
        simp only [Bool.and_eq_true] at e
        have e1 := of_decide_eq_true e.1
        have e2 := of_decide_eq_true e.2.1
        subst e1
        exact ⟨cs, g1, by rw [g2, e2], e.2.2⟩
      · rename_i g us' hxe
        rw [hxe] at hx1
        obtain ⟨cs, g1, g2, _⟩ := hx1
        simp only [Bool.and_eq_true] at e
        have e1 := of_decide_eq_true e.1
        have e2 := of_decide_eq_true e.2.1
        subst e1
        exact ⟨cs, g1, by rw [g2, e2], e.2.2⟩
      · cases e
    refine ⟨cs, hvv, hcs, fun k u t hu ht => ?_⟩
    obtain ⟨q1, q2⟩ := capsOk_spec hok k t ht
    obtain ⟨u', p1, f', cs', p2, p3⟩ := guest t _ q1 q2
    rw [hv] at p2
    have p2 := Option.some.inj p2
    rw [hvv] at p2
    simp only [Value.func.injEq] at p2
    obtain ⟨_, _, rfl⟩ := p2
    rw [Nat.zero_add, hu] at p3
    cases p3
    exact p1
  · cases e
theorem formArgs_sub (hs : Sub s st) {gp : List GP} {gb : Nat} {L : List Arg} : ∀ {L' : List Arg} {ds : List AVal} {i : Nat} {fs : List (Option AVal)} {os : List Bool}, formArgs s gp gb L i fs os L' = some ds →
    ∀ b, idsOf s (pickOwn b ds (formless fs L')) = idsOf st (pickOwn b ds (formless fs L'))
  | [], ds, i, fs, os, e, b => by cases e; rfl
  | x :: L', ds, i, fs, os, e, b => by
    simp only [formArgs] at e
    split at e
    · rename_i d hd
      split at e
      · split at e
        · rename_i ys hys
          cases e
          have ih := formArgs_sub hs hys b
          have e1 : formless fs (x :: L') = .nils :: formless fs.tail L' := by simp only [formless, hd]
          rw [e1]
          simp only [pickOwn]
          split
          · rw [idsOf_cons, idsOf_cons, ih]; rfl
          · exact ih
        · cases e
      · cases e
    · rename_i hd
      split at e
      · rename_i y hy
        split at e
        · rename_i ys hys
          cases e
          have ih := formArgs_sub hs hys b
          have e1 : formless fs (x :: L') = x.1 :: formless fs.tail L' := by simp only [formless, hd]
          rw [e1]
          simp only [pickOwn]
          split
          · rw [idsOf_cons, idsOf_cons, ih, (resArg_sub hs hy).2]
          · exact ih
        · cases e
      · cases e
theorem formArgs_sound (h : SR w0 B Io R ρ Fr st a w) (hs : Sub s st) (hr : ∀ b, R b → R2 b) {gp : List GP} {gb : Nat} {vs us : List Value} {L : List Arg} {F : Nat → Prop} (full : ArgsR w0 w R ρ (vs ++ us) L) (hgl : us.length = gp.length) (hgb : us ≠ [] → vs.length ≤ gb)
    (hp : ∀ (n : Nat) p u, gp[n]? = some p → us[n]? = some u → PathV w (vs ++ us) u p) (hF1 : ∀ b, w0.F b → F b) :
    ∀ {L' : List Arg} {ds : List AVal} {V' : List Value} {i : Nat} {fs : List (Option AVal)} {os : List Bool}, V'.length = L'.length → (∀ j, V'[j]? = (vs ++ us)[i + j]?) → (∀ j, L'[j]? = L[i + j]?) → (∀ id ∈ formIds fs L', ∀ b off, ρ id = some (.box b off) → F b) →
      formArgs s gp gb L i fs os L' = some ds → (idsOf st (pickOwn true ds (formless fs L'))).Nodup → (∀ b, Blks st ρ (prsOf st (pickOwn false ds (formless fs L'))) b → R2 b) →
      ds.length = L'.length ∧ ALs ⟨w, R2, parG vs us gb, F⟩ w R2 (V'.zip ds) (Blks st ρ (prsOf st (pickOwn true ds (formless fs L')))) ∧
        ∀ (t : Nat) v x d, V'[t]? = some v → (formless fs L')[t]? = some x → ds[t]? = some d → isOwn d = true → VA w0 w R ρ v x
  | [], ds, V', i, fs, os, hl, hV, hL, hF2, e, hn, hb => by
    cases e
    exact ⟨rfl, ⟨fun _ _ => False, fun i p hp => by simp at hp, fun _ _ _ _ h => h.elim, fun _ _ h => h.elim⟩, fun t v x d _ _ hd => by simp at hd⟩
  | x :: L', ds, V', i, fs, os, hl, hV, hL, hF2, e, hn, hb => by
    cases V' with
    | nil => simp at hl
    | cons v V' =>
      have hv0 : (vs ++ us)[i]? = some v := by have := hV 0; simpa using this.symm
      have hx0 : L[i]? = some x := by have := hL 0; simpa using this.symm
      have hxv := full.2 i v x hv0 hx0
      have hVt : ∀ j, V'[j]? = (vs ++ us)[(i + 1) + j]? := fun j => by
        have := hV (j + 1)
        rw [show i + (j + 1) = i + 1 + j by omega] at this
        simpa using this
      have hLt : ∀ j, L'[j]? = L[(i + 1) + j]? := fun j => by
        have := hL (j + 1)
        rw [show i + (j + 1) = i + 1 + j by omega] at this
        simpa using this
      simp only [formArgs] at e
      split at e
      · rename_i d hd
        split at e
        · rename_i hok
          split at e
          · rename_i ys hys
            cases e
            have e1 : formless fs (x :: L') = .nils :: formless fs.tail L' := by simp only [formless, hd]
            have e2 : ∀ id c, x.1 = .ptr id c → id ∈ formIds fs (x :: L') := fun id c hx => by
              simp only [formIds, hd, hx]; simp
            obtain ⟨q1, q2⟩ := formOk_sound (R2 := R2) h full hgl hgb hp hF1 hv0 hx0 (fun id c b off hx hρ => hF2 id (e2 id c hx) b off hρ) hok
            rw [e1] at hn hb ⊢
            have p1 : pickOwn true (d :: ys) (.nils :: formless fs.tail L') = pickOwn true ys (formless fs.tail L') := by simp [pickOwn, q2]
            have p2 : pickOwn false (d :: ys) (.nils :: formless fs.tail L') = .nils :: pickOwn false ys (formless fs.tail L') := by simp [pickOwn, q2]
            rw [p1] at hn ⊢
            rw [p2] at hb
            obtain ⟨g1, g2, g3⟩ := formArgs_sound h hs hr full hgl hgb hp hF1 (by simpa using hl) hVt hLt (fun id hid => hF2 id (by simp only [formIds]; exact List.mem_append_right _ hid)) hys hn (fun b ⟨q, hq, hb'⟩ => hb b ⟨q, List.mem_append_right _ hq, hb'⟩)
            refine ⟨by simp [g1], .cons q1 g2 (fun b h1 _ => h1) (fun b h => h.elim (fun h => h.elim) id), fun t v' x' d' h1 h2 h3 h4 => ?_⟩
            match t with
            | 0 => simp at h3; subst h3; rw [q2] at h4; cases h4
            | t + 1 => exact g3 t v' x' d' (by simpa using h1) (by simpa using h2) (by simpa using h3) h4
          · cases e
        · cases e
      · rename_i hd
        split at e
        · rename_i y hy
          split at e
          · rename_i ys hys
            cases e
            have hy := (resArg_sub hs hy).1
            have e1 : formless fs (x :: L') = x.1 :: formless fs.tail L' := by simp only [formless, hd]
            rw [e1] at hn hb ⊢
            have hF3 : ∀ id ∈ formIds fs.tail L', ∀ b off, ρ id = some (.box b off) → F b := fun id hid => hF2 id (by simp only [formIds]; exact List.mem_append_right _ hid)
            cases ho : isOwn y with
            | true =>
              have p1 : pickOwn true (y :: ys) (x.1 :: formless fs.tail L') = x.1 :: pickOwn true ys (formless fs.tail L') := by simp [pickOwn, ho]
              have p2 : pickOwn false (y :: ys) (x.1 :: formless fs.tail L') = pickOwn false ys (formless fs.tail L') := by simp [pickOwn, ho]
              rw [p1] at hn ⊢
              rw [p2] at hb
              rw [idsOf_cons] at hn
              obtain ⟨g1, g2, g3⟩ := formArgs_sound h hs hr full hgl hgb hp hF1 (by simpa using hl) hVt hLt hF3 hys (List.nodup_append.1 hn).2.1 hb
              refine ⟨by simp [g1], .cons ((resArg_own h hxv.1 hy (.inl ho) (List.nodup_append.1 hn).1).mono (.refl _ _) hr (fun _ _ => rfl)) g2 (fun b h1 h2 => Blks_apart h (by rw [prsOf_map]; exact hn) h1 h2) ?_, fun t v' x' d' h1 h2 h3 h4 => ?_⟩
              · rintro b (⟨q, hq, hb'⟩ | ⟨q, hq, hb'⟩)
                · exact ⟨q, List.mem_append_left _ hq, hb'⟩
                · exact ⟨q, List.mem_append_right _ hq, hb'⟩
              · match t with
                | 0 => simp at h1 h2; subst h1; subst h2; exact hxv.1
                | t + 1 => exact g3 t v' x' d' (by simpa using h1) (by simpa using h2) (by simpa using h3) h4
            | false =>
              have p1 : pickOwn true (y :: ys) (x.1 :: formless fs.tail L') = pickOwn true ys (formless fs.tail L') := by simp [pickOwn, ho]
              have p2 : pickOwn false (y :: ys) (x.1 :: formless fs.tail L') = x.1 :: pickOwn false ys (formless fs.tail L') := by simp [pickOwn, ho]
              rw [p1] at hn ⊢
              rw [p2] at hb
              obtain ⟨g1, g2, g3⟩ := formArgs_sound h hs hr full hgl hgb hp hF1 (by simpa using hl) hVt hLt hF3 hys hn (fun b ⟨q, hq, hb'⟩ => hb b ⟨q, List.mem_append_right _ hq, hb'⟩)
              refine ⟨by simp [g1], .cons (resArg_ro h hr hxv.1 hy ho (fun b ⟨q, hq, hb'⟩ => hb b ⟨q, List.mem_append_left _ hq, hb'⟩)) g2 (fun b h1 _ => h1) (fun b h => h.elim (fun h => h.elim) id), fun t v' x' d' h1 h2 h3 h4 => ?_⟩
              match t with
              | 0 => simp at h1 h2; subst h1; subst h2; exact hxv.1
              | t + 1 => exact g3 t v' x' d' (by simpa using h1) (by simpa using h2) (by simpa using h3) h4
          · cases e
        · cases e
theorem formless_len : ∀ (fs : List (Option AVal)) (L : List Arg), (formless fs L).length = L.length
  | _, [] => by simp [formless]
  | fs, x :: L => by simp [formless, formless_len fs.tail L]
theorem formIds_ob (hs : Sub s st) {gp : List GP} {gb : Nat} {L : List Arg} : ∀ {L' : List Arg} {ds : List AVal} {i : Nat} {fs : List (Option AVal)} {os : List Bool}, formArgs s gp gb L i fs os L' = some ds →
    ∀ id ∈ formIds fs L', ∃ o, st.ob id = some o
  | [], ds, i, fs, os, e, id, hid => by simp [formIds] at hid
  | x :: L', ds, i, fs, os, e, id, hid => by
    simp only [formArgs] at e
    simp only [formIds] at hid
    split at e
    · rename_i d hd
      split at e
      · rename_i hok
        split at e
        · rename_i ys hys
          rcases List.mem_append.1 hid with hid | hid
          · rw [hd] at hid
            unfold formOk at hok
            split at hok
            · rw [Bool.and_eq_true] at hok
              have h1 := hok.1
              unfold isBoxP at h1
              split at h1
              · rename_i id' hxe
                rw [hxe] at hid
                simp at hid
                subst hid
                split at h1
                · rename_i cs hob
                  exact ⟨_, hs.obj hob⟩
                · cases h1
              · rename_i hxe; rw [hxe] at hid; simp at hid
              · cases h1
            · split at hok
              · rename_i hxe; rw [hxe] at hid; simp at hid
              · rename_i hxe; rw [hxe] at hid; simp at hid
              · cases hok
            · cases hok
          · exact formIds_ob hs hys id hid
        · cases e
      · cases e
    · rename_i hd
      split at e
      · split at e
        · rename_i ys hys
          rcases List.mem_append.1 hid with hid | hid
          · rw [hd] at hid; simp at hid
          · exact formIds_ob hs hys id hid
        · cases e
      · cases e
theorem callG_sound {c : Callee} {g ib na : Nat} {α : Type} {k : Delta → Option α} {r : α} {L0 : List Arg} {vs : List Value} {o : Oper} (h : SR w0 B Io R ρ Fr st a w) (hs : Sub s st) (hf : ∀ i, Own ib i → Fr i)
    (hc : CalleeOk P g c) (hna : vs.length = na) (hv : ArgsR w0 w R ρ vs L0) (hr : (execOp a.eval o).run P w = .ok (.enter g vs.toArray) w)
    (he : callG c ib s na L0 k = some r) : ∃ d, k d = some r ∧ OpOk P w0 B Io Fr ib st a w o d := by
  unfold callG at he
  split at he
  · cases he
  rename_i L hL
  obtain ⟨us, hu1, hu2, hu3⟩ := guests_sound h hs hv hL
  split at he
  · cases he
  rename_i ds hds
  have hids := formArgs_sub hs hds
  simp only [hids] at he
  split at he
  · cases he
  rename_i hcond
  simp only [Bool.and_eq_true] at hcond
  obtain ⟨hc1, hc2, hc3⟩ := hcond
  have hgb : us ≠ [] → vs.length ≤ c.gb := fun _ => by rw [hna]; exact of_decide_eq_true hc1
  have hn := of_decide_eq_true hc2
  have hall : ∀ i ∈ idsOf st (pickOwn false ds (formless c.fm L)) ++ formIds c.fm L, i ∉ idsOf st (pickOwn true ds (formless c.fm L)) := fun i hi => by
    have := List.all_eq_true.1 hc3 i hi
    simpa using this
  split at he
  · cases he
  rename_i x hinn
  obtain ⟨y, hG, he⟩ := Option.bind_eq_some_iff.1 he
  rw [c.law] at he
  split at he
  · cases he
  rename_i hfree
  split at he
  · cases he
  rename_i os j hback
  have hback := backArgs_sub hs hback
  generalize hz : instRes (c.out y).1 j = zz at he
  obtain ⟨z, ns, j'⟩ := zz
  dsimp only at he
  split at he
  rotate_left
  · cases he
  rename_i hj
  have hj := of_decide_eq_true hj
  refine ⟨_, he, ?_⟩
  clear he
  obtain ⟨hdl, hals, hva⟩ := formArgs_sound (R2 := fun b => R b ∨ Blks st ρ (prsOf st (pickOwn false ds (formless c.fm L))) b) (F := fun b => w0.F b ∨ ∃ id ∈ formIds c.fm L, ∃ off, ρ id = some (.box b off) ∧ ∃ o, st.ob id = some o) h hs (fun b hb => .inl hb) hu2 hu1 hgb hu3 (fun b hb => .inl hb)
    (L' := L) (V' := vs ++ us) (i := 0) hu2.1 (fun j => by rw [Nat.zero_add]) (fun j => by rw [Nat.zero_add]) (fun id hid b off hρ => .inr ⟨id, hid, off, hρ, formIds_ob hs hds id hid⟩) hds hn (fun b hb => .inr hb)
  have hlf : (formless c.fm L).length = L.length := formless_len _ _
  obtain ⟨ho1, ho2⟩ := ownVals_get (ρ := ρ) (w0 := w0) (w := w) (R := R) (ds := ds) (xs := formless c.fm L) (by rw [hlf]; exact hu2.1) (by rw [hlf]; exact hdl) hva
  exact call_core h hf hc hn (fun i hi => hall i (List.mem_append_left _ hi)) (by rw [hdl]; exact hu2.1) hu1 hgb (fun b hb => .inl hb) (fun b hb => hb) hals ⟨fun b hb => by
    rcases hb with hb | ⟨id, hid, off, hρ, o', hob⟩
    · exact h.kf.st b hb
    · refine ⟨(h.own id o' _ b hob hρ rfl).1, fun hb' => ?_⟩
      obtain ⟨q, hq, o2, p, f1, f2, f3⟩ := Blks_mem_ob h hb'
      have h2 : q.1 ∈ idsOf st (pickOwn true ds (formless c.fm L)) := by rw [← prsOf_map]; exact List.mem_map_of_mem hq
      exact h.sep id o' q.1 o2 _ p b (fun e => hall id (List.mem_append_right _ hid) (by rw [e]; exact h2)) hob f1 hρ f2 rfl f3, fun b hb => .inl (h.f0.ng b hb), (h.kf (qs := [])).tt⟩ ho1 ho2 hinn hG hfree hback hz hj hr
theorem ok_call {env : Nat → Option Callee} {ib : Nat} {α : Type} {k : Delta → Option α} {r : α} {o : Oper} {c : Call} {f : Operand} (henv : EnvOk P env) (h : SR w0 B Io R ρ Fr st a w) (hs : Sub s st) (hf : ∀ i, Own ib i → Fr i)
    (ho : o.op = .call c) (hc : c.callee = .value f) (he : evalOp P env ib s o k = some r) : ∃ d, k d = some r ∧ OpOk P w0 B Io Fr ib st a w o d := by
  unfold evalOp at he
  simp only [ho, hc] at he
  have run : ∀ {g : Nat} {us : Array Value} {cl : Callee}, env g = some cl → a.eval f = .func (.func g) #[] us → (execOp a.eval o).run P w = .ok (.enter g (c.args.toList.map a.eval ++ us.toList).toArray) w := by
    intro g us cl hcl hfv
    have := henv.enter g cl hcl (c.args.map a.eval ++ us) w
    have e : (c.args.toList.map a.eval ++ us.toList).toArray = c.args.map a.eval ++ us := by apply Array.ext'; simp
    rw [e]
    simpa [execOp, ho, resolve, hc, hfv, Deferred.ofValue, invoke] using this
  split at he
  · rename_i g caps hg
    split at he
    · rename_i cl hcl
      have hfv := h.evs hs f
      rw [hg] at hfv
      obtain ⟨us, hfv, hus, hpa⟩ := hfv
      have hfv : a.eval f = .func (.func g) #[] us := hfv
      have hl : (c.args.toList.map a.eval ++ us.toList).length = (c.args.toList.map (Go.OAI.ev s) ++ caps).length := by simp [hus]
      have hv : ∀ (i : Nat) v x, (c.args.toList.map a.eval ++ us.toList)[i]? = some v → (c.args.toList.map (Go.OAI.ev s) ++ caps)[i]? = some x → VA w0 w R ρ v x := fun i v x h1 h2 => by
        by_cases hi : i < c.args.toList.length
        · rw [List.getElem?_append_left (by simpa using hi)] at h1 h2
          simp only [List.getElem?_map, Option.map_eq_some_iff] at h1 h2
          obtain ⟨p, hp, rfl⟩ := h1
          obtain ⟨q, hq, rfl⟩ := h2
          rw [hp] at hq; cases hq
          exact h.evs hs p
        · rw [List.getElem?_append_right (by simpa using hi)] at h1 h2
          simp only [List.length_map] at h1 h2
          have := hpa _ v x (by simpa using h1) h2
          cases x with
          | ptr id c' => exact VA.ofC this
          | _ => exact this.elim
      split at he
      · rename_i hgp
        exact callA_sound h hs hf (henv.ok g cl hcl) hgp hl hv (run hcl hfv) he
      · refine callG_sound h hs hf (henv.ok g cl hcl) hl ⟨by rw [hl, List.length_map], fun i v x h1 h2 => ?_⟩ (run hcl hfv) he
        simp only [List.getElem?_map, Option.map_eq_some_iff] at h2
        obtain ⟨y, hy, rfl⟩ := h2
        exact ⟨hv i v y h1 hy, fun q hq => by cases hq⟩
    · cases he
  · rename_i g ts hg
    split at he
    · rename_i cl xs hcl hxs
      have hfv := h.evs hs f
      rw [hg] at hfv
      obtain ⟨us, hfv, hus, hpa⟩ := hfv
      have hfv : a.eval f = .func (.func g) #[] us := hfv
      obtain ⟨g1, g2⟩ := pvArgs_sound h hs hxs (us := us.toList) (by simp [hus]) (fun i u t h1 h2 => hpa i u t (by simpa using h1) h2)
      refine callG_sound h hs hf (henv.ok g cl hcl) (by simp [g1, hus]) ⟨by simp [g1, hus], fun i v x h1 h2 => ?_⟩ (run hcl hfv) he
      by_cases hi : i < c.args.toList.length
      · rw [List.getElem?_append_left (by simpa using hi)] at h1 h2
        simp only [List.getElem?_map, Option.map_eq_some_iff] at h1 h2
        obtain ⟨p, hp, rfl⟩ := h1
        obtain ⟨q, hq, rfl⟩ := h2
        rw [hp] at hq; cases hq
        exact ⟨h.evs hs p, fun q hq => by cases hq⟩
      · rw [List.getElem?_append_right (by simpa using hi)] at h1 h2
        simp only [List.length_map] at h1 h2
        exact g2 _ v x h1 h2
    · cases he
  · cases he
variable {P : Program} {w0 : W0} {gw : W0} {w w' : World} {B : Nat} {Io R : Nat → Prop} {ρ ρ' : Nat → Option Pl} {Fr : Nat → Prop} {st s : St} {a : Act}
theorem killC_CA {id : Nat} {v : Value} {x : AVal} (hx : CA w0 w R ρ v x) : CA w0 w R ρ v (killC id x) := by
  unfold killC
  split
  · split
    · exact hx.one
    · exact hx
  · split
    · exact hx.one
    · exact hx
  · exact hx
theorem killA_VA1 {id : Nat} {v : Value} {x : AVal} (hx : VA1 w0 w R ρ v x) : VA1 w0 w R ρ v (killA id x) := by
  cases x
  case agg cs =>
    obtain ⟨us, h1, h2, h3⟩ := hx
    refine ⟨us, h1, by simp [h2], fun i u y hu hy => ?_⟩
    simp only [List.getElem?_map, Option.map_eq_some_iff] at hy
    obtain ⟨z, hz, rfl⟩ := hy
    exact killC_CA (h3 i u z hu hz)
  case undef => exact trivial
  all_goals exact VA1.ofC (killC_CA (id := id) (VA1.toC (by simp) (by simp) hx))
theorem killV_VA {id : Nat} {v : Value} {x : AVal} (hx : VA w0 w R ρ v x) : VA w0 w R ρ v (killV id x) := by
  cases x
  case tup xs =>
    obtain ⟨us, h1, h2, h3⟩ := hx
    refine ⟨us, h1, by simp [h2], fun i u y hu hy => ?_⟩
    simp only [List.getElem?_map, Option.map_eq_some_iff] at hy
    obtain ⟨z, hz, rfl⟩ := hy
    exact killA_VA1 (h3 i u z hu hz)
  all_goals exact VA.of1 (killA_VA1 (id := id) (VA.to1 (by simp) hx))
theorem killO_OA {id : Nat} {p : Pl} {o : Obj} (h : OA w0 w R ρ p o) : OA w0 w R ρ p (killO id o) := by
  cases o with
  | box cs =>
    obtain ⟨b, off, arr, E, h1, h2, h3⟩ := h
    refine ⟨b, off, arr, E, h1, h2, fun k x hx => ?_⟩
    simp only [List.getElem?_map, Option.map_eq_some_iff] at hx
    obtain ⟨z, hz, rfl⟩ := hx
    obtain ⟨u, g1, g2⟩ := h3 k z hz
    exact ⟨u, g1, killC_CA g2⟩
  | sl T l => exact h
  | mat T l => exact h
  | matH T l h0 o0 => exact h
theorem kill_ob {id i : Nat} {o : Obj} (h : (st.kill id).ob i = some o) : ∃ o', st.ob i = some o' ∧ o = killO id o' := by
  simp only [St.kill] at h
  split at h
  · rename_i o' ho'; cases h; exact ⟨o', ho', rfl⟩
  · cases h
theorem SR.kill (h : SR w0 B Io R ρ Fr st a w) (id : Nat) : SR w0 B Io R ρ Fr (st.kill id) a w where
  size := h.size
  dfr := h.dfr
  tm := fun t => killV_VA (h.tm t)
  ob := fun i o ho => by
    obtain ⟨o', h1, rfl⟩ := kill_ob ho
    obtain ⟨p, h2, h3⟩ := h.ob i o' h1
    exact ⟨p, h2, killO_OA h3⟩
  sep := fun i o1 j o2 p1 p2 b hij h1 h2 => by
    obtain ⟨o1', e1, _⟩ := kill_ob h1
    obtain ⟨o2', e2, _⟩ := kill_ob h2
    exact h.sep i o1' j o2' p1 p2 b hij e1 e2
  own := fun i o p b h1 => by
    obtain ⟨o', e1, _⟩ := kill_ob h1
    exact h.own i o' p b e1
  rlt := h.rlt
  frame := h.frame
  size0 := h.size0
  r0 := h.r0
  r1 := h.r1
  q := h.q
  par := h.par
  f0 := h.f0
  fr := h.fr
theorem killC_idem (id : Nat) (x : AVal) : killC id (killC id x) = killC id x := by
  cases x
  case sref j row win =>
    cases row with
    | none => rfl
    | some r => by_cases e : j = id <;> simp [killC, e]
  case eptr j row i c =>
    cases row with
    | none => rfl
    | some r => by_cases e : j = id <;> simp [killC, e]
  all_goals rfl
theorem killA_idem (id : Nat) (x : AVal) : killA id (killA id x) = killA id x := by
  cases x
  case agg cs => simp only [killA, List.map_map]; congr 1; exact List.map_congr_left fun y _ => killC_idem id y
  case sref j row win =>
    cases row with
    | none => rfl
    | some r => by_cases e : j = id <;> simp [killA, killC, e]
  case eptr j row i c =>
    cases row with
    | none => rfl
    | some r => by_cases e : j = id <;> simp [killA, killC, e]
  all_goals rfl
theorem killV_idem (id : Nat) (x : AVal) : killV id (killV id x) = killV id x := by
  cases x
  case tup vs => simp only [killV, List.map_map]; congr 1; exact List.map_congr_left fun y _ => killA_idem id y
  case agg cs => simp only [killV, killA, List.map_map]; congr 1; exact List.map_congr_left fun y _ => killC_idem id y
  case sref j row win =>
    cases row with
    | none => rfl
    | some r => by_cases e : j = id <;> simp [killV, killA, killC, e]
  case eptr j row i c =>
    cases row with
    | none => rfl
    | some r => by_cases e : j = id <;> simp [killV, killA, killC, e]
  all_goals rfl
theorem CA.swap {id : Nat} {v : Value} {x : AVal} (hx : CA w0 w R ρ v x) (hs : Same R w w') (hρ : ∀ j, j ≠ id → ρ' j = ρ j) (hpl : plS (ρ' id) none = plS (ρ id) none) (hb : ∀ b off, ρ id ≠ some (.box b off)) : CA w0 w' R ρ' v (killC id x) := by
  cases x
  case sref j row win =>
    obtain ⟨S, n, h1, h2⟩ := hx
    cases row with
    | none =>
      refine ⟨S, n, ?_, h2⟩
      by_cases e : j = id
      · subst e; rw [hpl]; exact h1
      · rw [hρ j e]; exact h1
    | some r =>
      simp only [killC]
      split
      · exact WV.one h2
      · rename_i e
        have e := of_decide_eq_false e
        exact ⟨S, n, by rw [hρ j e]; exact h1, h2⟩
  case eptr j row i c =>
    obtain ⟨S, n, b, off, h1, h2, h3, h4⟩ := hx
    cases row with
    | none =>
      refine ⟨S, n, b, off, ?_, h2, h3, h4⟩
      by_cases e : j = id
      · subst e; rw [hpl]; exact h1
      · rw [hρ j e]; exact h1
    | some r =>
      simp only [killC]
      split
      · show v.oneCell' = true
        subst h4; rfl
      · rename_i e
        have e := of_decide_eq_false e
        exact ⟨S, n, b, off, by rw [hρ j e]; exact h1, h2, h3, h4⟩
  case ptr j c =>
    obtain ⟨b, off, h1, h2⟩ := hx
    have e : j ≠ id := fun e => by subst e; exact hb b off h1
    exact ⟨b, off, by rw [hρ j e]; exact h1, h2⟩
  case vptr cs c =>
    obtain ⟨b, off, h1, h2, h3⟩ := hx
    refine ⟨b, off, h1, h2, fun k y hy => ?_⟩
    obtain ⟨u, g1, g2⟩ := h3 k y hy
    exact ⟨u, by rw [hs.cellAt h2]; exact g1, g2.mono hs (fun _ hb => hb)⟩
  case sl T l => exact RA.mono (a := .sl T l) hs (fun _ hb => hb) hx
  case fn f caps =>
    obtain ⟨us, h1, h2, h3⟩ := hx
    refine ⟨us, h1, h2, fun i u y hu hy => ?_⟩
    have hp := h3 i u y hu hy
    cases y with
    | ptr j c =>
      obtain ⟨b, off, g1, g2⟩ := hp
      have e : j ≠ id := fun e => by subst e; exact hb b off g1
      exact ⟨b, off, by rw [hρ j e]; exact g1, g2⟩
    | _ => exact hp.elim
  all_goals exact hx
theorem VA1.swap {id : Nat} {v : Value} {x : AVal} (hx : VA1 w0 w R ρ v x) (hs : Same R w w') (hρ : ∀ j, j ≠ id → ρ' j = ρ j) (hpl : plS (ρ' id) none = plS (ρ id) none) (hb : ∀ b off, ρ id ≠ some (.box b off)) : VA1 w0 w' R ρ' v (killA id x) := by
  cases x
  case agg cs =>
    obtain ⟨us, h1, h2, h3⟩ := hx
    refine ⟨us, h1, by simp [h2], fun i u y hu hy => ?_⟩
    simp only [List.getElem?_map, Option.map_eq_some_iff] at hy
    obtain ⟨z, hz, rfl⟩ := hy
    exact (h3 i u z hu hz).swap hs hρ hpl hb
  case undef => exact trivial
  all_goals exact VA1.ofC (CA.swap (VA1.toC (by simp) (by simp) hx) hs hρ hpl hb)
theorem VA.swap {id : Nat} {v : Value} {x : AVal} (hx : VA w0 w R ρ v x) (hs : Same R w w') (hρ : ∀ j, j ≠ id → ρ' j = ρ j) (hpl : plS (ρ' id) none = plS (ρ id) none) (hb : ∀ b off, ρ id ≠ some (.box b off)) : VA w0 w' R ρ' v (killV id x) := by
  cases x
  case tup xs =>
    obtain ⟨us, h1, h2, h3⟩ := hx
    refine ⟨us, h1, by simp [h2], fun i u y hu hy => ?_⟩
    simp only [List.getElem?_map, Option.map_eq_some_iff] at hy
    obtain ⟨z, hz, rfl⟩ := hy
    exact (h3 i u z hu hz).swap hs hρ hpl hb
  all_goals exact VA.of1 (VA1.swap (VA.to1 (by simp) hx) hs hρ hpl hb)
theorem SR.swapρ (h : SR w0 B Io R ρ Fr st a w) {id : Nat} {T : Ty} {l l' : List (List T.den)} {S : SPl} {n : Nat} {rows rows' : Nat → SPl × Nat} {N : Nat → Prop} (ho : st.ob id = some (.mat T l)) (hp : ρ id = some (.mat S n rows))
    (hk : st.kill id = st) (hsub : ∀ b, blkO (.mat S n rows') b → blkO (.mat S n rows) b ∨ N b)
    (hN : ∀ b, N b → b < w'.heap.size ∧ ¬ R b ∧ (B ≤ b ∨ Io b)) (hNsep : ∀ i o q b, i ≠ id → st.ob i = some o → ρ i = some q → N b → blkO q b → False)
    (hw : ∀ b, ¬ S.blk b → w'.heap[b]? = w.heap[b]?) (hz : w'.heap.size = w.heap.size) (hq : Quiet w w') (ho' : OA w0 w' R ρ (.mat S n rows') (.mat T l')) :
    SR w0 B Io R (fun i => if i = id then some (.mat S n rows') else ρ i) Fr (st.setOb id (some (.mat T l'))) a w' := by
  have hown := fun b hb => h.own id _ _ b ho hp hb
  have hR : Same R w w' := fun b hb => hw b fun hb' => (hown b (Or.inl hb')).2.1 hb
  have hρ : ∀ j, j ≠ id → (fun i => if i = id then some (Pl.mat S n rows') else ρ i) j = ρ j := fun j hj => by simp [hj]
  have hpl : plS ((fun i => if i = id then some (Pl.mat S n rows') else ρ i) id) none = plS (ρ id) none := by simp [hp, plS]
  have hb : ∀ b off, ρ id ≠ some (.box b off) := fun b off e => by rw [hp] at e; cases e
  have htm : ∀ t, killV id (st.tm t) = st.tm t := fun t => congrFun (congrArg St.tm hk) t
  have hob : ∀ i cs, st.ob i = some (.box cs) → cs.map (killC id) = cs := fun i cs hi => by
    have := congrFun (congrArg St.ob hk) i
    simp only [St.kill, hi, killO, Option.some.injEq, Obj.box.injEq] at this
    exact this
  refine { size := h.size, dfr := h.dfr, tm := fun t => ?_, ob := ?_, sep := ?_, own := ?_, rlt := ?_, frame := ?_, size0 := ?_, fr := ?_, r0 := h.r0, r1 := h.r1, q := h.q.trans hq, par := h.par, f0 := h.f0 }
  · have := (h.tm t).swap hR hρ hpl hb
    rw [htm] at this
    exact this
  · intro i o1 h1
    by_cases e : i = id
    · subst e
      simp only [St.setOb, if_true] at h1; cases h1
      exact ⟨_, by simp, ho'⟩
    · simp only [St.setOb, e, if_false] at h1
      obtain ⟨q, g1, g2⟩ := h.ob i o1 h1
      refine ⟨q, by simp [e, g1], ?_⟩
      have hbl : ∀ b, blkO q b → w'.heap[b]? = w.heap[b]? := fun b hb' => hw b fun hs => h.sep i o1 id _ q _ b e h1 ho g1 hp hb' (Or.inl hs)
      cases o1 with
      | box cs =>
        obtain ⟨b, off, arr, E, rfl, f2, f3⟩ := g2
        refine ⟨b, off, arr, E, rfl, by rw [hbl b rfl]; exact f2, fun k x hx => ?_⟩
        obtain ⟨u, q1, q2⟩ := f3 k x hx
        have := q2.swap hR hρ hpl hb
        have hc := hob i cs h1
        have : killC id x = x := by
          have := congrArg (·[k]?) hc
          simp only [List.getElem?_map, hx, Option.map_some, Option.some.injEq] at this
          exact this
        exact ⟨u, q1, by rw [← this]; exact q2.swap hR hρ hpl hb⟩
      | sl T' m =>
        exact OA.mono (ρ := ρ) hR (fun _ hb => hb) (.refl ρ) hbl (o := .sl T' m) g2
      | mat T' m =>
        exact OA.mono (ρ := ρ) hR (fun _ hb => hb) (.refl ρ) hbl (o := .mat T' m) g2
      | matH T' m h' o' =>
        obtain ⟨S3, rows3, g3, g4, g5, g6, g7, g8, g9, g10⟩ := OA.mono (ρ := ρ) (ρ' := ρ) hR (fun _ hb => hb) (.refl ρ) hbl (o := .matH T' m h' o') g2
        refine ⟨S3, rows3, g3, g4, g5, g6, g7, g8, g9, fun r hr => ?_⟩
        have := g10 r hr
        have e2 : o' ≠ id := fun e2 => by rw [e2, hp] at this; cases this
        rw [hρ o' e2]; exact this
  · intro i o1 j o2 p1 p2 b hij h1 h2 g1 g2 b1 b2
    have two : ∀ (i : Nat) o q b, i ≠ id → st.ob i = some o → ρ i = some q → blkO q b → blkO (.mat S n rows') b → False := fun i o q b hi ho1 hq1 hb1 hb2 => by
      rcases hsub b hb2 with hb2 | hb2
      · exact h.sep i o id _ q _ b hi ho1 ho hq1 hp hb1 hb2
      · exact hNsep i o q b hi ho1 hq1 hb2 hb1
    by_cases e : i = id
    · subst e
      have e' : ¬ j = i := fun h => hij h.symm
      simp only [St.setOb, e', if_false] at h2 g2
      simp only [if_true, Option.some.injEq] at g1
      subst g1
      exact two j o2 p2 b e' h2 g2 b2 b1
    · simp only [St.setOb, e, if_false] at h1 g1
      by_cases e' : j = id
      · subst e'
        simp only [if_true, Option.some.injEq] at g2
        subst g2
        exact two i o1 p1 b e h1 g1 b1 b2
      · simp only [St.setOb, e', if_false] at h2 g2
        exact h.sep i o1 j o2 p1 p2 b hij h1 h2 g1 g2 b1 b2
  · intro i o1 q b h1 g1 b1
    by_cases e : i = id
    · subst e
      simp only [if_true, Option.some.injEq] at g1
      subst g1
      rcases hsub b b1 with hb1 | hb1
      · rw [hz]; exact hown b hb1
      · exact hN b hb1
    · simp only [St.setOb, e, if_false] at h1 g1
      rw [hz]; exact h.own i o1 q b h1 g1 b1
  · intro b hb'; rw [hz]; exact h.rlt b hb'
  · intro b hb' hn
    rw [hw b fun hs => (hown b (Or.inl hs)).2.2.elim (fun h1 => by omega) hn]
    exact h.frame b hb' hn
  · rw [hz]; exact h.size0
  · intro i hi
    have : i ≠ id := fun e => by subst e; rw [h.fr i hi] at hp; cases hp
    simp only [this, if_false]; exact h.fr i hi
theorem killO_idem (id : Nat) (o : Obj) : killO id (killO id o) = killO id o := by
  cases o with
  | box cs => simp only [killO, List.map_map]; congr 1; exact List.map_congr_left fun y _ => killC_idem id y
  | _ => rfl
theorem kill_kill (st : St) (id : Nat) : (st.kill id).kill id = st.kill id := by
  have e1 : ((st.kill id).kill id).tm = (st.kill id).tm := funext fun t => killV_idem id _
  have e2 : ((st.kill id).kill id).ob = (st.kill id).ob := funext fun i => by
    simp only [St.kill]
    cases h : st.ob i with
    | none => simp
    | some o => simp [killO_idem]
  show St.mk _ _ _ _ _ = St.mk _ _ _ _ _
  congr 1
theorem kill_del (st : St) (id : Nat) (d : Option Nat) (h : st.kill id = st) : (st.delOb d).kill id = st.delOb d := by
  cases d with
  | none => exact h
  | some i =>
    have e1 : ((st.delOb (some i)).kill id).tm = (st.delOb (some i)).tm := by
      show (st.kill id).tm = st.tm
      rw [h]
    have e2 : ((st.delOb (some i)).kill id).ob = (st.delOb (some i)).ob := funext fun j => by
      simp only [St.kill, St.delOb, St.setOb]
      by_cases e : j = i
      · simp [e]
      · simp only [e, if_false]
        have := congrFun (congrArg St.ob h) j
        simpa [St.kill] using this
    show St.mk _ _ _ _ _ = St.mk _ _ _ _ _
    congr 1
theorem SR.delOb (h : SR w0 B Io R ρ Fr st a w) (d : Option Nat) : SR w0 B Io R ρ Fr (st.delOb d) a w := by
  cases d with
  | none => exact h
  | some i => exact h.del i
theorem rowOf_sound (h : SR w0 B Io R ρ Fr st a w) {v : Value} {x : AVal} (hx : VA w0 w R ρ v x) {U : Ty} {d : Option Nat} {m : List U.den} (he : rowOf st U x = some (d, m)) :
    ∃ S : SPl, v = .slice S.A m.length S.cap ∧ SlOwn w R U S m ∧ ((∀ b, ¬ S.blk b) ∨ ∃ id q, d = some id ∧ st.ob id ≠ none ∧ (∀ T l, st.ob id ≠ some (.mat T l)) ∧ ρ id = some q ∧ ∀ b, S.blk b → blkO q b) ∧
      (∀ id, d = some id → (∀ T l, st.ob id ≠ some (.mat T l)) ∧ st.ob id ≠ none) := by
  unfold rowOf at he
  split at he
  · cases he
    have hx : v = .slice none 0 0 := hx
    exact ⟨⟨none, 0, U.cells⟩, hx, ⟨rfl, by simp, fun h => absurd rfl h⟩, .inl fun b hb => absurd rfl hb.1, fun id e => by cases e⟩
  · rename_i id win
    split at he
    · rename_i V l hob
      split at he
      · rename_i hV
        subst hV
        cases he
        obtain ⟨S, n, hp, hw⟩ := hx
        obtain ⟨q, hq, S', rfl, hown⟩ := h.ob id _ hob
        rw [hq] at hp
        simp only [plS] at hp
        cases hp
        obtain ⟨A', x1, x2, x3⟩ := hw.open (c := l) rfl
        have hwl := winL_le hw (c := l) rfl
        have hne : (∀ T l', st.ob id ≠ some (.mat T l')) ∧ st.ob id ≠ none := ⟨fun T l' e => (by rw [hob] at e; cases e), (by rw [hob]; simp)⟩
        have hblk : ∀ b, (⟨A', S.cap - winOff win, V.cells⟩ : SPl).blk b → S.blk b := fun b hb => by
          obtain ⟨hc, off, e1⟩ := hb
          have hc' : winOff win < S.cap := by simp at hc; omega
          obtain ⟨b', off', arr, E', e1', _⟩ := hown.2.2 (by omega)
          refine ⟨by omega, off', ?_⟩
          simp only at e1
          rw [x3 hc', e1'] at e1
          simp [add_none] at e1
          rw [e1', e1.1]
        refine ⟨⟨A', S.cap - winOff win, V.cells⟩, x1, ⟨rfl, ?_, fun hc => ?_⟩, .inr ⟨id, _, rfl, hne.2, hne.1, hq, hblk⟩, fun id' e => by cases e; exact hne⟩
        · have := hown.2.1
          show (winL win l).length ≤ S.cap - winOff win
          omega
        · have hc' : winOff win < S.cap := by simp at hc; omega
          obtain ⟨b, off, arr, E', e1, e2, e3, e4⟩ := hown.2.2 (by omega)
          refine ⟨b, off + winOff win * V.cells, arr, E', by rw [x3 hc', e1, hown.1]; simp [add_none], e2, ?_, fun i y hy => ?_⟩
          · have : winOff win * V.cells + (S.cap - winOff win) * V.cells = S.cap * V.cells := by rw [← Nat.add_mul]; congr 1; omega
            show off + winOff win * V.cells + (S.cap - winOff win) * V.cells ≤ arr.size
            omega
          · have hy : (winL win l)[i]? = some y := hy
            have hget : l[winOff win + i]? = some y := by
              cases win with
              | none => simpa [winL, winOff] using hy
              | some p =>
                obtain ⟨o', n'⟩ := p
                simp only [winL, winOff] at hy ⊢
                have hj := lt_of_get hy
                rw [List.getElem?_take_of_lt (by simp at hj; omega), List.getElem?_drop] at hy
                exact hy
            obtain ⟨us, g1, g2⟩ := e4 _ y hget
            refine ⟨us, g1, fun c u hu => ?_⟩
            have := g2 c u hu
            rw [Nat.add_mul] at this
            rw [show off + winOff win * V.cells + (i * V.cells + c) = off + (winOff win * V.cells + i * V.cells + c) by omega]
            exact this
      · cases he
    · cases he
  · cases he
section
variable {α : Type} {ib : Nat} {o : Oper} {k : St → Option α} {r : α}
def StOk (P : Program) (w0 : W0) (B : Nat) (Io : Nat → Prop) (ib : Nat) (st' : St) (a : Act) (w : World) (o : Oper) : Prop :=
  ∀ (next : Act → World → Prop) (Q : Exit → Act → World → Prop),
    (∀ v w', (∃ R ρ, SR w0 B Io R ρ (fun i => ib + 16 ≤ i) st' (a.put o.dst v) w') → next (a.put o.dst v) w') → o.wp P a w next Q
theorem StOk.value {v : Value} (hr : (execOp a.eval o).run P w = .ok (.value v) w')
    (h : ∃ R ρ, SR w0 B Io R ρ (fun i => ib + 16 ≤ i) s (a.put o.dst v) w') : StOk P w0 B Io ib s a w o := by
  intro next Q hn
  unfold Oper.wp
  rw [hr]
  exact hn v w' h
theorem StOk.skip (hr : (execOp a.eval o).run P w = .ok .skip w')
    (h : ∃ R ρ, SR w0 B Io R ρ (fun i => ib + 16 ≤ i) s (a.put o.dst undef) w') : StOk P w0 B Io ib s a w o := by
  intro next Q hn
  unfold Oper.wp
  rw [hr]
  exact hn undef w' h
theorem storeRow_sound {T : TypeId} {p x : Operand} {id i : Nat} {U : Ty} {l : List (List U.den)} {d : Option Nat} {m : List U.den} (h : SR w0 B Io R ρ (fun i => ib ≤ i) st a w) (ho : o.op = .store T p x)
    (hp : ev st p = .eptr id none i 0) (hob : st.ob id = some (.mat U l)) (hn : sizeB P T = some 1) (hx : rowOf st U (ev st x) = some (d, m)) :
    StOk P w0 B Io ib ((((st.kill id).delOb d).setOb id (some (.mat U (l.set i m)))).put o.dst .undef) a w o := by
  have hpv := h.ev p
  rw [hp] at hpv
  obtain ⟨S, n', b, off, p1, p2, p3, p4⟩ := hpv
  obtain ⟨q, hq, S1, rows, rfl, m1, m2, m3, m4, m5, m6⟩ := h.ob id _ hob
  rw [hq] at p1
  simp only [plS] at p1
  cases p1
  have hc : S.cap ≠ 0 := by omega
  obtain ⟨b', off', arr, E, e1, e2, e3, e4⟩ := m3 hc
  rw [p2] at e1
  cases e1
  obtain ⟨S2, x1, x2, x3, x4⟩ := rowOf_sound h (h.ev x) hx
  have hd : d ≠ some id := fun e => by
    have := (x4 id e).1 U l
    exact this hob
  rw [m1, Nat.mul_one, Nat.add_zero] at p4
  have hrun := run_storeVar' (P := P) (T := T) (n := 1) (b := b) (off := off + i) (v := a.eval x) (arr := arr) (E := E) hn (by rw [x1]; rfl) (by rw [x1]; intro u hu; simp [Value.cells] at hu; subst hu; rfl) e2 (by omega)
  have hcells : (a.eval x).cells.toList = [.slice S2.A m.length S2.cap] := by rw [x1]; rfl
  rw [hcells] at hrun
  have hpg := patch_get (L := arr.toList) (q := off + i) (vs := [.slice S2.A m.length S2.cap]) (by simp; omega)
  have hSb : S.blk b := ⟨hc, off, p2⟩
  -- the state without what knew of the rows, and without the row's own object
  have h1 := (h.kill id).delOb d
  have hob1 : ((st.kill id).delOb d).ob id = some (.mat U l) := by
    cases d with
    | none => simp [St.delOb, St.kill, hob, killO]
    | some j =>
      have : ¬ id = j := fun e => hd (by rw [e])
      simp [St.delOb, St.setOb, this, St.kill, hob, killO]
  have hkk : ((st.kill id).delOb d).kill id = (st.kill id).delOb d := kill_del _ _ _ (kill_kill _ _)
  have hold : ∀ {j : Nat} {o : Obj}, ((st.kill id).delOb d).ob j = some o → d ≠ some j ∧ ∃ o', st.ob j = some o' := fun {j o} hj => by
    cases d with
    | none => obtain ⟨o', q1, _⟩ := kill_ob hj; exact ⟨by simp, o', q1⟩
    | some t =>
      simp only [St.delOb, St.setOb] at hj
      split at hj
      · cases hj
      · rename_i e
        obtain ⟨o', q1, _⟩ := kill_ob hj
        exact ⟨fun e' => e (by cases e'; rfl), o', q1⟩
  let rows' : Nat → SPl × Nat := fun j => if j = i then (S2, m.length) else rows j
  have hN : ∀ b, S2.blk b → b < w.heap.size ∧ ¬ R b ∧ (B ≤ b ∨ Io b) := fun b hb => by
    rcases x3 with g | ⟨j, q, g1, g2, g3, g4, g5⟩
    · exact absurd hb (g b)
    · obtain ⟨oj, hoj⟩ : ∃ oj, st.ob j = some oj := by
        cases hh : st.ob j with
        | none => exact absurd hh g2
        | some oj => exact ⟨oj, rfl⟩
      exact h.own j oj q b hoj g4 (g5 b hb)
  have hS2 : ∀ b, S2.blk b → S.blk b → False := fun b hb hb' => by
    rcases x3 with g | ⟨j, q, g1, g2, g3, g4, g5⟩
    · exact g b hb
    · obtain ⟨oj, hoj⟩ : ∃ oj, st.ob j = some oj := by
        cases hh : st.ob j with
        | none => exact absurd hh g2
        | some oj => exact ⟨oj, rfl⟩
      exact h.sep j oj id _ q _ b (fun e => hd (by rw [g1, e])) hoj hob g4 hq (g5 b hb) (Or.inl hb')
  have hS3 : ∀ b t, t < l.length → S2.blk b → (rows t).1.blk b → False := fun b t ht hb hb' => by
    rcases x3 with g | ⟨j, q, g1, g2, g3, g4, g5⟩
    · exact g b hb
    · obtain ⟨oj, hoj⟩ : ∃ oj, st.ob j = some oj := by
        cases hh : st.ob j with
        | none => exact absurd hh g2
        | some oj => exact ⟨oj, rfl⟩
      exact h.sep j oj id _ q _ b (fun e => hd (by rw [g1, e])) hoj hob g4 hq (g5 b hb) (Or.inr ⟨t, ht, hb'⟩)
  have hother : ∀ b', ¬ S.blk b' → (w.setRow b (patch arr.toList (off + i) [.slice S2.A m.length S2.cap]).toArray).heap[b']? = w.heap[b']? := fun b' hb' => setRow_other w b b' _ (fun e => hb' (e ▸ hSb))
  have hR : Same R w (w.setRow b (patch arr.toList (off + i) [.slice S2.A m.length S2.cap]).toArray) := fun b' hb' => hother b' fun hs => (h.own id _ _ b' hob hq (Or.inl hs)).2.1 hb'
  have h2 := h1.swapρ (id := id) (T := U) (l := l) (l' := l.set i m) (S := S) (n := l.length) (rows := rows) (rows' := rows') (N := S2.blk) (w' := w.setRow b (patch arr.toList (off + i) [.slice S2.A m.length S2.cap]).toArray) hob1 hq hkk
    (fun b' hb' => by
      rcases hb' with hb' | ⟨t, ht, hb'⟩
      · exact .inl (.inl hb')
      · by_cases e : t = i
        · simp only [rows', e, if_true] at hb'; exact .inr hb'
        · simp only [rows', e, if_false] at hb'; exact .inl (.inr ⟨t, ht, hb'⟩))
    (fun b' hb' => by rw [setRow_size]; exact hN b' hb')
    (fun j oj qj b' hj hoj hqj hb' hb'' => by
      obtain ⟨f1, o', f2⟩ := hold hoj
      rcases x3 with g | ⟨t, q, g1, g2, g3, g4, g5⟩
      · exact g b' hb'
      · obtain ⟨ot, hot⟩ : ∃ ot, st.ob t = some ot := by
          cases hh : st.ob t with
          | none => exact absurd hh g2
          | some ot => exact ⟨ot, rfl⟩
        exact h.sep t ot j o' q qj b' (fun e => f1 (by rw [g1, e])) hot f2 g4 hqj (g5 b' hb') hb'')
    hother (setRow_size _ _ _) (setRow_quiet _ _ _)
    ⟨S, rows', by simp, m1, by simpa using m2, fun _ => ⟨b, off, _, E, p2, setRow_heap w b arr _ E _ e2, by simp only [List.size_toArray]; rw [patch_length (by simp; omega)]; simpa using e3, fun t rr hrr => by
      rw [List.getElem?_toArray, hpg]
      by_cases ht : t = i
      · subst ht
        rw [List.getElem?_set_self p3] at hrr
        cases hrr
        rw [if_pos (by simp)]
        simp [rows']
      · rw [List.getElem?_set_ne (Ne.symm ht)] at hrr
        rw [if_neg (by simp; omega)]
        have := e4 t rr hrr
        simp only [rows', ht, if_false]
        simpa using this⟩, fun t rr hrr => by
      by_cases ht : t = i
      · subst ht
        rw [List.getElem?_set_self p3] at hrr
        cases hrr
        have er : rows' t = (S2, m.length) := by simp [rows']
        rw [er]
        exact ⟨rfl, x2.mono hR (fun _ hb => hb) fun b' hb' => hother b' fun hs => hS2 b' hb' hs⟩
      · rw [List.getElem?_set_ne (Ne.symm ht)] at hrr
        simp only [rows', ht, if_false]
        obtain ⟨y1, y2⟩ := m4 t rr hrr
        exact ⟨y1, y2.mono hR (fun _ hb => hb) fun b' hb' => hother b' fun hs => m6 t b' (lt_of_get hrr) hs hb'⟩, fun t1 t2 b' h1 h2 h3 h4 h5 => by
      simp only [List.length_set] at h1 h2
      by_cases a1 : t1 = i
      · have a2 : t2 ≠ i := fun e => h3 (by rw [a1, e])
        simp only [rows', a1, if_true] at h4
        simp only [rows', a2, if_false] at h5
        exact hS3 b' t2 h2 h4 h5
      · simp only [rows', a1, if_false] at h4
        by_cases a2 : t2 = i
        · simp only [rows', a2, if_true] at h5
          exact hS3 b' t1 h1 h5 h4
        · simp only [rows', a2, if_false] at h5
          exact m5 t1 t2 b' h1 h2 h3 h4 h5, fun t b' h1 h2 h3 => by
      simp only [List.length_set] at h1
      by_cases a1 : t = i
      · simp only [rows', a1, if_true] at h3
        exact hS2 b' h3 h2
      · simp only [rows', a1, if_false] at h3
        exact m6 t b' h1 h2 h3⟩
  refine .skip (run_store_op ho p4 hrun) ⟨R, _, (h2.undef o.dst undef).weaken fun i hi => ?_⟩
  show ib ≤ i
  have hi : ib + 16 ≤ i := hi
  omega
theorem buildRow_sound {T : TypeId} {ps : Array (Nat × Operand)} {x : Operand} {U : Ty} {zs : List AVal} {d : Option Nat} {m : List U.den} (h : SR w0 B Io R ρ (fun i => ib ≤ i) st a w) (ho : o.op = .buildSlice T 1 ps)
    (hps : ps.toList = [(0, x)]) (hE : elemTyS P T = some (.slice U)) (hZ : elemZero P T = some zs) (hx : rowOf st U (ev st x) = some (d, m)) :
    StOk P w0 B Io ib (((st.delOb d).setOb ib (some (.mat U [m]))).put o.dst (.sref ib none none)) a w o := by
  obtain ⟨e, hu, hz⟩ := elemTyS_spec hE
  have hZ' : zeroB P e = some zs := by unfold elemZero at hZ; rw [hu] at hZ; exact hZ
  obtain ⟨i, v, hi, hv, hrel⟩ := zeroB_rel hZ'
  obtain ⟨S2, x1, x2, x3, x4⟩ := rowOf_sound h (h.ev x) hx
  have hz1 : sizeB P e = some 1 := hz
  have hc1 : (a.eval x).cells.size = 1 := by rw [x1]; rfl
  obtain ⟨cells', f1, f2, f3, f4⟩ := fill_row 1 (ps.toList.map fun p => (p.1, a.eval p.2)) 0 ((Array.range (1 * 1)).map (v.cells[· % v.cells.size]!)) (fun j p hp => by
    rw [hps] at hp
    match j with
    | 0 => simp at hp; subst hp; exact ⟨rfl, hc1⟩
    | j + 1 => simp at hp) (by simp [hps])
  have hcell : cells'[0]? = some (.slice S2.A m.length S2.cap) := by
    have := f4 0 0 (0, a.eval x) (.slice S2.A m.length S2.cap) (by simp [hps]) (by rw [x1]; rfl)
    simpa using this
  have hrun : (execOp a.eval o).run P w = .ok (.value (.slice (some ⟨w.heap.size, 0, none⟩) 1 1)) (pushW w (.cells cells' e)) := by
    have hnot : ¬ (1 * 1 > 2 ^ 24) := by omega
    have h0 : ¬ (1 * 1 = 0) := by omega
    simp only [execOp, ho, Instr.buildSlice, Sem.run_bind, run_underlying' hu, Result.andThen_ok, run_sizeB hz1, if_neg hnot, if_neg h0, zeroValue, typeInfo, run_program, hi, hv, Array.toList_map, f1, Sem.run_pure]
    rfl
  have hg := pushW_grows w (.cells cells' e)
  have hold : ∀ {j : Nat} {o : Obj}, (st.delOb d).ob j = some o → d ≠ some j ∧ st.ob j = some o := fun {j o} hj => by
    cases d with
    | none => exact ⟨by simp, hj⟩
    | some t =>
      simp only [St.delOb, St.setOb] at hj
      split at hj
      · cases hj
      · rename_i e'
        exact ⟨fun e2 => e' (by cases e2; rfl), hj⟩
  have hS2 : ∀ b, S2.blk b → b < w.heap.size ∧ ¬ R b ∧ (B ≤ b ∨ Io b) := fun b hb => by
    rcases x3 with g | ⟨j, q, g1, g2, g3, g4, g5⟩
    · exact absurd hb (g b)
    · obtain ⟨oj, hoj⟩ : ∃ oj, st.ob j = some oj := by
        cases hh : st.ob j with
        | none => exact absurd hh g2
        | some oj => exact ⟨oj, rfl⟩
      exact h.own j oj q b hoj g4 (g5 b hb)
  have hlt := pushW_size w (.cells cells' e)
  have h1 := ((h.delOb d).grow hg (pushW_quiet _ _ _)).new (id := ib) (Nat.le_refl _) (o := .mat U [m]) (p := .mat ⟨some ⟨w.heap.size, 0, none⟩, 1, 1⟩ 1 fun _ => (S2, m.length))
    ⟨⟨some ⟨w.heap.size, 0, none⟩, 1, 1⟩, _, rfl, rfl, Nat.le_refl _, fun _ => ⟨w.heap.size, 0, cells', e, rfl, pushW_last w _, by simp [f2], fun t rr hrr => by
      match t with
      | 0 => simp at hrr; subst hrr; simpa using hcell
      | t + 1 => simp at hrr⟩, fun t rr hrr => by
      match t with
      | 0 => simp at hrr; subst hrr; exact ⟨rfl, x2.mono (fun b hb => hg b (h.rlt b hb)) (fun _ hb => hb) fun b hb => hg b (hS2 b hb).1⟩
      | t + 1 => simp at hrr, fun t1 t2 b h1 h2 h3 => by simp at h1 h2; omega, fun t b h1 h2 h3 => by
      obtain ⟨_, off, e1⟩ := h2; cases e1
      exact Nat.lt_irrefl _ (hS2 _ h3).1⟩
    (fun b hb => by
      rcases hb with ⟨_, off, e1⟩ | ⟨t, _, hb⟩
      · cases e1
        exact ⟨by omega, fun hR => Nat.lt_irrefl _ (h.rlt _ hR), Or.inl h.size0⟩
      · have := hS2 b hb
        exact ⟨by omega, this.2⟩)
    (fun j oj qj b hoj hqj hb hb' => by
      obtain ⟨q1, q2⟩ := hold hoj
      rcases hb with ⟨_, off, e1⟩ | ⟨t, _, hb⟩
      · cases e1
        exact Nat.lt_irrefl _ (h.own j oj qj _ q2 hqj hb').1
      · rcases x3 with g | ⟨t, q, g1, g2, g3, g4, g5⟩
        · exact g b hb
        · obtain ⟨ot, hot⟩ : ∃ ot, st.ob t = some ot := by
            cases hh : st.ob t with
            | none => exact absurd hh g2
            | some ot => exact ⟨ot, rfl⟩
          exact h.sep t ot j oj q qj b (fun e => q1 (by rw [g1, e])) hot q2 g4 hqj (g5 b hb) hb')
  refine .value hrun ⟨R, _, (h1.put o.dst (v := .slice (some ⟨w.heap.size, 0, none⟩) 1 1) (x := .sref ib none none) (VA.ofC ⟨⟨some ⟨w.heap.size, 0, none⟩, 1, 1⟩, 1, by simp [plS], rfl⟩)).weaken fun i hi => ?_⟩
  have hi : ib + 16 ≤ i := hi
  exact ⟨by show ib ≤ i; omega, by omega⟩
theorem append_raw {T e : TypeId} {x y : Operand} {i : TypeInfo} {z : Value} (hu : P.underlying T = some (.slice e)) (hi : P.info? e = some i) (hz : i.zero = some z) (hsz : i.size = 1) (hzc : z.cells.size = 1) (hby : i.bytes ≤ 128)
    {As Ax : Option Addr} {cap cx n m : Nat} {L1 L2 : List Value} (hx : a.eval x = .slice As n cap) (hy : a.eval y = .slice Ax m cx) (hl1 : L1.length = n) (hl2 : L2.length = m) (hone : ∀ u ∈ L2, u.oneCell' = true) (hn : n ≤ cap)
    (hL1 : cap ≠ 0 → ∃ b off arr E, As = some ⟨b, off, none⟩ ∧ w.heap[b]? = some (.cells arr E (0, 0)) ∧ off + cap ≤ arr.size ∧ ∀ t, t < n → arr[off + t]? = L1[t]?)
    (hL2 : m ≠ 0 → ∃ b off, Ax = some ⟨b, off, none⟩ ∧ ∀ t u, L2[t]? = some u → cellAt w b (off + t) = some u) (hb : n + m ≤ 1099511627776)
    (hrun : ∀ v w', (Builtin.append_ #[T, T] o.type #[a.eval x, a.eval y]).run P w = .ok v w' → (execOp a.eval o).run P w = .ok (.value v) w') :
    (∃ w', (execOp a.eval o).run P w = .ok (.value (.slice As (n + m) cap)) w' ∧ n + m ≤ cap ∧ Quiet w w' ∧ w'.heap.size = w.heap.size ∧ (∀ b, (∀ off, As = some ⟨b, off, none⟩ → cap = 0) → w'.heap[b]? = w.heap[b]?) ∧
      (cap ≠ 0 → ∃ b off arr E, As = some ⟨b, off, none⟩ ∧ w'.heap[b]? = some (.cells arr E (0, 0)) ∧ off + cap ≤ arr.size ∧ ∀ t, t < n + m → arr[off + t]? = (L1 ++ L2)[t]?)) ∨
    (∃ w' cap', (execOp a.eval o).run P w = .ok (.value (.slice (some ⟨w.heap.size, 0, none⟩) (n + m) cap')) w' ∧ n + m ≤ cap' ∧ Quiet w w' ∧ Grows w w' ∧ w.heap.size < w'.heap.size ∧
      ∃ arr E, w'.heap[w.heap.size]? = some (.cells arr E (0, 0)) ∧ cap' ≤ arr.size ∧ ∀ t, t < n + m → arr[t]? = (L1 ++ L2)[t]?) := by
  have hnew : ∀ w', w'.heap = w.heap → (Builtin.firstCells i.size m (.slice Ax m cx)).run P w' = .ok L2.toArray w' := fun w' hw' =>
    run_firstCells' (by rw [hl2, hsz, Nat.mul_one]) (fun hne => by
      obtain ⟨b, off, e1, e2⟩ := hL2 (by omega)
      refine ⟨b, off, e1, fun t u hu' => ?_⟩
      have := e2 t u hu'
      unfold cellAt World.cell? at this ⊢
      rw [hw']; exact this)
  have hold : ∀ w', w'.heap = w.heap → (Builtin.firstCells i.size n (.slice As n cap)).run P w' = .ok L1.toArray w' := fun w' hw' =>
    run_firstCells' (by rw [hl1, hsz, Nat.mul_one]) (fun hne => by
      obtain ⟨b, off, arr, E, e1, e2, e3, e4⟩ := hL1 (by omega)
      refine ⟨b, off, e1, fun t u hu' => ?_⟩
      have := e4 t (by have := lt_of_get hu'; omega)
      unfold cellAt World.cell?
      rw [hw', e2]
      simp only
      rw [this]; exact hu')
  by_cases hroom : n + m ≤ cap
  · left
    by_cases hc : cap = 0
    · have hm0 : m = 0 := by omega
      have hn0 : n = 0 := by omega
      have hLn : L2 = [] := List.eq_nil_of_length_eq_zero (by omega)
      subst hLn
      have hr := run_append_room' (P := P) (w := w) (ty := o.type) (As := As) hu hi hnew hroom (w' := w) (by cases As <;> simp [storeCells])
      rw [← hx, ← hy] at hr
      exact ⟨w, hrun _ _ hr, hroom, Quiet.refl w, rfl, fun _ _ => rfl, fun h => absurd hc h⟩
    · obtain ⟨b, off, arr, E, e1, e2, e3, e4⟩ := hL1 hc
      have hst := run_storeCells_at P b (off + n) E L2 0 arr w e2 (by omega) hone
      simp only [Nat.add_zero] at hst
      have hr := run_append_room' (P := P) (w := w) (ty := o.type) (As := As) hu hi hnew hroom (w' := w.setRow b (patch arr.toList (off + n) L2).toArray) (by
        rw [e1]
        simp only [add_none, hsz, Nat.mul_one]
        simpa [patch] using hst)
      rw [← hx, ← hy] at hr
      have hpg := patch_get (L := arr.toList) (q := off + n) (vs := L2) (by simp; omega)
      refine ⟨_, hrun _ _ hr, hroom, setRow_quiet _ _ _, setRow_size _ _ _, fun b' hb' => setRow_other w b b' _ (fun e => hc (hb' off (e ▸ e1))), fun _ => ⟨b, off, _, E, e1, setRow_heap w b arr _ E _ e2, ?_, fun t ht => ?_⟩⟩
      · simp only [List.size_toArray]
        rw [patch_length (by simp; omega)]; simpa using e3
      · rw [List.getElem?_toArray, hpg]
        by_cases a1 : t < n
        · rw [if_neg (by omega), List.getElem?_append_left (by omega), ← e4 t a1]; simp
        · rw [if_pos (by omega), List.getElem?_append_right (by omega), hl1]
          congr 1; omega
  · right
    have hg : cap < n + m := by omega
    have hfit : Builtin.nextslicecap (n + m) cap * i.bytes ≤ 281474976710656 := growslice_fits hg (by
      have : (n + m) * i.bytes ≤ 1099511627776 * 128 := Nat.mul_le_mul hb hby
      omega)
    have hr := run_append_grow' (P := P) (ty := o.type) hu hi hz hold hnew hg (by omega) hfit
    rw [← hx, ← hy] at hr
    have hge := grownCap_ge w (n + m) cap e
    refine ⟨_, _, hrun _ _ hr, hge, drew_alloc_quiet _ _ _, drew_alloc_grows _ _, by simp, _, e, heap_alloc_new w.drew _, ?_, fun t ht => ?_⟩
    · simp only [Array.size_append, List.size_toArray, size_zeroCells, hzc, hl1, hl2]
      omega
    · have ht' : t < (L1.toArray ++ L2.toArray).size := by simp; omega
      rw [Array.getElem?_append_left ht']
      simp
def MatAt (w : World) (R : Nat → Prop) (T : Ty) (S : SPl) (rows : Nat → SPl × Nat) (l : List (List T.den)) : Prop :=
  S.st = 1 ∧ l.length ≤ S.cap ∧
      (S.cap ≠ 0 → ∃ b off arr E, S.A = some ⟨b, off, none⟩ ∧ w.heap[b]? = some (.cells arr E (0, 0)) ∧ off + S.cap ≤ arr.size ∧
        ∀ i r, l[i]? = some r → arr[off + i]? = some (.slice (rows i).1.A r.length (rows i).1.cap)) ∧
      (∀ i r, l[i]? = some r → (rows i).2 = r.length ∧ SlOwn w R T (rows i).1 r) ∧
      (∀ i j b, i < l.length → j < l.length → i ≠ j → (rows i).1.blk b → (rows j).1.blk b → False) ∧
      (∀ i b, i < l.length → S.blk b → (rows i).1.blk b → False)
theorem matOf_sound (h : SR w0 B Io R ρ Fr st a w) {v : Value} {x : AVal} (hx : VA w0 w R ρ v x) {U : Ty} {d : Option Nat} {l : List (List U.den)} (he : matOf st U x = some (d, l)) :
    ∃ S rows, v = .slice S.A l.length S.cap ∧ MatAt w R U S rows l ∧ ((d = none ∧ ∀ b, ¬ blkO (.mat S l.length rows) b) ∨ ∃ id, d = some id ∧ st.ob id = some (.mat U l) ∧ ρ id = some (.mat S l.length rows)) := by
  unfold matOf at he
  split at he
  · cases he
    have hx : v = .slice none 0 0 := hx
    refine ⟨⟨none, 0, 1⟩, fun _ => (⟨none, 0, U.cells⟩, 0), hx, ⟨rfl, by simp, fun h => absurd rfl h, fun i r hr => by simp at hr, fun i j b h => by simp at h, fun i b h => by simp at h⟩, .inl ⟨rfl, fun b hb => ?_⟩⟩
    rcases hb with hb | ⟨i, hi, _⟩
    · exact absurd rfl hb.1
    · simp at hi
  · rename_i id
    split at he
    · rename_i V m hob
      split at he
      · rename_i hV
        subst hV
        cases he
        obtain ⟨S, n, hp, hw⟩ := hx
        obtain ⟨q, hq, S', rows, rfl, g⟩ := h.ob id _ hob
        rw [hq] at hp
        simp only [plS] at hp
        cases hp
        exact ⟨S, rows, hw, g, .inr ⟨id, rfl, hob, hq⟩⟩
      · cases he
    · cases he
  · cases he
def heads (rows : Nat → SPl × Nat) (n : Nat) : List Value := (List.range n).map fun t => .slice (rows t).1.A (rows t).2 (rows t).1.cap
theorem heads_get {rows : Nat → SPl × Nat} {n t : Nat} (h : t < n) : (heads rows n)[t]? = some (.slice (rows t).1.A (rows t).2 (rows t).1.cap) := by
  simp [heads, h]
theorem MatAt.cells {T : Ty} {S : SPl} {rows : Nat → SPl × Nat} {l : List (List T.den)} (h : MatAt w R T S rows l) : S.cap ≠ 0 → ∃ b off arr E, S.A = some ⟨b, off, none⟩ ∧ w.heap[b]? = some (.cells arr E (0, 0)) ∧ off + S.cap ≤ arr.size ∧
    ∀ t, t < l.length → arr[off + t]? = (heads rows l.length)[t]? := fun hc => by
  obtain ⟨b, off, arr, E, e1, e2, e3, e4⟩ := h.2.2.1 hc
  refine ⟨b, off, arr, E, e1, e2, e3, fun t ht => ?_⟩
  rw [heads_get ht, e4 t _ (List.getElem?_eq_getElem ht), (h.2.2.2.1 t _ (List.getElem?_eq_getElem ht)).1]
theorem appendMat_sound {T : TypeId} {c : Call} {x y : Operand} {U : Ty} {z0 : AVal} {id2 : Nat} {d2 d : Option Nat} {m l : List (List U.den)} (h : SR w0 B Io R ρ (fun i => ib ≤ i) st a w)
    (hrun : ∀ v w', (Builtin.append_ #[T, T] o.type #[a.eval x, a.eval y]).run P w = .ok v w' → (execOp a.eval o).run P w = .ok (.value v) w')
    (hby : elemBytes P T ≤ 128) (hE : elemTyS P T = some (.slice U)) (hZ : elemZero P T = some [z0]) (hy0 : ev st y = .sref id2 none none) (hy : matOf st U (.sref id2 none none) = some (d2, m)) (hx : matOf st U (ev st x) = some (d, l))
    (hne : d ≠ some id2) (hb : l.length + m.length ≤ 1099511627776) :
    StOk P w0 B Io ib ((((st.delOb (some id2)).delOb d).setOb ib (some (.mat U (l ++ m)))).put o.dst (.sref ib none none)) a w o := by
  obtain ⟨e, hu, hz⟩ := elemTyS_spec hE
  obtain ⟨i, z, hi, hv, hrel⟩ := zeroB_rel (elemZero_spec hu hZ)
  have hsz : i.size = 1 := by simpa [sizeB, hi, Ty.cells] using hz
  have hby' : i.bytes ≤ 128 := by simpa [elemBytes, hu, bytesB, hi] using hby
  have hyv := h.ev y
  rw [hy0] at hyv
  obtain ⟨S2, rows2, y1, y2, y3⟩ := matOf_sound h hyv hy
  have hd2 : d2 = some id2 := by
    unfold matOf at hy
    dsimp only at hy
    split at hy
    · split at hy
      · cases hy; rfl
      · cases hy
    · cases hy
  obtain ⟨id2', e2, hob2, hq2⟩ : ∃ id, d2 = some id ∧ st.ob id = some (.mat U m) ∧ ρ id = some (.mat S2 m.length rows2) := by
    rcases y3 with ⟨e, _⟩ | y3
    · rw [hd2] at e; cases e
    · exact y3
  rw [hd2] at e2
  cases e2
  obtain ⟨S1, rows1, x1, x2, x3⟩ := matOf_sound h (h.ev x) hx
  have hzc : z.cells.size = 1 := by
    rw [(hrel w0 w R ρ).1]; rfl
  let rows' : Nat → SPl × Nat := fun t => if t < l.length then rows1 t else rows2 (t - l.length)
  have r1 : ∀ t, t < l.length → rows' t = rows1 t := fun t ht => by simp [rows', ht]
  -- whose blocks these are
  have own1 : ∀ b, blkO (.mat S1 l.length rows1) b → b < w.heap.size ∧ ¬ R b ∧ (B ≤ b ∨ Io b) := fun b hb => by
    rcases x3 with ⟨_, g⟩ | ⟨id, _, g1, g2⟩
    · exact absurd hb (g b)
    · exact h.own id _ _ b g1 g2 hb
  have own2 : ∀ b, blkO (.mat S2 m.length rows2) b → b < w.heap.size ∧ ¬ R b ∧ (B ≤ b ∨ Io b) := fun b hb => h.own id2 _ _ b hob2 hq2 hb
  have apart : ∀ b, blkO (.mat S1 l.length rows1) b → blkO (.mat S2 m.length rows2) b → False := fun b hb hb' => by
    rcases x3 with ⟨_, g⟩ | ⟨id, g0, g1, g2⟩
    · exact absurd hb (g b)
    · exact h.sep id _ id2 _ _ _ b (fun e => hne (by rw [g0, e])) g1 hob2 g2 hq2 hb hb'
  have hold : ∀ {j : Nat} {o : Obj}, ((st.delOb (some id2)).delOb d).ob j = some o → j ≠ id2 ∧ d ≠ some j ∧ st.ob j = some o := fun {j o} hj => by
    have step : ∀ {o : Obj}, (st.delOb (some id2)).ob j = some o → j ≠ id2 ∧ st.ob j = some o := fun {o} hj => by
      simp only [St.delOb, St.setOb] at hj
      split at hj
      · cases hj
      · rename_i e; exact ⟨e, hj⟩
    cases d with
    | none => obtain ⟨q1, q2⟩ := step hj; exact ⟨q1, by simp, q2⟩
    | some t =>
      have hj' : (if j = t then none else (st.delOb (some id2)).ob j) = some o := hj
      split at hj'
      · cases hj'
      · rename_i e'
        obtain ⟨q1, q2⟩ := step hj'
        exact ⟨q1, fun e2 => e' (by cases e2; rfl), q2⟩
  have free : ∀ {j : Nat} {oj : Obj} {qj : Pl} {b : Nat}, ((st.delOb (some id2)).delOb d).ob j = some oj → ρ j = some qj → (blkO (.mat S1 l.length rows1) b ∨ blkO (.mat S2 m.length rows2) b) → ¬ blkO qj b := fun {j oj qj b} hj hqj hb hb' => by
    obtain ⟨q1, q2, q3⟩ := hold hj
    rcases hb with hb | hb
    · rcases x3 with ⟨_, g⟩ | ⟨id, g0, g1, g2⟩
      · exact absurd hb (g b)
      · exact h.sep id _ j oj _ qj b (fun e => q2 (by rw [g0, e])) g1 q3 g2 hqj hb hb'
    · exact h.sep id2 _ j oj _ qj b (fun e => q1 e.symm) hob2 q3 hq2 hqj hb hb'
  have hdel := (h.delOb (some id2)).delOb d
  -- the end, whichever way the memory went
  have fin : ∀ {w' : World} {S' : SPl}, (execOp a.eval o).run P w = .ok (.value (.slice S'.A (l.length + m.length) S'.cap)) w' → S'.st = 1 → l.length + m.length ≤ S'.cap → SR w0 B Io R ρ (fun i => ib ≤ i) ((st.delOb (some id2)).delOb d) a w' →
      (S'.cap ≠ 0 → ∃ b off arr E, S'.A = some ⟨b, off, none⟩ ∧ w'.heap[b]? = some (.cells arr E (0, 0)) ∧ off + S'.cap ≤ arr.size ∧ ∀ t, t < l.length + m.length → arr[off + t]? = (heads rows1 l.length ++ heads rows2 m.length)[t]?) →
      (∀ b, S'.blk b → (b < w'.heap.size ∧ ¬ R b ∧ (B ≤ b ∨ Io b)) ∧ (S1.blk b ∨ b = w.heap.size)) → (∀ b, ¬ S1.blk b → b < w.heap.size → w'.heap[b]? = w.heap[b]?) → w.heap.size ≤ w'.heap.size →
      StOk P w0 B Io ib ((((st.delOb (some id2)).delOb d).setOb ib (some (.mat U (l ++ m)))).put o.dst (.sref ib none none)) a w o := by
    intro w' S' hr hst hcap hsr hmem hblk hw hsz'
    have hR : Same R w w' := fun b hb => hw b (fun hs => (own1 b (.inl hs)).2.1 hb) (h.rlt b hb)
    have e1 : ∀ b t, t < l.length → (rows1 t).1.blk b → w'.heap[b]? = w.heap[b]? := fun b t ht hb => hw b (fun hs => x2.2.2.2.2.2 t b ht hs hb) (own1 b (.inr ⟨t, ht, hb⟩)).1
    have e2 : ∀ b t, t < m.length → (rows2 t).1.blk b → w'.heap[b]? = w.heap[b]? := fun b t ht hb => hw b (fun hs => apart b (.inl hs) (.inr ⟨t, ht, hb⟩)) (own2 b (.inr ⟨t, ht, hb⟩)).1
    have hrow : ∀ t b, t < (l ++ m).length → (rows' t).1.blk b → (t < l.length ∧ (rows1 t).1.blk b) ∨ (l.length ≤ t ∧ t - l.length < m.length ∧ (rows2 (t - l.length)).1.blk b) := fun t b ht hb => by
      simp only [List.length_append] at ht
      by_cases a1 : t < l.length
      · rw [r1 t a1] at hb; exact .inl ⟨a1, hb⟩
      · simp only [rows', a1, if_false] at hb; exact .inr ⟨by omega, by omega, hb⟩
    have hrb : ∀ t b, t < (l ++ m).length → (rows' t).1.blk b → blkO (.mat S1 l.length rows1) b ∨ blkO (.mat S2 m.length rows2) b := fun t b ht hb => by
      rcases hrow t b ht hb with ⟨a1, a2⟩ | ⟨a1, a2, a3⟩
      · exact .inl (.inr ⟨t, a1, a2⟩)
      · exact .inr (.inr ⟨_, a2, a3⟩)
    have hrl : ∀ t b, t < (l ++ m).length → (rows' t).1.blk b → b < w.heap.size ∧ ¬ R b ∧ (B ≤ b ∨ Io b) := fun t b ht hb => (hrb t b ht hb).elim (own1 b) (own2 b)
    have hne' : ∀ t b, t < (l ++ m).length → S'.blk b → (rows' t).1.blk b → False := fun t b ht hb hb' => by
      rcases (hblk b hb).2 with g | g
      · rcases hrow t b ht hb' with ⟨a1, a2⟩ | ⟨a1, a2, a3⟩
        · exact x2.2.2.2.2.2 t b a1 g a2
        · exact apart b (.inl g) (.inr ⟨_, a2, a3⟩)
      · have := (hrl t b ht hb').1; omega
    have h1 := hsr.new (id := ib) (Nat.le_refl _) (o := .mat U (l ++ m)) (p := .mat S' (l ++ m).length rows')
      ⟨S', rows', rfl, hst, by simpa using hcap, fun hc => by
        obtain ⟨b, off, arr, E, q1, q2, q3, q4⟩ := hmem hc
        refine ⟨b, off, arr, E, q1, q2, q3, fun t rr hrr => ?_⟩
        have ht := lt_of_get hrr
        simp only [List.length_append] at ht
        rw [q4 t ht]
        by_cases a1 : t < l.length
        · rw [List.getElem?_append_left a1] at hrr
          rw [List.getElem?_append_left (by simp [heads]; exact a1), heads_get a1, r1 t a1, (x2.2.2.2.1 t rr hrr).1]
        · rw [List.getElem?_append_right (by omega)] at hrr
          rw [List.getElem?_append_right (by simp [heads]; omega)]
          have a2 : t - l.length < m.length := by omega
          have el : (heads rows1 l.length).length = l.length := by simp [heads]
          rw [el, heads_get a2]
          have : rows' t = rows2 (t - l.length) := by simp [rows', a1]
          rw [this, (y2.2.2.2.1 _ rr hrr).1], fun t rr hrr => by
        by_cases a1 : t < l.length
        · rw [List.getElem?_append_left a1] at hrr
          obtain ⟨q1, q2⟩ := x2.2.2.2.1 t rr hrr
          rw [r1 t a1]
          exact ⟨q1, q2.mono hR (fun _ hb => hb) fun b hb => e1 b t a1 hb⟩
        · have ht := lt_of_get hrr
          simp only [List.length_append] at ht
          rw [List.getElem?_append_right (by omega)] at hrr
          obtain ⟨q1, q2⟩ := y2.2.2.2.1 _ rr hrr
          have : rows' t = rows2 (t - l.length) := by simp [rows', a1]
          rw [this]
          exact ⟨q1, q2.mono hR (fun _ hb => hb) fun b hb => e2 b _ (by omega) hb⟩, fun t1 t2 b h1 h2 h3 h4 h5 => by
        rcases hrow t1 b h1 h4 with ⟨a1, a2⟩ | ⟨a1, a2, a3⟩ <;> rcases hrow t2 b h2 h5 with ⟨b1, b2⟩ | ⟨b1, b2, b3⟩
        · exact x2.2.2.2.2.1 t1 t2 b a1 b1 h3 a2 b2
        · exact apart b (.inr ⟨t1, a1, a2⟩) (.inr ⟨_, b2, b3⟩)
        · exact apart b (.inr ⟨t2, b1, b2⟩) (.inr ⟨_, a2, a3⟩)
        · exact y2.2.2.2.2.1 _ _ b a2 b2 (by omega) a3 b3, fun t b h1 h2 h3 => hne' t b h1 h2 h3⟩
      (fun b hb => by
        rcases hb with hb | ⟨t, ht, hb⟩
        · exact (hblk b hb).1
        · have := hrl t b ht hb
          exact ⟨by omega, this.2⟩)
      (fun j oj qj b hoj hqj hb hb' => by
        rcases hb with hb | ⟨t, ht, hb⟩
        · rcases (hblk b hb).2 with g | g
          · exact free hoj hqj (.inl (.inl g)) hb'
          · have := (h.own j oj qj b (hold hoj).2.2 hqj hb').1; omega
        · exact free hoj hqj (hrb t b ht hb) hb')
    refine .value hr ⟨R, _, (h1.put o.dst (v := .slice S'.A (l.length + m.length) S'.cap) (x := .sref ib none none) (VA.ofC ⟨S', (l ++ m).length, by simp [plS], by simp [WV]⟩)).weaken fun i hi => ?_⟩
    have hi : ib + 16 ≤ i := hi
    exact ⟨by show ib ≤ i; omega, by omega⟩
  have hL2 : m.length ≠ 0 → ∃ b off, S2.A = some ⟨b, off, none⟩ ∧ ∀ t u, (heads rows2 m.length)[t]? = some u → cellAt w b (off + t) = some u := fun hm => by
    obtain ⟨b, off, arr, E, e1, e2, e3, e4⟩ := y2.cells (by have := y2.2.1; omega)
    refine ⟨b, off, e1, fun t u hu' => ?_⟩
    have ht : t < m.length := by have := lt_of_get hu'; simpa [heads] using this
    rw [cellAt_of e2, e4 t ht]; exact hu'
  rcases append_raw (w := w) hu hi hv hsz hzc hby' x1 y1 (L1 := heads rows1 l.length) (L2 := heads rows2 m.length) (by simp [heads]) (by simp [heads]) (fun u hu' => by simp [heads] at hu'; obtain ⟨t, _, rfl⟩ := hu'; rfl) x2.2.1 x2.cells hL2 hb hrun with
    ⟨w', g1, g2, g3, g4, g5, g6⟩ | ⟨w', cap', g1, g2, g3, g4, g5, arr, E, g6, g7, g8⟩
  · by_cases hc : S1.cap = 0
    · have hw : ∀ b, w'.heap[b]? = w.heap[b]? := fun b => g5 b fun _ _ => hc
      refine fin (S' := S1) g1 x2.1 g2 (hdel.grow (fun b hb => hw b) g3) (fun h => absurd hc h) (fun b hb => absurd hc hb.1) (fun b _ _ => hw b) (by omega)
    · obtain ⟨b0, off0, arr0, E0, e1, _⟩ := x2.cells hc
      have hb0 : S1.blk b0 := ⟨hc, off0, e1⟩
      have hown0 := own1 b0 (.inl hb0)
      have hw : ∀ b, b ≠ b0 → w'.heap[b]? = w.heap[b]? := fun b hb => g5 b fun off e => by rw [e1] at e; cases e; exact absurd rfl hb
      refine fin (S' := S1) g1 x2.1 g2 (hdel.scratch (b0 := b0) (fun id' o' p' q1 q2 => free q1 q2 (.inl (.inl hb0))) hown0.2.1 hown0.2.2 hw g4 g3) g6 (fun b hb => ⟨?_, .inl hb⟩) (fun b hb _ => hw b fun e => hb (e ▸ hb0)) (by omega)
      rw [g4]; exact own1 b (.inl hb)
  · refine fin (S' := ⟨some ⟨w.heap.size, 0, none⟩, cap', 1⟩) g1 rfl g2 (hdel.grow g4 g3) (fun _ => ⟨w.heap.size, 0, arr, E, rfl, g6, by show 0 + cap' ≤ arr.size; omega, fun t ht => by rw [Nat.zero_add]; exact g8 t ht⟩) (fun b hb => ?_) (fun b _ hb => g4 b hb) (by omega)
    obtain ⟨_, off, e1⟩ := hb
    cases e1
    exact ⟨⟨g5, fun hR => Nat.lt_irrefl _ (h.rlt _ hR), .inl h.size0⟩, .inr rfl⟩
theorem sp_sound (h : SR w0 B Io R ρ (fun i => ib ≤ i) st a w) (he : sp P ib st o k = some (some r)) : ∃ st', k st' = some r ∧ StOk P w0 B Io ib st' a w o := by
  unfold sp at he
  split at he
  · rename_i T p x ho
    split at he
    · rename_i id i hp
      split at he
      · rename_i U l hob
        split at he
        · rename_i d m hn hx
          exact ⟨_, Option.some.inj he, storeRow_sound h ho hp hob hn hx⟩
        · cases he
      · cases he
    · cases he
  · rename_i T ps ho
    split at he
    · rename_i x hps
      split at he
      · rename_i U zs hE hZ
        split at he
        · rename_i d m hx
          exact ⟨_, Option.some.inj he, buildRow_sound h ho hps hE hZ hx⟩
        · cases he
      · cases he
    · cases he
  · rename_i c ho
    split at he
    · rename_i hc
      split at he
      · rename_i x y T T' hx ht
        have hargs : c.args = #[x, y] := by rw [← Array.toArray_toList (xs := c.args), hx]
        have htys : c.argTypes = #[T, T'] := by rw [← Array.toArray_toList (xs := c.argTypes), ht]
        split at he
        · rename_i U z0 hT hE hZ
          rw [Bool.and_eq_true] at hT
          have hT1 := of_decide_eq_true hT.1
          have hby := of_decide_eq_true hT.2
          subst hT1
          split at he
          · rename_i id2 hy0
            split at he
            · rename_i d2 m d l hy hxm
              split at he
              · cases he
              · rename_i hne
                have hne := of_decide_eq_false hne
                have he := Option.some.inj he
                by_cases hb : l.length + m.length ≤ 1099511627776
                · simp only [hb, decide_true, cond_true] at he
                  exact ⟨_, he, appendMat_sound (c := c) h (fun v w' hr => by simp [execOp, ho, resolve, hc, invoke, builtin, hargs, htys, hr]) hby hE hZ hy0 hy hxm hne hb⟩
                · simp [hb] at he
            · cases he
          · cases he
        · cases he
      · cases he
    · cases he
  · cases he
end
end Go.OAI
