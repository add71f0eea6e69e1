/- One operation, whatever it be. The evaluator's continuations are no more than that. Regions in the order of the text. -/
import Derived.Test.YtfkdmflcildgbaaDoorC4
namespace Go.OAI
set_option linter.unusedVariables false

variable {P : Program} {w0 : W0} {w : World} {B : Nat} {Io R : Nat → Prop} {ρ : Nat → Option Pl} {Fr : Nat → Prop} {st s : St} {a : Act}

/-! ### Freezing -/
def FrzB (st : St) (ρ : Nat → Option Pl) (ids : List Nat) (b : Nat) : Prop := ∃ id ∈ ids, ∃ o p, st.ob id = some o ∧ ρ id = some p ∧ blkO p b

theorem frz1_CA (h : SR w0 B Io R ρ Fr st a w) (ids : List Nat) {v : Value} {x : AVal} (hx : CA w0 w R ρ v x) : CA w0 w (fun b => R b ∨ FrzB st ρ ids b) ρ v (frz1 st ids x) := by
  have mono : ∀ {y : AVal}, CA w0 w R ρ v y → CA w0 w (fun b => R b ∨ FrzB st ρ ids b) ρ v y := fun hy => hy.mono (.refl _ _) (fun _ hb => .inl hb) (.refl _)
  cases x
  case sref id row win =>
    unfold frz1
    dsimp only
    split
    · rename_i hid
      cases hf : full st id row with
      | none => exact hx.one
      | some z =>
        obtain ⟨T, l⟩ := z
        refine CA.ofR (resCell_ro (R2 := fun b => R b ∨ FrzB st ρ ids b) h hx (y := .sl T (winL win l)) (by simp [resCell, hf]) (fun b hb => .inl hb) fun b hb => .inr ?_)
        have hid : id ∈ ids := by simpa using hid
        obtain ⟨o, ho⟩ : ∃ o, st.ob id = some o := by
          cases ho : st.ob id with
          | none => simp [full, ho] at hf
          | some o => exact ⟨o, rfl⟩
        obtain ⟨p, hp, _⟩ := h.ob id o ho
        refine ⟨id, hid, o, p, ho, hp, ?_⟩
        simp only [cellBlk] at hb
        cases row with
        | none => obtain ⟨p', hp', hb⟩ := hb; rw [hp] at hp'; cases hp'; exact hb
        | some r =>
          obtain ⟨o', p', g1, g2, g3⟩ := blkR_obj (q := (id, some r)) h ⟨by rw [ho]; simp, hb⟩
          rw [hp] at g2; cases g2; exact g3
    · exact mono hx
  case ptr id c =>
    unfold frz1
    dsimp only
    split
    · exact hx.one
    · exact mono hx
  case eptr id row i c =>
    unfold frz1
    dsimp only
    split
    · exact hx.one
    · exact mono hx
  all_goals exact mono hx
theorem VA_CA {v : Value} {x : AVal} (h1 : ∀ cs, x ≠ .agg cs) (h2 : ∀ vs, x ≠ .tup vs) (h3 : x ≠ .undef) (hx : VA w0 w R ρ v x) : CA w0 w R ρ v x := by
  cases x <;> first | exact hx | exact absurd rfl (h1 _) | exact absurd rfl (h2 _) | exact absurd rfl h3
theorem frzV_VA (h : SR w0 B Io R ρ Fr st a w) (ids : List Nat) {v : Value} {x : AVal} (hx : VA w0 w R ρ v x) : VA w0 w (fun b => R b ∨ FrzB st ρ ids b) ρ v (frzV st ids x) := by
  cases x
  case agg cs =>
    obtain ⟨us, h1, h2, h3⟩ := hx
    refine ⟨us, h1, by simp [h2], fun i u y hu hy => ?_⟩
    simp only [List.getElem?_map, Option.map_eq_some_iff] at hy
    obtain ⟨z, hz, rfl⟩ := hy
    exact frz1_CA h ids (h3 i u z hu hz)
  case tup => exact trivial
  case undef => exact trivial
  all_goals exact VA.ofC (frz1_CA h ids (VA_CA (by simp) (by simp) (by simp) hx))

theorem SR.frz (h : SR w0 B Io R ρ Fr st a w) (ids : List Nat) : SR w0 B Io (fun b => R b ∨ FrzB st ρ ids b) ρ Fr (st.frz ids) a w := by
  have key : ∀ {id : Nat} {o : Obj}, (st.frz ids).ob id = some o → id ∉ ids ∧ ∃ o', st.ob id = some o' ∧ o = frzO st ids o' := fun {id o} ho => by
    simp only [St.frz] at ho
    split at ho
    · cases ho
    · rename_i hid
      split at ho
      · rename_i o' ho'
        cases ho
        exact ⟨by simpa using hid, o', ho', rfl⟩
      · cases ho
  refine { size := h.size, dfr := h.dfr, tm := fun t => frzV_VA h ids (h.tm t), ob := fun id o ho => ?_, sep := fun i o1 j o2 p1 p2 b hij h1 h2 => ?_, own := fun id o p b ho hp hb => ?_, rlt := fun b hb => ?_, frame := h.frame, size0 := h.size0, fr := h.fr, r0 := fun b hb => .inl (h.r0 b hb), r1 := fun b hb => ?_, q := h.q, par := h.par, f0 := h.f0 }
  · obtain ⟨_, o', ho', rfl⟩ := key ho
    obtain ⟨p, hp, hoa⟩ := h.ob id o' ho'
    refine ⟨p, hp, ?_⟩
    have hoa := hoa.mono (R' := fun b => R b ∨ FrzB st ρ ids b) (.refl _ _) (fun _ hb => .inl hb) (.refl ρ) (fun _ _ => rfl)
    cases o' with
    | box cs =>
      obtain ⟨p2, hp2, b, off, arr, E, rfl, e2, e3⟩ := h.ob id _ ho'
      rw [hp] at hp2; cases hp2
      refine ⟨b, off, arr, E, rfl, e2, fun k x hx => ?_⟩
      simp only [List.getElem?_map, Option.map_eq_some_iff] at hx
      obtain ⟨z, hz, rfl⟩ := hx
      obtain ⟨u, g1, g2⟩ := e3 k z hz
      exact ⟨u, g1, frz1_CA h ids g2⟩
    | sl T l => exact hoa
    | mat T l => exact hoa
    | matH T l h0 o0 => exact hoa
  · obtain ⟨_, o1', e1, _⟩ := key h1
    obtain ⟨_, o2', e2, _⟩ := key h2
    exact h.sep i o1' j o2' p1 p2 b hij e1 e2
  · obtain ⟨hid, o', ho', _⟩ := key ho
    obtain ⟨z1, z2, z3⟩ := h.own id o' p b ho' hp hb
    refine ⟨z1, ?_, z3⟩
    rintro (h' | ⟨id2, hid2, o2, p2, g1, g2, g3⟩)
    · exact z2 h'
    · exact h.sep id o' id2 o2 p p2 b (fun e => hid (by rw [e]; exact hid2)) ho' g1 hp g2 hb g3
  · rcases hb with hb | ⟨id2, hid2, o2, p2, g1, g2, g3⟩
    · exact h.rlt b hb
    · exact (h.own id2 o2 p2 b g1 g2 g3).1
  · rcases hb with hb | ⟨id2, hid2, o2, p2, g1, g2, g3⟩
    · exact h.r1 b hb
    · exact .inr (h.own id2 o2 p2 b g1 g2 g3).2.2
theorem SR.frzOp (h : SR w0 B Io R ρ Fr st a w) (env : Nat → Option Callee) (o : Oper) : ∃ R, SR w0 B Io R ρ Fr (Go.OAI.frzOp env st o) a w := by
  unfold Go.OAI.frzOp
  split
  · split
    · split
      · split
        · split
          · split
            · exact ⟨R, h⟩
            · exact ⟨_, h.frz _⟩
          · exact ⟨R, h⟩
        · exact ⟨R, h⟩
      · exact ⟨R, h⟩
    · exact ⟨R, h⟩
  · exact ⟨R, h⟩
theorem op_sound {env : Nat → Option Callee} {ib : Nat} {α : Type} {k : Delta → Option α} {r : α} {o : Oper} (henv : EnvOk P env) (h : SR w0 B Io R ρ Fr st a w) (hs : Sub s st) (hf : ∀ i, Own ib i → Fr i)
    (he : evalOp P env ib s o k = some r) : ∃ d, k d = some r ∧ OpOk P w0 B Io Fr ib st a w o d := by
  have hfi : Fr ib := hf ib ⟨Nat.le_refl _, by omega⟩
  cases ho : o.op
  case move => exact ok_move h hs (.inl ho) he
  case assign => exact ok_move h hs (.inr ho) he
  case pick => exact ok_pick h hs ho he
  case alloc => exact ok_alloc h hs hfi ho he
  case box => exact ok_box h hs hfi ho he
  case build => exact ok_build h hs ho he
  case convert => exact ok_convert h hs ho he
  case index => exact ok_index h hs ho he
  case makeFunc => exact ok_makeFunc h hs ho he
  case buildSlice =>
    obtain ⟨ob, h1, h2⟩ := ok_buildSlice h hs hfi ho he
    exact ⟨_, h1, h2⟩
  case load => exact ok_load h hs ho he
  case store => exact ok_store h hs ho he
  case binOp => exact ok_binOp h hs ho he
  case unOp => exact ok_unOp h hs ho he
  case makeSlice => exact ok_makeSlice h hs hfi ho he
  case slice => exact ok_slice h hs ho he
  case fieldAddr => exact ok_fieldAddr h hs ho he
  case field => exact ok_field h hs ho he
  case indexAddr => exact ok_indexAddr h hs ho he
  case nilCheck => exact ok_nilCheck h hs ho he
  case extract => exact ok_extract h hs ho he
  case call c =>
    cases hc : c.callee
    case value f => exact ok_call henv h hs hf ho hc he
    case builtin b =>
      cases b
      case len => exact ok_len h hs ho hc he
      case min => exact ok_min h hs ho hc he
      case max => exact ok_max h hs ho hc he
      case append => exact ok_append h hs hfi ho hc he
      all_goals (unfold evalOp at he; simp only [ho, hc] at he; cases he)
    all_goals (unfold evalOp at he; simp only [ho, hc] at he; cases he)
  all_goals (unfold evalOp at he; simp only [ho] at he; cases he)
/-- An object of the frame's own that is only read from then on, the rest being as it was. -/
theorem SR.lit {st2 : St} (h : SR w0 B Io R ρ Fr st a w) {ib : Nat} (hn : st2.n = st.n) (hpr : st2.pr = st.pr) (htm : ∀ t, VA w0 w (fun b => R b ∨ FrzB st ρ [ib] b) ρ (tmv w0 a t) (st2.tm t))
    (hob : ∀ id o, st2.ob id = some o → id ≠ ib ∧ st.ob id = some o) : SR w0 B Io (fun b => R b ∨ FrzB st ρ [ib] b) ρ Fr st2 a w where
  size := by rw [hn]; exact h.size
  dfr := h.dfr
  tm := htm
  ob := fun id o ho => by
    obtain ⟨_, ho⟩ := hob id o ho
    obtain ⟨p, h1, h2⟩ := h.ob id o ho
    exact ⟨p, h1, h2.mono (fun b hb => rfl) (fun b hb => .inl hb) (.refl _) (fun b hb => rfl)⟩
  sep := fun id o id' o' p p' b hne h1 h2 => h.sep id o id' o' p p' b hne (hob _ _ h1).2 (hob _ _ h2).2
  own := fun id o p b ho hp hb => by
    obtain ⟨hid, ho⟩ := hob id o ho
    obtain ⟨q1, q2, q3⟩ := h.own id o p b ho hp hb
    refine ⟨q1, fun hR => ?_, q3⟩
    rcases hR with hR | ⟨i, hi, o', p', g1, g2, g3⟩
    · exact q2 hR
    · have hi := List.mem_singleton.1 hi
      exact h.sep id o i o' p p' b (by rw [hi]; exact hid) ho g1 hp g2 hb g3
  rlt := fun b hb => by
    rcases hb with hb | ⟨i, hi, o', p', g1, g2, g3⟩
    · exact h.rlt b hb
    · exact (h.own i o' p' b g1 g2 g3).1
  frame := h.frame
  size0 := h.size0
  fr := h.fr
  r0 := fun b hb => .inl (h.r0 b hb)
  q := h.q
  par := fun k v hk hv => h.par k v (by rw [← hpr]; exact hk) hv
  f0 := h.f0
  r1 := fun b hb => by
    rcases hb with hb | ⟨i, hi, o', p', g1, g2, g3⟩
    · exact h.r1 b hb
    · exact .inr (h.own i o' p' b g1 g2 g3).2.2
/-- The kept cells are as they were. -/
def Keep (kc : List (Nat × Nat)) (st0 st : St) : Prop := ∀ p ∈ kc, ∀ x, kcGet kc st0 p.1 p.2 = some x → ∃ cs, st.ob p.1 = some (.box cs) ∧ cs[p.2]? = some x
theorem kcGet_some {kc : List (Nat × Nat)} {st0 : St} {id c : Nat} {x : AVal} (h : kcGet kc st0 id c = some x) : (id, c) ∈ kc ∧ ∃ cs T l, st0.ob id = some (.box cs) ∧ cs[c]? = some x ∧ x = .sl T l := by
  unfold kcGet at h
  cases hb : kc.any fun p => p.1 == id && p.2 == c with
  | false => rw [hb] at h; cases h
  | true =>
    rw [hb, cond_true] at h
    refine ⟨?_, ?_⟩
    · obtain ⟨p, hp, he⟩ := List.any_eq_true.1 hb
      rw [Bool.and_eq_true] at he
      have h1 : p.1 = id := by simpa using he.1
      have h2 : p.2 = c := by simpa using he.2
      obtain ⟨a, b⟩ := p
      subst h1; subst h2
      exact hp
    · split at h
      · rename_i cs ho
        split at h
        · rename_i T l hc
          cases h
          exact ⟨cs, T, l, ho, hc, rfl⟩
        · cases h
      · cases h
theorem Keep.refl (kc : List (Nat × Nat)) (st0 : St) : Keep kc st0 st0 := fun p hp x hx => by
  obtain ⟨_, cs, T, l, h1, h2, _⟩ := kcGet_some hx
  exact ⟨cs, h1, h2⟩
theorem opJ_sound {env : Nat → Option Callee} {ops : Array Oper} {st0 : St} {kc : List (Nat × Nat)} {j ib : Nat} {d : Delta} {o : Oper} (henv : EnvOk P env) (h : SR w0 B Io R ρ Fr st a w) (hs : Sub s st) (hf : ∀ i, Own ib i → Fr i)
    (hk : Keep kc st0 st) (he : evalOpJ P env ops st0 kc j ib s o some = some d) : OpOk P w0 B Io Fr ib st a w o d := by
  have hfi : Fr ib := hf ib ⟨Nat.le_refl _, by omega⟩
  unfold evalOpJ at he
  split at he
  · rename_i T len ps _ ho
    obtain ⟨ob, h1, h2⟩ := ok_buildSlice h hs hfi ho he
    cases ob with
    | box => cases h1
    | mat => cases h1
    | matH => cases h1
    | sl E l =>
      cases h1
      intro next Q hn
      have hib : ∀ o', st.ob ib ≠ some o' := fun o' e => by
        obtain ⟨p, hp, _⟩ := h.ob ib o' e
        rw [h.fr ib hfi] at hp; cases hp
      refine h2 next Q fun v w' ⟨R', ρ', h3⟩ => hn v w' ⟨_, ρ', SR.lit h3 (ib := ib) ?_ ?_ (fun t => ?_) fun id o' ho' => ?_⟩
      · cases o.dst with
        | none => rfl
        | some t0 => simp only [St.app, St.put, St.setTm]; split <;> rfl
      · cases o.dst with
        | none => rfl
        | some t0 => simp only [St.app, St.put, St.setTm]; split <;> rfl
      · have hv := h3.tm t
        have hob : (st.app o.dst ⟨.sref ib none none, [(ib, some (.sl E l))]⟩).ob ib = some (.sl E l) := by simp [St.app, obUpd]
        have hmono : ∀ {x : AVal} {u : Value}, VA w0 w' R' ρ' u x → VA w0 w' (fun b => R' b ∨ FrzB (st.app o.dst ⟨.sref ib none none, [(ib, some (.sl E l))]⟩) ρ' [ib] b) ρ' u x := fun hx => hx.mono (fun b hb => rfl) (fun b hb => .inl hb) (.refl _)
        cases hd : o.dst with
        | none =>
          rw [hd] at hv hob hmono
          exact hmono hv
        | some t0 =>
          rw [hd] at hv hob hmono h3
          simp only [St.app, St.put, St.setTm] at hv ⊢
          by_cases hlt : t0 < st.n
          · simp only [hlt, decide_true] at hv ⊢
            by_cases ht : t = t0
            · simp only [ht, if_true] at hv ⊢
              have := frz1_CA h3 [ib] (v := tmv w0 (a.put (some t0) v) t0) (x := .sref ib none none) (VA_CA (by simp) (by simp) (by simp) hv)
              have e : frz1 (st.app (some t0) ⟨.sref ib none none, [(ib, some (.sl E l))]⟩) [ib] (.sref ib none none) = .sl E l := by
                simp only [frz1, List.contains_cons, List.contains_nil, beq_self_eq_true, Bool.true_or, full, hob]
                rfl
              rw [e] at this
              simp only [St.app, St.put, St.setTm, hlt, decide_true] at this
              exact VA.ofC this
            · simp only [ht, if_false] at hv ⊢
              simp only [St.app, St.put, St.setTm, hlt, decide_true] at hmono
              exact hmono hv
          · simp only [hlt, decide_false] at hv ⊢
            simp only [St.app, St.put, St.setTm, hlt, decide_false] at hmono
            exact hmono hv
      · have ho' : st.ob id = some o' := ho'
        have hid : id ≠ ib := fun e => hib o' (by rw [← e]; exact ho')
        refine ⟨hid, ?_⟩
        show obUpd st.ob _ id = some o'
        simp [obUpd, hid, ho']
  · rename_i T q ho
    have old : evalOp P env ib s o some = some d → OpOk P w0 B Io Fr ib st a w o d := fun he => by
      obtain ⟨d', h1, h2⟩ := op_sound henv h hs hf he
      cases h1
      exact h2
    split at he
    · exact old he
    · split at he
      · rename_i id c hg hn hq
        split at he
        · rename_i x hx
          cases he
          obtain ⟨hm, _⟩ := kcGet_some hx
          obtain ⟨cs, h1, h2⟩ := hk _ hm x hx
          have hs' : Sub { s with ob := st.ob } st := ⟨hs.tm, fun _ => .inr rfl, hs.n⟩
          have hq' : ev { s with ob := st.ob } q = .ptr id c := hq
          have he' : evalOp P env ib { s with ob := st.ob } o some = some ⟨x, []⟩ := by
            unfold evalOp
            rw [ho]
            simp only [hg, hn, hq', h1, takeV, cond_false, h2]
          obtain ⟨d', g1, g2⟩ := op_sound henv h hs' hf he'
          cases g1
          exact g2
        · exact old he
      · exact old he
  · obtain ⟨d', h1, h2⟩ := op_sound henv h hs hf he
    cases h1
    exact h2
end Go.OAI

/-! ## The evaluator's continuations are no more than that. -/
namespace Go.OAI
set_option linter.unusedVariables false

variable {P : Program} {α β : Type}

theorem binA_nat (op : BinOp) (tb : Option Bool) (x y : AVal) (k : AVal → Option α) : binA op tb x y k = (binA op tb x y some).bind k := by
  unfold binA
  simp only [cond_eq_ite]
  repeat' (first | rfl | split)
theorem callA_nat (c : Callee) (ib : Nat) (st : St) (args : List AVal) (k : Delta → Option α) : callA c ib st args k = (callA c ib st args some).bind k := by
  unfold callA
  split
  · rfl
  split
  · rfl
  split
  · rfl
  rename_i x _
  cases c.G x with
  | none => rfl
  | some y =>
    simp only [Option.bind_some]
    rw [c.law, c.law]
    split
    · rfl
    split
    · rfl
    generalize instRes (c.out y).1 _ = z
    obtain ⟨v, ns, j'⟩ := z
    dsimp only
    split <;> rfl
theorem callG_nat (c : Callee) (ib : Nat) (st : St) (na : Nat) (L : List Arg) (k : Delta → Option α) : callG c ib st na L k = (callG c ib st na L some).bind k := by
  unfold callG
  split
  · rfl
  split
  · rfl
  split
  · rfl
  split
  · rfl
  rename_i x _
  cases c.G x with
  | none => rfl
  | some y =>
    simp only [Option.bind_some]
    rw [c.law, c.law]
    split
    · rfl
    split
    · rfl
    generalize instRes (c.out y).1 _ = z
    obtain ⟨v, ns, j'⟩ := z
    dsimp only
    split <;> rfl
theorem appendA_nat (T : TypeId) (ib : Nat) (st : St) (a b : AVal) (k : Delta → Option α) : appendA P T ib st a b k = (appendA P T ib st a b some).bind k := by
  unfold appendA
  simp only [cond_eq_ite]
  repeat' (first | rfl | split)
theorem evalOp_nat (env : Nat → Option Callee) (ib : Nat) (st : St) (o : Oper) (k : Delta → Option α) : evalOp P env ib st o k = (evalOp P env ib st o some).bind k := by
  unfold evalOp
  cases o.op
  case call c =>
    dsimp only
    repeat' (first | rfl | exact callA_nat _ _ _ _ _ | exact callG_nat _ _ _ _ _ _ | exact appendA_nat _ _ _ _ _ _ | split)
  case binOp =>
    dsimp only
    split
    · split <;> rfl
    rw [binA_nat _ _ _ _ (fun v => k ⟨v, []⟩), binA_nat _ _ _ _ (fun v => some (⟨v, []⟩ : Delta)), Option.bind_assoc]
    rfl
  case indexAddr =>
    dsimp only
    simp only [cond_eq_ite]
    repeat' (first | rfl | split)
    rw [Option.bind_assoc]
    rfl
  case index =>
    dsimp only
    simp only [cond_eq_ite]
    repeat' (first | rfl | split)
    rw [Option.bind_assoc]
    rfl
  all_goals
    dsimp only
    try simp only [cond_eq_ite]
    repeat' (first | rfl | split)

theorem cond_nat (c : Bool) (x y : Option α) (x' y' : Option β) (k : α → Option β) (h1 : x' = x.bind k) (h2 : y' = y.bind k) : cond c x' y' = (cond c x y).bind k := by
  cases c
  · exact h2
  · exact h1
theorem bind_bind' (x : Option α) (f : α → Option β) {γ : Type} (g : β → Option γ) : (x.bind f).bind g = x.bind fun a => (f a).bind g := Option.bind_assoc ..

theorem nat_step {A : Type} {X : Option A} {f : A → Option α} {g : A → Option β} {k : α → Option β} {L : Option β} {M : Option α} (h1 : L = X.bind g) (h2 : M = X.bind f) (h : ∀ a, g a = (f a).bind k) : L = M.bind k := by
  subst h1; subst h2
  rw [Option.bind_assoc]
  congr 1
  funext a
  exact h a

theorem sp_nat (ib : Nat) (st : St) (o : Oper) (k : St → Option α) : sp P ib st o k = (sp P ib st o some).map fun r => r.bind k := by
  unfold sp
  simp only [cond_eq_ite]
  repeat' (first | rfl | split)
theorem stepL_nat (env : Nat → Option Callee) (ib : Nat) (st : St) (o : Oper) (k : St → Option α) : stepL P env ib st o k = (stepL P env ib st o some).bind k := by
  unfold stepL
  rw [sp_nat (k := k)]
  cases h : sp P ib st o some with
  | some r => rfl
  | none =>
    simp only [Option.map_none]
    rw [evalOp_nat (k := fun d => k ((frzOp env st o).app o.dst d)), evalOp_nat (k := fun d => some ((frzOp env st o).app o.dst d)), Option.bind_assoc]
    rfl
theorem evalOps_nat (env : Nat → Option Callee) (ops : Array Oper) : ∀ (l : List Oper) (ib : Nat) (st : St) (k : St → Option α), evalOps P env ops l ib st k = (evalOps P env ops l ib st some).bind k
  | [], _, _, _ => rfl
  | o :: r, ib, st, k => by
    simp only [evalOps]
    have key : ∀ s : St, stepL P env ib s o (fun d => evalOps P env ops r (ib + 16) d k) = (stepL P env ib s o fun d => evalOps P env ops r (ib + 16) d some).bind k := fun s => by
      rw [stepL_nat (k := fun d => evalOps P env ops r (ib + 16) d k), stepL_nat (k := fun d => evalOps P env ops r (ib + 16) d some), Option.bind_assoc]
      congr 1
      funext d
      exact evalOps_nat env ops r _ _ k
    split
    · exact key st
    · split
      · rfl
      · split
        · refine cond_nat _ _ _ _ _ _ ?_ ?_
          · split
            · exact key _
            · exact evalOps_nat env ops r _ _ k
          · split
            · exact key _
            · exact evalOps_nat env ops r _ _ k
        · exact evalOps_nat env ops r _ _ k
        · rfl

theorem evalOpJ_nat (env : Nat → Option Callee) (ops : Array Oper) (st0 : St) (kc : List (Nat × Nat)) (j ib : Nat) (st : St) (o : Oper) (k : Delta → Option α) : evalOpJ P env ops st0 kc j ib st o k = (evalOpJ P env ops st0 kc j ib st o some).bind k := by
  unfold evalOpJ
  split
  · rw [evalOp_nat (k := fun d => (litK d).bind k), evalOp_nat (k := fun d => (litK d).bind some), Option.bind_assoc]
    congr 1
    funext d
    cases litK d <;> rfl
  · split
    · exact evalOp_nat _ _ _ _ _
    · split
      · split
        · rfl
        · exact evalOp_nat _ _ _ _ _
      · exact evalOp_nat _ _ _ _ _
  · exact evalOp_nat _ _ _ _ _
theorem evalD1_nat (env : Nat → Option Callee) (ops : Array Oper) (b : Array Nat) (st0 : St) (kc : List (Nat × Nat)) (j : Nat) (o : Oper) (st : St) (k : Delta → Option α) :
    evalD1 P env ops b st0 kc j o st k = (evalD1 P env ops b st0 kc j o st some).bind k := by
  unfold evalD1
  dsimp only
  split
  · refine nat_step (evalOpJ_nat _ _ _ _ _ _ _ _ _) (evalOpJ_nat _ _ _ _ _ _ _ _ _) fun d => ?_
    cases ((unord b ops.size j).isEmpty || updOk st0.nx j _ _ _ d) <;> cases keepOk st0 kc d <;> rfl
  · rfl
theorem evalD_nat (env : Nat → Option Callee) (ops : Array Oper) (b : Array Nat) (st0 : St) (kc : List (Nat × Nat)) : ∀ (l : List Oper) (j : Nat) (st : St) (k : St → Option α), evalD P env ops b st0 kc l j st k = (evalD P env ops b st0 kc l j st some).bind k
  | [], _, _, _ => rfl
  | o :: r, j, st, k => by
    simp only [evalD]
    have key : ∀ s : St, evalD1 P env ops b st0 kc j o s (fun d => evalD P env ops b st0 kc r (j + 1) (s.app o.dst d) k) = (evalD1 P env ops b st0 kc j o s fun d => evalD P env ops b st0 kc r (j + 1) (s.app o.dst d) some).bind k := fun s => by
      rw [evalD1_nat (k := fun d => evalD P env ops b st0 kc r (j + 1) (s.app o.dst d) k), evalD1_nat (k := fun d => evalD P env ops b st0 kc r (j + 1) (s.app o.dst d) some), Option.bind_assoc]
      congr 1
      funext d
      exact evalD_nat env ops b st0 kc r _ _ k
    split
    · exact key st
    · split
      · rfl
      · split
        · refine cond_nat _ _ _ _ _ _ ?_ ?_
          · split
            · exact key _
            · exact evalD_nat env ops b st0 kc r _ _ k
          · split
            · exact key _
            · exact evalD_nat env ops b st0 kc r _ _ k
        · exact evalD_nat env ops b st0 kc r _ _ k
        · rfl

theorem evalCode_nat (env : Nat → Option Callee) (or : Ora) : ∀ (c : Code) {α : Type} (st : St) (K : Ex → St → Option α), evalCode P env or c st K = (evalCode P env or c st fun e s => some (e, s)).bind fun p => K p.1 p.2
  | .skip, _, _, _ => rfl
  | .region _ ops draw, _, st, K => by
    cases draw
    · exact nat_step (evalOps_nat _ _ _ _ _ _) (evalOps_nat _ _ _ _ _ _) fun s => rfl
    · simp only [evalCode]
      exact cond_nat _ _ _ _ _ _ (nat_step (evalD_nat _ _ _ _ _ _ _ _ _) (evalD_nat _ _ _ _ _ _ _ _ _) fun s => rfl) rfl
  | .seq a b, _, st, K => by
    refine nat_step (evalCode_nat env or a st _) (evalCode_nat env or a st _) fun p => ?_
    obtain ⟨e, s⟩ := p
    cases e
    · exact evalCode_nat env or b s K
    · rfl
    · rfl
  | .cond c a b, _, st, K => by
    simp only [evalCode]
    split
    · exact cond_nat _ _ _ _ _ _ (evalCode_nat env or a st K) (evalCode_nat env or b st K)
    · rfl
  | .block i b, _, st, K => by
    refine nat_step (evalCode_nat env or b st _) (evalCode_nat env or b st _) fun p => ?_
    obtain ⟨e, s⟩ := p
    cases e
    · rfl
    · dsimp only
      split <;> rfl
    · rfl
  | .loop b, _, st, K => by
    simp only [evalCode]
    split
    · rename_i L _
      split
      · split
        · rename_i x _
          rw [Option.bind_assoc]
          congr 1
          funext y
          rw [L.law, L.law]
          rfl
        · rfl
      · rfl
    · rfl
  | .exit _, _, _, _ => rfl
  | .ret, _, _, _ => rfl
  | .goto .., _, _, _ => rfl
  | .label .., _, _, _ => rfl
  | .scope .., _, _, _ => rfl
  | .rangeFunc .., _, _, _ => rfl
  | .refuse .., _, _, _ => rfl
end Go.OAI

/-! ## Regions in the order of the text. -/
namespace Go.OAI
set_option linter.unusedVariables false

variable {P : Program} {w0 : W0} {w : World} {B : Nat} {Io R : Nat → Prop} {ρ : Nat → Option Pl} {Fr : Nat → Prop} {st s : St} {a : Act}

/-- The state lies in this frame and world; from nx on the numbers are free. -/
def In (w0 : W0) (B : Nat) (Io : Nat → Prop) (nx : Nat) (st : St) (a : Act) (w : World) : Prop := ∃ R ρ, SR w0 B Io R ρ (fun i => nx ≤ i) st a w

theorem kn_self {st : St} {t : Nat} {v : AVal} (h : st.tm t = v) : st.kn t v = st := by
  unfold St.kn
  have : (fun u => if u = t then v else st.tm u) = st.tm := by
    funext u
    by_cases e : u = t
    · subst e; simp [h]
    · simp [e]
  rw [this]

theorem ev_tmp {st : St} {t : Nat} {v : AVal} (h : ev st (.tmp t) = v) (hv : v ≠ .undef) : st.tm t = v := by
  simp only [ev] at h
  split at h
  · exact h
  · exact absurd h.symm hv
theorem yielded_of {ops : Array Oper} {j sl : Nat} {b : Bool} (h : SR w0 B Io R ρ Fr st a w) (hd : (ops[j]?).bind (·.dst) = some sl) (hb : ev st (.tmp sl) = .bool b) : yielded ops a.tmps j = some b := by
  have h1 := h.ev (.tmp sl)
  rw [hb] at h1
  have h1 : a.tmps.getD sl undef = .bool b := h1
  have h2 : a.tmps[sl]? = some (.bool b) := by
    rw [Array.getD_eq_getD_getElem?] at h1
    cases h3 : a.tmps[sl]? with
    | none => rw [h3] at h1; cases h1
    | some v => rw [h3] at h1; simpa using h1
  unfold Go.yielded
  rw [hd]
  simp [h2]

theorem yielded_none {ops : Array Oper} {j sl : Nat} (h : SR w0 B Io R ρ Fr st a w) (hd : (ops[j]?).bind (·.dst) = some sl) (hb : ev st (.tmp sl) = .tup []) : yielded ops a.tmps j = none := by
  have h1 := h.ev (.tmp sl)
  rw [hb] at h1
  obtain ⟨us, h1, h2, _⟩ := h1
  have h1 : a.tmps.getD sl undef = .tuple us := h1
  have h3 : us = #[] := Array.eq_empty_of_size_eq_zero h2
  subst h3
  rw [Array.getD_eq_getD_getElem?] at h1
  unfold Go.yielded
  rw [hd]
  simp only [Option.bind_some]
  cases h4 : a.tmps[sl]? with
  | none => rfl
  | some v => rw [h4] at h1; simp only [Option.getD_some] at h1; subst h1; rfl

theorem evalOps_sound {env : Nat → Option Callee} (henv : EnvOk P env) {ops : Array Oper} {Q : Exit → Act → World → Prop} : ∀ {l : List Oper} {j ib : Nat} {st st' : St} {a : Act} {w : World}, (∀ i, l[i]? = ops[j + i]?) →
    evalOps P env ops l ib st some = some st' → In w0 B Io ib st a w → (∀ a w, In w0 B Io (ib + 16 * l.length) st' a w → Q .normal a w) → wpOps P ops Q (List.range' j l.length) a w
  | [], j, ib, st, st', a, w, hl, he, h, hQ => by
    cases he
    exact hQ a w (by simpa using h)
  | o :: l, j, ib, st, st', a, w, hl, he, h, hQ => by
    have hj : ops[j]? = some o := by have := hl 0; simpa using this.symm
    have hl' : ∀ i, l[i]? = ops[j + 1 + i]? := fun i => by
      have := hl (i + 1)
      rw [show j + 1 + i = j + (i + 1) by omega, ← this]
      simp
    have hlen : ib + 16 * (o :: l).length = ib + 16 + 16 * l.length := by simp; omega
    rw [hlen] at hQ
    have run : ∀ {s : St}, In w0 B Io ib s a w → stepL P env ib s o (fun d => evalOps P env ops l (ib + 16) d some) = some st' → o.wp P a w (wpOps P ops Q (List.range' (j + 1) l.length)) Q := fun {s} h he => by
      unfold stepL at he
      split at he
      · rename_i r hr
        subst he
        obtain ⟨R, ρ, h⟩ := h
        obtain ⟨d, h1, h2⟩ := sp_sound h hr
        refine h2 _ _ fun v w' ⟨R', ρ', h3⟩ => ?_
        exact evalOps_sound henv hl' h1 ⟨R', ρ', h3⟩ hQ
      · obtain ⟨R, ρ, h⟩ := h
        obtain ⟨R, h⟩ := h.frzOp env o
        obtain ⟨d, h1, h2⟩ := op_sound henv h (.refl _) (fun i hi => hi.1) he
        refine h2 _ _ fun v w' ⟨R', ρ', h3⟩ => ?_
        exact evalOps_sound henv hl' h1 ⟨R', ρ', h3.weaken fun i hi => ⟨by omega, fun e => by have := e.2; omega⟩⟩ hQ
    have skip : ∀ {s : St}, In w0 B Io ib s a w → evalOps P env ops l (ib + 16) (s.put o.dst (.tup [])) some = some st' → wpOps P ops Q (List.range' (j + 1) l.length) (a.put o.dst undef) w := fun {s} h he => by
      obtain ⟨R, ρ, h⟩ := h
      exact evalOps_sound henv hl' he ⟨R, ρ, (h.skipped o.dst).weaken fun i hi => by omega⟩ hQ
    show wpOps P ops Q (j :: List.range' (j + 1) l.length) a w
    unfold wpOps
    simp only [hj]
    simp only [evalOps] at he
    split at he
    · rename_i hg
      have : Region.wanted o (yielded ops a.tmps) = true := by simp [Region.wanted, hg]
      rw [if_pos this]
      exact .inl (run h he)
    · rename_i jg want hg
      split at he
      · cases he
      · rename_i sl hsl
        split at he
        · rename_i b hb
          have hy : yielded ops a.tmps jg = some b := by
            obtain ⟨R, ρ, h⟩ := h
            exact yielded_of h hsl hb
          have hw : Region.wanted o (yielded ops a.tmps) = (b == want) := by
            simp [Region.wanted, hg, hy]
          rw [hw]
          cases b <;> cases want <;> simp only [cond_true, cond_false] at he <;> rw [kn_self (ev_tmp hb (by simp))] at he
          · exact .inl (run h he)
          · exact skip h he
          · exact skip h he
          · exact .inl (run h he)
        · rename_i hb
          have hy : yielded ops a.tmps jg = none := by
            obtain ⟨R, ρ, h⟩ := h
            exact yielded_none h hsl hb
          have hw : Region.wanted o (yielded ops a.tmps) = false := by
            simp [Region.wanted, hg, hy]
          rw [hw]
          exact skip h he
        · cases he
end Go.OAI
