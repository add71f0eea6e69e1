/- One operation, whatever it be. The evaluator's continuations are no more than that. Regions in the order of the text. -/
import Derived.Test.YtejiaikhdjanoaaGreatC4
namespace Go.OAI
set_option linter.unusedVariables false
variable {P : Program} {w0 : W0} {w : World} {B : Nat} {Io R : Nat → Prop} {ρ : Nat → Option Pl} {Fr : Nat → Prop} {st s : St} {a : Act}
def FrzB (st : St) (ρ : Nat → Option Pl) (ids : List Nat) (b : Nat) : Prop := ∃ id ∈ ids, ∃ o p, st.ob id = some o ∧ ρ id = some p ∧ blkO p b
theorem frz1_CA (h : SR w0 B Io R ρ Fr st a w) (ids : List Nat) {v : Value} {x : AVal} (hx : CA w0 w R ρ v x) : CA w0 w (fun b => R b ∨ FrzB st ρ ids b) ρ v (frz1 st ids x) := by
  have mono : ∀ {y : AVal}, CA w0 w R ρ v y → CA w0 w (fun b => R b ∨ FrzB st ρ ids b) ρ v y := fun hy => hy.mono (.refl _ _) (fun _ hb => .inl hb) (.refl _)
  cases x
  case sref id row win =>
    unfold frz1
    dsimp only
    split
    · rename_i hid
      cases hf : full st id row with
      | none => exact hx.one
      | some z =>
        obtain ⟨T, l⟩ := z
        refine CA.ofR (resCell_ro (R2 := fun b => R b ∨ FrzB st ρ ids b) h hx (y := .sl T (winL win l)) (by simp [resCell, hf]) (fun b hb => .inl hb) fun b hb => .inr ?_)
        have hid : id ∈ ids := by simpa using hid
        obtain ⟨o, ho⟩ : ∃ o, st.ob id = some o := by
          cases ho : st.ob id with
          | none => simp [full, ho] at hf
          | some o => exact ⟨o, rfl⟩
        obtain ⟨p, hp, _⟩ := h.ob id o ho
        refine ⟨id, hid, o, p, ho, hp, ?_⟩
        simp only [cellBlk] at hb
        cases row with
        | none => obtain ⟨p', hp', hb⟩ := hb; rw [hp] at hp'; cases hp'; exact hb
        | some r =>
          obtain ⟨o', p', g1, g2, g3⟩ := blkR_obj (q := (id, some r)) h ⟨by rw [ho]; simp, hb⟩
          rw [hp] at g2; cases g2; exact g3
    · exact mono hx
  case ptr id c =>
    unfold frz1
    dsimp only
    split
    · exact hx.one
    · exact mono hx
  case eptr id row i c =>
    unfold frz1
    dsimp only
    split
    · exact hx.one
    · exact mono hx
  all_goals exact mono hx
theorem VA_CA {v : Value} {x : AVal} (h1 : ∀ cs, x ≠ .agg cs) (h2 : ∀ vs, x ≠ .tup vs) (h3 : x ≠ .undef) (hx : VA w0 w R ρ v x) : CA w0 w R ρ v x := by
  cases x <;> first | exact hx | exact absurd rfl (h1 _) | exact absurd rfl (h2 _) | exact absurd rfl h3
theorem frzV_VA (h : SR w0 B Io R ρ Fr st a w) (ids : List Nat) {v : Value} {x : AVal} (hx : VA w0 w R ρ v x) : VA w0 w (fun b => R b ∨ FrzB st ρ ids b) ρ v (frzV st ids x) := by
  cases x
  case agg cs =>
    obtain ⟨us, h1, h2, h3⟩ := hx
    refine ⟨us, h1, by simp [h2], fun i u y hu hy => ?_⟩
    simp only [List.getElem?_map, Option.map_eq_some_iff] at hy
    obtain ⟨z, hz, rfl⟩ := hy
    exact frz1_CA h ids (h3 i u z hu hz)
  case tup => exact trivial
  case undef => exact trivial
  all_goals exact VA.ofC (frz1_CA h ids (VA_CA (by simp) (by simp) (by simp) hx))
theorem SR.frz (h : SR w0 B Io R ρ Fr st a w) (ids : List Nat) : SR w0 B Io (fun b => R b ∨ FrzB st ρ ids b) ρ Fr (st.frz ids) a w := by
  have key : ∀ {id : Nat} {o : Obj}, (st.frz ids).ob id = some o → id ∉ ids ∧ ∃ o', st.ob id = some o' ∧ o = frzO st ids o' := fun {id o} ho => by
    simp only [St.frz] at ho
    split at ho
    · cases ho
    · rename_i hid
      split at ho
      · rename_i o' ho'
        cases ho
        exact ⟨by simpa using hid, o', ho', rfl⟩
      · cases ho
  refine { size := h.size, dfr := h.dfr, tm := fun t => frzV_VA h ids (h.tm t), ob := fun id o ho => ?_, sep := fun i o1 j o2 p1 p2 b hij h1 h2 => ?_, own := fun id o p b ho hp hb => ?_, rlt := fun b hb => ?_, frame := h.frame, size0 := h.size0, fr := h.fr, r0 := fun b hb => .inl (h.r0 b hb), r1 := fun b hb => ?_, q := h.q, par := h.par, f0 := h.f0 }
  · obtain ⟨_, o', ho', rfl⟩ := key ho
    obtain ⟨p, hp, hoa⟩ := h.ob id o' ho'
    refine ⟨p, hp, ?_⟩
    have hoa := hoa.mono (R' := fun b => R b ∨ FrzB st ρ ids b) (.refl _ _) (fun _ hb => .inl hb) (.refl ρ) (fun _ _ => rfl)
    cases o' with
    | box cs =>
      obtain ⟨p2, hp2, b, off, arr, E, rfl, e2, e3⟩ := h.ob id _ ho'
      rw [hp] at hp2; cases hp2
      refine ⟨b, off, arr, E, rfl, e2, fun k x hx => ?_⟩
      simp only [List.getElem?_map, Option.map_eq_some_iff] at hx
      obtain ⟨z, hz, rfl⟩ := hx
      obtain ⟨u, g1, g2⟩ := e3 k z hz
      exact ⟨u, g1, frz1_CA h ids g2⟩
    | sl T l => exact hoa
    | mat T l => exact hoa
    | matH T l h0 o0 => exact hoa
  · obtain ⟨_, o1', e1, _⟩ := key h1
    obtain ⟨_, o2', e2, _⟩ := key h2
    exact h.sep i o1' j o2' p1 p2 b hij e1 e2
  · obtain ⟨hid, o', ho', _⟩ := key ho
    obtain ⟨z1, z2, z3⟩ := h.own id o' p b ho' hp hb
    refine ⟨z1, ?_, z3⟩
    rintro (h' | ⟨id2, hid2, o2, p2, g1, g2, g3⟩)
    · exact z2 h'
    · exact h.sep id o' id2 o2 p p2 b (fun e => hid (by rw [e]; exact hid2)) ho' g1 hp g2 hb g3
  · rcases hb with hb | ⟨id2, hid2, o2, p2, g1, g2, g3⟩
    · exact h.rlt b hb
    · exact (h.own id2 o2 p2 b g1 g2 g3).1
  · rcases hb with hb | ⟨id2, hid2, o2, p2, g1, g2, g3⟩
    · exact h.r1 b hb
    · exact .inr (h.own id2 o2 p2 b g1 g2 g3).2.2
theorem SR.frzOp (h : SR w0 B Io R ρ Fr st a w) (env : Nat → Option Callee) (o : Oper) : ∃ R, SR w0 B Io R ρ Fr (Go.OAI.frzOp env st o) a w := by
  unfold Go.OAI.frzOp
  split
  · split
    · split
      · split
        · split
          · split
            · exact ⟨R, h⟩
            · exact ⟨_, h.frz _⟩
          · exact ⟨R, h⟩
        · exact ⟨R, h⟩
      · exact ⟨R, h⟩
    · exact ⟨R, h⟩
  · exact ⟨R, h⟩
theorem op_sound {env : Nat → Option Callee} {ib : Nat} {α : Type} {k : Delta → Option α} {r : α} {o : Oper} (henv : EnvOk P env) (h : SR w0 B Io R ρ Fr st a w) (hs : Sub s st) (hf : ∀ i, Own ib i → Fr i)
    (he : evalOp P env ib s o k = some r) : ∃ d, k d = some r ∧ OpOk P w0 B Io Fr ib st a w o d := by
  have hfi : Fr ib := hf ib ⟨Nat.le_refl _, by omega⟩
  cases ho : o.op
  case move => exact ok_move h hs (.inl ho) he
  case assign => exact ok_move h hs (.inr ho) he
  case pick => exact ok_pick h hs ho he
  case alloc => exact ok_alloc h hs hfi ho he
  case box => exact ok_box h hs hfi ho he
  case build => exact ok_build h hs ho he
  case convert => exact ok_convert h hs ho he
  case index => exact ok_index h hs ho he
  case makeFunc => exact ok_makeFunc h hs ho he
  case buildSlice =>
    obtain ⟨ob, h1, h2⟩ := ok_buildSlice h hs hfi ho he
    exact ⟨_, h1, h2⟩
  case load => exact ok_load h hs ho he
  case store => exact ok_store h hs ho he
  case binOp => exact ok_binOp h hs ho he
  case unOp => exact ok_unOp h hs ho he
  case makeSlice => exact ok_makeSlice h hs hfi ho he
  case slice => exact ok_slice h hs ho he
  case fieldAddr => exact ok_fieldAddr h hs ho he
  case field => exact ok_field h hs ho he
  case indexAddr => exact ok_indexAddr h hs ho he
  case nilCheck => exact ok_nilCheck h hs ho he
  case extract => exact ok_extract h hs ho he
  case call c =>
    cases hc : c.callee
    case value f => exact ok_call henv h hs hf ho hc he
    case builtin b =>
      cases b
      case len => exact ok_len h hs ho hc he
      case min => exact ok_min h hs ho hc he
      case max => exact ok_max h hs ho hc he
      case append => exact ok_append h hs hfi ho hc he
      all_goals (unfold evalOp at he; simp only [ho, hc] at he; cases he)
    all_goals (unfold evalOp at he; simp only [ho, hc] at he; cases he)
  all_goals (unfold evalOp at he; simp only [ho] at he; cases he)
theorem SR.lit {st2 : St} (h : SR w0 B Io R ρ Fr st a w) {ib : Nat} (hn : st2.n = st.n) (hpr : st2.pr = st.pr) (htm : ∀ t, VA w0 w (fun b => R b ∨ FrzB st ρ [ib] b) ρ (tmv w0 a t) (st2.tm t))
    (hob : ∀ id o, st2.ob id = some o → id ≠ ib ∧ st.ob id = some o) : SR w0 B Io (fun b => R b ∨ FrzB st ρ [ib] b) ρ Fr st2 a w where
  size := by rw [hn]; exact h.size
  dfr := h.dfr
  tm := htm
  ob := fun id o ho => by
    obtain ⟨_, ho⟩ := hob id o ho
    obtain ⟨p, h1, h2⟩ := h.ob id o ho
    exact ⟨p, h1, h2.mono (fun b hb => rfl) (fun b hb => .inl hb) (.refl _) (fun b hb => rfl)⟩
  sep := fun id o id' o' p p' b hne h1 h2 => h.sep id o id' o' p p' b hne (hob _ _ h1).2 (hob _ _ h2).2
  own := fun id o p b ho hp hb => by
    obtain ⟨hid, ho⟩ := hob id o ho
    obtain ⟨q1, q2, q3⟩ := h.own id o p b ho hp hb
    refine ⟨q1, fun hR => ?_, q3⟩
    rcases hR with hR | ⟨i, hi, o', p', g1, g2, g3⟩
    · exact q2 hR
    · have hi := List.mem_singleton.1 hi
      exact h.sep id o i o' p p' b (by rw [hi]; exact hid) ho g1 hp g2 hb g3
  rlt := fun b hb => by
    rcases hb with hb | ⟨i, hi, o', p', g1, g2, g3⟩
    · exact h.rlt b hb
    · exact (h.own i o' p' b g1 g2 g3).1
  frame := h.frame
  size0 := h.size0
  fr := h.fr
  r0 := fun b hb => .inl (h.r0 b hb)
  q := h.q
  par := fun k v hk hv => h.par k v (by rw [← hpr]; exact hk) hv
  f0 := h.f0
  r1 := fun b hb => by
    rcases hb with hb | ⟨i, hi, o', p', g1, g2, g3⟩
    · exact h.r1 b hb
    · exact .inr (h.own i o' p' b g1 g2 g3).2.2
def Keep (kc : List (Nat × Nat)) (st0 st : St) : Prop := ∀ p ∈ kc, ∀ x, kcGet kc st0 p.1 p.2 = some x → ∃ cs, st.ob p.1 = some (.box cs) ∧ cs[p.2]? = some x
theorem kcGet_some {kc : List (Nat × Nat)} {st0 : St} {id c : Nat} {x : AVal} (h : kcGet kc st0 id c = some x) : (id, c) ∈ kc ∧ ∃ cs T l, st0.ob id = some (.box cs) ∧ cs[c]? = some x ∧ x = .sl T l := by
  unfold kcGet at h
  cases hb : kc.any fun p => p.1 == id && p.2 == c with
  | false => rw [hb] at h; cases h
  | true =>
    rw [hb, cond_true] at h
    refine ⟨?_, ?_⟩
    · obtain ⟨p, hp, he⟩ := List.any_eq_true.1 hb
      rw [Bool.and_eq_true] at he
      have h1 : p.1 = id := by simpa using he.1
      have h2 : p.2 = c := by simpa using he.2
      obtain ⟨a, b⟩ := p
      subst h1; subst h2
      exact hp
    · split at h
      · rename_i cs ho
        split at h
        · rename_i T l hc
          cases h
          exact ⟨cs, T, l, ho, hc, rfl⟩
        · cases h
      · cases h
theorem Keep.refl (kc : List (Nat × Nat)) (st0 : St) : Keep kc st0 st0 := fun p hp x hx => by
  obtain ⟨_, cs, T, l, h1, h2, _⟩ := kcGet_some hx
  exact ⟨cs, h1, h2⟩
theorem opJ_sound {env : Nat → Option Callee} {ops : Array Oper} {st0 : St} {kc : List (Nat × Nat)} {j ib : Nat} {d : Delta} {o : Oper} (henv : EnvOk P env) (h : SR w0 B Io R ρ Fr st a w) (hs : Sub s st) (hf : ∀ i, Own ib i → Fr i)
    (hk : Keep kc st0 st) (he : evalOpJ P env ops st0 kc j ib s o some = some d) : OpOk P w0 B Io Fr ib st a w o d := by
  have hfi : Fr ib := hf ib ⟨Nat.le_refl _, by omega⟩
  unfold evalOpJ at he
  split at he
  · rename_i T len ps _ ho
    obtain ⟨ob, h1, h2⟩ := ok_buildSlice h hs hfi ho he
    cases ob with
    | box => cases h1
    | mat => cases h1
    | matH => cases h1
    | sl E l =>
      cases h1
      intro next Q hn
      have hib : ∀ o', st.ob ib ≠ some o' := fun o' e => by
        obtain ⟨p, hp, _⟩ := h.ob ib o' e
        rw [h.fr ib hfi] at hp; cases hp
      refine h2 next Q fun v w' ⟨R', ρ', h3⟩ => hn v w' ⟨_, ρ', SR.lit h3 (ib := ib) ?_ ?_ (fun t => ?_) fun id o' ho' => ?_⟩
      · cases o.dst with
        | none => rfl
        | some t0 => simp only [St.app, St.put, St.setTm]; split <;> rfl
      · cases o.dst with
        | none => rfl
        | some t0 => simp only [St.app, St.put, St.setTm]; split <;> rfl
      · have hv := h3.tm t
        have hob : (st.app o.dst ⟨.sref ib none none, [(ib, some (.sl E l))]⟩).ob ib = some (.sl E l) := by simp [St.app, obUpd]
        have hmono : ∀ {x : AVal} {u : Value}, VA w0 w' R' ρ' u x → VA w0 w' (fun b => R' b ∨ FrzB (st.app o.dst ⟨.sref ib none none, [(ib, some (.sl E l))]⟩) ρ' [ib] b) ρ' u x := fun hx => hx.mono (fun b hb => rfl) (fun b hb => .inl hb) (.refl _)
        cases hd : o.dst with
        | none =>
          rw [hd] at hv hob hmono
          exact hmono hv
        | some t0 =>
          rw [hd] at hv hob hmono h3
          simp only [St.app, St.put, St.setTm] at hv ⊢
          by_cases hlt : t0 < st.n
          · simp only [hlt, decide_true] at hv ⊢
            by_cases ht : t = t0
            · simp only [ht, if_true] at hv ⊢
              have := frz1_CA h3 [ib] (v := tmv w0 (a.put (some t0) v) t0) (x := .sref ib none none) (VA_CA (by simp) (by simp) (by simp) hv)
              have e : frz1 (st.app (some t0) ⟨.sref ib none none, [(ib, some (.sl E l))]⟩) [ib] (.sref ib none none) = .sl E l := by
                simp only [frz1, List.contains_cons, List.contains_nil, beq_self_eq_true, Bool.true_or, full, hob]
                rfl
              rw [e] at this
              simp only [St.app, St.put, St.setTm, hlt, decide_true] at this
              exact VA.ofC this
            · simp only [ht, if_false] at hv ⊢
              simp only [St.app, St.put, St.setTm, hlt, decide_true] at hmono
              exact hmono hv
          · simp only [hlt, decide_false] at hv ⊢
            simp only [St.app, St.put, St.setTm, hlt, decide_false] at hmono
            exact hmono hv
      · have ho' : st.ob id = some o' := ho'
        have hid : id ≠ ib := fun e => hib o' (by rw [← e]; exact ho')
        refine ⟨hid, ?_⟩
        show obUpd st.ob _ id = some o'
        simp [obUpd, hid, ho']
  · rename_i T q ho
    have old : evalOp P env ib s o some = some d → OpOk P w0 B Io Fr ib st a w o d := fun he => by
      obtain ⟨d', h1, h2⟩ := op_sound henv h hs hf he
      cases h1
      exact h2
    split at he
    · exact old he
    · split at he
      · rename_i id c hg hn hq
        split at he
        · rename_i x hx
          cases he
          obtain ⟨hm, _⟩ := kcGet_some hx
          obtain ⟨cs, h1, h2⟩ := hk _ hm x hx
          have hs' : Sub { s with ob := st.ob } st := ⟨hs.tm, fun _ => .inr rfl, hs.n⟩
          have hq' : ev { s with ob := st.ob } q = .ptr id c := hq
          have he' : evalOp P env ib { s with ob := st.ob } o some = some ⟨x, []⟩ := by
            unfold evalOp
            rw [ho]
            simp only [hg, hn, hq', h1, takeV, cond_false, h2]
          obtain ⟨d', g1, g2⟩ := op_sound henv h hs' hf he'
          cases g1
          exact g2
        · exact old he
      · exact old he
  · obtain ⟨d', h1, h2⟩ := op_sound henv h hs hf he
    cases h1
    exact h2
variable {P : Program} {α β : Type}
theorem binA_nat (op : BinOp) (tb : Option Bool) (x y : AVal) (k : AVal → Option α) : binA op tb x y k = (binA op tb x y some).bind k := by
  unfold binA
  simp only [cond_eq_ite]
  repeat' (first | rfl | split)
theorem callA_nat (c : Callee) (ib : Nat) (st : St) (args : List AVal) (k : Delta → Option α) : callA c ib st args k = (callA c ib st args some).bind k := by
  unfold callA
  split
  · rfl
  split
  · rfl
  split
  · rfl
  rename_i x _
  cases c.G x with
  | none => rfl
  | some y =>
    simp only [Option.bind_some]
    rw [c.law, c.law]
    split
    · rfl
    split
    · rfl
    generalize instRes (c.out y).1 _ = z
    obtain ⟨v, ns, j'⟩ := z
    dsimp only
    split <;> rfl
theorem callG_nat (c : Callee) (ib : Nat) (st : St) (na : Nat) (L : List Arg) (k : Delta → Option α) : callG c ib st na L k = (callG c ib st na L some).bind k := by
  unfold callG
  split
  · rfl
  split
  · rfl
  split
  · rfl
  split
  · rfl
  rename_i x _
  cases c.G x with
  | none => rfl
  | some y =>
    simp only [Option.bind_some]
    rw [c.law, c.law]
    split
    · rfl
    split
    · rfl
    generalize instRes (c.out y).1 _ = z
    obtain ⟨v, ns, j'⟩ := z
    dsimp only
    split <;> rfl
theorem appendA_nat (T : TypeId) (ib : Nat) (st : St) (a b : AVal) (k : Delta → Option α) : appendA P T ib st a b k = (appendA P T ib st a b some).bind k := by
  unfold appendA
  simp only [cond_eq_ite]
  repeat' (first | rfl | split)
theorem evalOp_nat (env : Nat → Option Callee) (ib : Nat) (st : St) (o : Oper) (k : Delta → Option α) : evalOp P env ib st o k = (evalOp P env ib st o some).bind k := by
  unfold evalOp
  cases o.op
  case call c =>
    dsimp only
    repeat' (first | rfl | exact callA_nat _ _ _ _ _ | exact callG_nat _ _ _ _ _ _ | exact appendA_nat _ _ _ _ _ _ | split)
  case binOp =>
    dsimp only
    split
    · split <;> rfl
    rw [binA_nat _ _ _ _ (fun v => k ⟨v, []⟩), binA_nat _ _ _ _ (fun v => some (⟨v, []⟩ : Delta)), Option.bind_assoc]
    rfl
  case indexAddr =>
    dsimp only
    simp only [cond_eq_ite]
    repeat' (first | rfl | split)
    rw [Option.bind_assoc]
    rfl
  case index =>
    dsimp only
    simp only [cond_eq_ite]
    repeat' (first | rfl | split)
    rw [Option.bind_assoc]
    rfl
  all_goals
    dsimp only
    try simp only [cond_eq_ite]
    repeat' (first | rfl | split)
theorem cond_nat (c : Bool) (x y : Option α) (x' y' : Option β) (k : α → Option β) (h1 : x' = x.bind k) (h2 : y' = y.bind k) : cond c x' y' = (cond c x y).bind k := by
  cases c
  · exact h2
  · exact h1
theorem nat_step {A : Type} {X : Option A} {f : A → Option α} {g : A → Option β} {k : α → Option β} {L : Option β} {M : Option α} (h1 : L = X.bind g) (h2 : M = X.bind f) (h : ∀ a, g a = (f a).bind k) : L = M.bind k := by
  subst h1; subst h2
  rw [Option.bind_assoc]
  congr 1
  funext a
  exact h a
theorem sp_nat (ib : Nat) (st : St) (o : Oper) (k : St → Option α) : sp P ib st o k = (sp P ib st o some).map fun r => r.bind k := by
  unfold sp
  simp only [cond_eq_ite]
  repeat' (first | rfl | split)
theorem stepL_nat (env : Nat → Option Callee) (ib : Nat) (st : St) (o : Oper) (k : St → Option α) : stepL P env ib st o k = (stepL P env ib st o some).bind k := by
  unfold stepL
  rw [sp_nat (k := k)]
  cases h : sp P ib st o some with
  | some r => rfl
  | none =>
    simp only [Option.map_none]
    rw [evalOp_nat (k := fun d => k ((frzOp env st o).app o.dst d)), evalOp_nat (k := fun d => some ((frzOp env st o).app o.dst d)), Option.bind_assoc]
    rfl
theorem evalOps_nat (env : Nat → Option Callee) (ops : Array Oper) : ∀ (l : List Oper) (ib : Nat) (st : St) (k : St → Option α), evalOps P env ops l ib st k = (evalOps P env ops l ib st some).bind k
  | [], _, _, _ => rfl
  | o :: r, ib, st, k => by
    simp only [evalOps]
    have key : ∀ s : St, stepL P env ib s o (fun d => evalOps P env ops r (ib + 16) d k) = (stepL P env ib s o fun d => evalOps P env ops r (ib + 16) d some).bind k := fun s => by
      rw [stepL_nat (k := fun d => evalOps P env ops r (ib + 16) d k), stepL_nat (k := fun d => evalOps P env ops r (ib + 16) d some), Option.bind_assoc]
      congr 1
      funext d
      exact evalOps_nat env ops r _ _ k
    split
    · exact key st
    · split
      · rfl
      · split
        · refine cond_nat _ _ _ _ _ _ ?_ ?_
          · split
            · exact key _
            · exact evalOps_nat env ops r _ _ k
          · split
            · exact key _
            · exact evalOps_nat env ops r _ _ k
        · exact evalOps_nat env ops r _ _ k
        · rfl
theorem evalOpJ_nat (env : Nat → Option Callee) (ops : Array Oper) (st0 : St) (kc : List (Nat × Nat)) (j ib : Nat) (st : St) (o : Oper) (k : Delta → Option α) : evalOpJ P env ops st0 kc j ib st o k = (evalOpJ P env ops st0 kc j ib st o some).bind k := by
  unfold evalOpJ
  split
  · rw [evalOp_nat (k := fun d => (litK d).bind k), evalOp_nat (k := fun d => (litK d).bind some), Option.bind_assoc]
    congr 1
    funext d
    cases litK d <;> rfl
  · split
    · exact evalOp_nat _ _ _ _ _
    · split
      · split
        · rfl
        · exact evalOp_nat _ _ _ _ _
      · exact evalOp_nat _ _ _ _ _
  · exact evalOp_nat _ _ _ _ _
theorem evalD1_nat (env : Nat → Option Callee) (ops : Array Oper) (b : Array Nat) (st0 : St) (kc : List (Nat × Nat)) (j : Nat) (o : Oper) (st : St) (k : Delta → Option α) :
    evalD1 P env ops b st0 kc j o st k = (evalD1 P env ops b st0 kc j o st some).bind k := by
  unfold evalD1
  dsimp only
  split
  · refine nat_step (evalOpJ_nat _ _ _ _ _ _ _ _ _) (evalOpJ_nat _ _ _ _ _ _ _ _ _) fun d => ?_
    cases ((unord b ops.size j).isEmpty || updOk st0.nx j _ _ _ d) <;> cases keepOk st0 kc d <;> rfl
  · rfl
theorem evalD_nat (env : Nat → Option Callee) (ops : Array Oper) (b : Array Nat) (st0 : St) (kc : List (Nat × Nat)) : ∀ (l : List Oper) (j : Nat) (st : St) (k : St → Option α), evalD P env ops b st0 kc l j st k = (evalD P env ops b st0 kc l j st some).bind k
  | [], _, _, _ => rfl
  | o :: r, j, st, k => by
    simp only [evalD]
    have key : ∀ s : St, evalD1 P env ops b st0 kc j o s (fun d => evalD P env ops b st0 kc r (j + 1) (s.app o.dst d) k) = (evalD1 P env ops b st0 kc j o s fun d => evalD P env ops b st0 kc r (j + 1) (s.app o.dst d) some).bind k := fun s => by
      rw [evalD1_nat (k := fun d => evalD P env ops b st0 kc r (j + 1) (s.app o.dst d) k), evalD1_nat (k := fun d => evalD P env ops b st0 kc r (j + 1) (s.app o.dst d) some), Option.bind_assoc]
      congr 1
      funext d
      exact evalD_nat env ops b st0 kc r _ _ k
    split
    · exact key st
    · split
      · rfl
      · split
        · refine cond_nat _ _ _ _ _ _ ?_ ?_
          · split
            · exact key _
            · exact evalD_nat env ops b st0 kc r _ _ k
          · split
            · exact key _
            · exact evalD_nat env ops b st0 kc r _ _ k
        · exact evalD_nat env ops b st0 kc r _ _ k
        · rfl
theorem evalCode_nat (env : Nat → Option Callee) (or : Ora) : ∀ (c : Code) {α : Type} (st : St) (K : Ex → St → Option α), evalCode P env or c st K = (evalCode P env or c st fun e s => some (e, s)).bind fun p => K p.1 p.2
  | .skip, _, _, _ => rfl
  | .region _ ops draw, _, st, K => by
    cases draw
    · exact nat_step (evalOps_nat _ _ _ _ _ _) (evalOps_nat _ _ _ _ _ _) fun s => rfl
    · simp only [evalCode]
      exact cond_nat _ _ _ _ _ _ (nat_step (evalD_nat _ _ _ _ _ _ _ _ _) (evalD_nat _ _ _ _ _ _ _ _ _) fun s => rfl) rfl
  | .seq a b, _, st, K => by
    refine nat_step (evalCode_nat env or a st _) (evalCode_nat env or a st _) fun p => ?_
    obtain ⟨e, s⟩ := p
    cases e
    · exact evalCode_nat env or b s K
    · rfl
    · rfl
  | .cond c a b, _, st, K => by
    simp only [evalCode]
    split
    · exact cond_nat _ _ _ _ _ _ (evalCode_nat env or a st K) (evalCode_nat env or b st K)
    · rfl
  | .block i b, _, st, K => by
    refine nat_step (evalCode_nat env or b st _) (evalCode_nat env or b st _) fun p => ?_
    obtain ⟨e, s⟩ := p
    cases e
    · rfl
    · dsimp only
      split <;> rfl
    · rfl
  | .loop b, _, st, K => by
    simp only [evalCode]
    split
    · rename_i L _
      split
      · split
        · rename_i x _
          rw [Option.bind_assoc]
          congr 1
          funext y
          rw [L.law, L.law]
          rfl
        · rfl
      · rfl
    · rfl
  | .exit _, _, _, _ => rfl
  | .ret, _, _, _ => rfl
  | .goto .., _, _, _ => rfl
  | .label .., _, _, _ => rfl
  | .scope .., _, _, _ => rfl
  | .rangeFunc .., _, _, _ => rfl
  | .refuse .., _, _, _ => rfl
variable {P : Program} {w0 : W0} {w : World} {B : Nat} {Io R : Nat → Prop} {ρ : Nat → Option Pl} {Fr : Nat → Prop} {st s : St} {a : Act}
def In (w0 : W0) (B : Nat) (Io : Nat → Prop) (nx : Nat) (st : St) (a : Act) (w : World) : Prop := ∃ R ρ, SR w0 B Io R ρ (fun i => nx ≤ i) st a w
theorem kn_self {st : St} {t : Nat} {v : AVal} (h : st.tm t = v) : st.kn t v = st := by
  unfold St.kn
  have : (fun u => if u = t then v else st.tm u) = st.tm := by
    funext u
    by_cases e : u = t
    · subst e; simp [h]
    · simp [e]
  rw [this]
theorem ev_tmp {st : St} {t : Nat} {v : AVal} (h : ev st (.tmp t) = v) (hv : v ≠ .undef) : st.tm t = v := by
  simp only [ev] at h
  split at h
  · exact h
  · exact absurd h.symm hv
theorem yielded_of {ops : Array Oper} {j sl : Nat} {b : Bool} (h : SR w0 B Io R ρ Fr st a w) (hd : (ops[j]?).bind (·.dst) = some sl) (hb : ev st (.tmp sl) = .bool b) : yielded ops a.tmps j = some b := by
  have h1 := h.ev (.tmp sl)
  rw [hb] at h1
  have h1 : a.tmps.getD sl undef = .bool b := h1
  have h2 : a.tmps[sl]? = some (.bool b) := by
    rw [Array.getD_eq_getD_getElem?] at h1
    cases h3 : a.tmps[sl]? with
    | none => rw [h3] at h1; cases h1
    | some v => rw [h3] at h1; simpa using h1
  unfold Go.yielded
  rw [hd]
  simp [h2]
theorem yielded_none {ops : Array Oper} {j sl : Nat} (h : SR w0 B Io R ρ Fr st a w) (hd : (ops[j]?).bind (·.dst) = some sl) (hb : ev st (.tmp sl) = .tup []) : yielded ops a.tmps j = none := by
  have h1 := h.ev (.tmp sl)
  rw [hb] at h1
  obtain ⟨us, h1, h2, _⟩ := h1
  have h1 : a.tmps.getD sl undef = .tuple us := h1
  have h3 : us = #[] := Array.eq_empty_of_size_eq_zero h2
  subst h3
  rw [Array.getD_eq_getD_getElem?] at h1
  unfold Go.yielded
  rw [hd]
  simp only [Option.bind_some]
  cases h4 : a.tmps[sl]? with
  | none => rfl
  | some v => rw [h4] at h1; simp only [Option.getD_some] at h1; subst h1; rfl
theorem evalOps_sound {env : Nat → Option Callee} (henv : EnvOk P env) {ops : Array Oper} {Q : Exit → Act → World → Prop} : ∀ {l : List Oper} {j ib : Nat} {st st' : St} {a : Act} {w : World}, (∀ i, l[i]? = ops[j + i]?) →
    evalOps P env ops l ib st some = some st' → In w0 B Io ib st a w → (∀ a w, In w0 B Io (ib + 16 * l.length) st' a w → Q .normal a w) → wpOps P ops Q (List.range' j l.length) a w
  | [], j, ib, st, st', a, w, hl, he, h, hQ => by
    cases he
    exact hQ a w (by simpa using h)
  | o :: l, j, ib, st, st', a, w, hl, he, h, hQ => by
    have hj : ops[j]? = some o := by have := hl 0; simpa using this.symm
    have hl' : ∀ i, l[i]? = ops[j + 1 + i]? := fun i => by
      have := hl (i + 1)
      rw [show j + 1 + i = j + (i + 1) by omega, ← this]
      simp
    have hlen : ib + 16 * (o :: l).length = ib + 16 + 16 * l.length := by simp; omega
    rw [hlen] at hQ
    have run : ∀ {s : St}, In w0 B Io ib s a w → stepL P env ib s o (fun d => evalOps P env ops l (ib + 16) d some) = some st' → o.wp P a w (wpOps P ops Q (List.range' (j + 1) l.length)) Q := fun {s} h he => by
      unfold stepL at he
      split at he
      · rename_i r hr
        subst he
        obtain ⟨R, ρ, h⟩ := h
        obtain ⟨d, h1, h2⟩ := sp_sound h hr
        refine h2 _ _ fun v w' ⟨R', ρ', h3⟩ => ?_
        exact evalOps_sound henv hl' h1 ⟨R', ρ', h3⟩ hQ
      · obtain ⟨R, ρ, h⟩ := h
        obtain ⟨R, h⟩ := h.frzOp env o
        obtain ⟨d, h1, h2⟩ := op_sound henv h (.refl _) (fun i hi => hi.1) he
        refine h2 _ _ fun v w' ⟨R', ρ', h3⟩ => ?_
        exact evalOps_sound henv hl' h1 ⟨R', ρ', h3.weaken fun i hi => ⟨by omega, fun e => by have := e.2; omega⟩⟩ hQ
    have skip : ∀ {s : St}, In w0 B Io ib s a w → evalOps P env ops l (ib + 16) (s.put o.dst (.tup [])) some = some st' → wpOps P ops Q (List.range' (j + 1) l.length) (a.put o.dst undef) w := fun {s} h he => by
      obtain ⟨R, ρ, h⟩ := h
      exact evalOps_sound henv hl' he ⟨R, ρ, (h.skipped o.dst).weaken fun i hi => by omega⟩ hQ
    show wpOps P ops Q (j :: List.range' (j + 1) l.length) a w
    unfold wpOps
    simp only [hj]
    simp only [evalOps] at he
    split at he
    · rename_i hg
      have : Region.wanted o (yielded ops a.tmps) = true := by simp [Region.wanted, hg]
      rw [if_pos this]
      exact .inl (run h he)
    · rename_i jg want hg
      split at he
      · cases he
      · rename_i sl hsl
        split at he
        · rename_i b hb
          have hy : yielded ops a.tmps jg = some b := by
            obtain ⟨R, ρ, h⟩ := h
            exact yielded_of h hsl hb
          have hw : Region.wanted o (yielded ops a.tmps) = (b == want) := by
            simp [Region.wanted, hg, hy]
          rw [hw]
          cases b <;> cases want <;> simp only [cond_true, cond_false] at he <;> rw [kn_self (ev_tmp hb (by simp))] at he
          · exact .inl (run h he)
          · exact skip h he
          · exact skip h he
          · exact .inl (run h he)
        · rename_i hb
          have hy : yielded ops a.tmps jg = none := by
            obtain ⟨R, ρ, h⟩ := h
            exact yielded_none h hsl hb
          have hw : Region.wanted o (yielded ops a.tmps) = false := by
            simp [Region.wanted, hg, hy]
          rw [hw]
          exact skip h he
        · cases he
variable {P : Program} {w0 : W0} {w : World} {B : Nat} {Io R : Nat → Prop} {ρ : Nat → Option Pl} {Fr : Nat → Prop} {st s : St} {a : Act}
variable {env : Nat → Option Callee} {ops : Array Oper} {b : Array Nat} {st0 : St} {kc : List (Nat × Nat)}
def wantedA (ops : Array Oper) (o : Oper) (st : St) : Option Bool :=
  match o.guard with
  | none => some true
  | some (g, want) => match dstOf ops g with
    | none => none
    | some s => match ev st (.tmp s) with
      | .bool c => some (c == want)
      | .tup [] => some false
      | _ => none
def Val (P : Program) (env : Nat → Option Callee) (ops : Array Oper) (b : Array Nat) (st0 : St) (kc : List (Nat × Nat)) (j : Nat) (o : Oper) (st : St) (d : Delta) : Prop :=
  ∃ hid ms, hidOf P env ops st0.nx st0 (unord b ops.size j) = some hid ∧ (unord b ops.size j ≠ [] → modIds P env ops st0.nx st0 o = some ms ∧ updOk st0.nx j (unord b ops.size j) ms hid d = true) ∧ keepOk st0 kc d = true ∧
    evalOpJ P env ops st0 kc j (st0.nx + 16 * j) (maskSt ops st0.nx (unord b ops.size j) hid st) o some = some d
def Eff (P : Program) (env : Nat → Option Callee) (ops : Array Oper) (b : Array Nat) (st0 : St) (kc : List (Nat × Nat)) (j : Nat) (st : St) (d : Delta) : Prop :=
  ∃ o, ops[j]? = some o ∧ ((wantedA ops o st = some true ∧ Val P env ops b st0 kc j o st d) ∨ (wantedA ops o st = some false ∧ d = ⟨.tup [], []⟩))
def Chain (P : Program) (env : Nat → Option Callee) (ops : Array Oper) (b : Array Nat) (st0 : St) (kc : List (Nat × Nat)) : List Nat → St → St → Prop
  | [], st, fin => st = fin
  | j :: r, st, fin => ∃ d, Eff P env ops b st0 kc j st d ∧ Chain P env ops b st0 kc r (st.app (dstOf ops j) d) fin
theorem evalD1_val {j : Nat} {o : Oper} {st : St} {α : Type} {k : Delta → Option α} {r : α} (he : evalD1 P env ops b st0 kc j o st k = some r) : ∃ d, Val P env ops b st0 kc j o st d ∧ k d = some r := by
  rw [evalD1_nat] at he
  obtain ⟨d, hd, hk⟩ := Option.bind_eq_some_iff.1 he
  refine ⟨d, ?_, hk⟩
  unfold evalD1 at hd
  dsimp only at hd
  split at hd
  · rename_i hid ms h1 h2
    rw [evalOpJ_nat] at hd
    obtain ⟨d', hd', hk'⟩ := Option.bind_eq_some_iff.1 hd
    cases hu : (unord b ops.size j).isEmpty || updOk st0.nx j (unord b ops.size j) ms hid d' with
    | false => rw [hu] at hk'; cases hk'
    | true =>
      rw [hu, cond_true] at hk'
      cases hkc : keepOk st0 kc d' with
      | false => rw [hkc] at hk'; cases hk'
      | true =>
      rw [hkc] at hk'
      cases hk'
      refine ⟨hid, ms, h1, fun hne => ?_, hkc, hd'⟩
      have he : (unord b ops.size j).isEmpty = false := by
        cases h : unord b ops.size j with
        | nil => exact absurd h hne
        | cons => rfl
      rw [he] at h2 hu
      simpa using ⟨h2, hu⟩
  · cases hd
theorem evalD_chain : ∀ {l : List Oper} {j : Nat} {st fin : St}, (∀ i, l[i]? = ops[j + i]?) → evalD P env ops b st0 kc l j st some = some fin → Chain P env ops b st0 kc (List.range' j l.length) st fin
  | [], j, st, fin, hl, he => by cases he; rfl
  | o :: l, j, st, fin, hl, he => by
    have hj : ops[j]? = some o := by have := hl 0; simpa using this.symm
    have hd : dstOf ops j = o.dst := by simp [dstOf, hj]
    have hl' : ∀ i, l[i]? = ops[j + 1 + i]? := fun i => by
      have := hl (i + 1)
      rw [show j + 1 + i = j + (i + 1) by omega, ← this]
      simp
    show ∃ d, _ ∧ Chain P env ops b st0 kc (List.range' (j + 1) l.length) _ fin
    rw [hd]
    have run : wantedA ops o st = some true → evalD1 P env ops b st0 kc j o st (fun d => evalD P env ops b st0 kc l (j + 1) (st.app o.dst d) some) = some fin → ∃ d, Eff P env ops b st0 kc j st d ∧ Chain P env ops b st0 kc (List.range' (j + 1) l.length) (st.app o.dst d) fin := fun hw he => by
      obtain ⟨d, h1, h2⟩ := evalD1_val he
      exact ⟨d, ⟨o, hj, .inl ⟨hw, h1⟩⟩, evalD_chain hl' h2⟩
    have skip : wantedA ops o st = some false → evalD P env ops b st0 kc l (j + 1) (st.put o.dst (.tup [])) some = some fin → ∃ d, Eff P env ops b st0 kc j st d ∧ Chain P env ops b st0 kc (List.range' (j + 1) l.length) (st.app o.dst d) fin := fun hw he =>
      ⟨⟨.tup [], []⟩, ⟨o, hj, .inr ⟨hw, rfl⟩⟩, by rw [app_nil]; exact evalD_chain hl' he⟩
    simp only [evalD] at he
    split at he
    · rename_i hg
      exact run (by simp [wantedA, hg]) he
    · rename_i jg want hg
      split at he
      · cases he
      · rename_i sl hsl
        split at he
        · rename_i c hb
          have hsl' : dstOf ops jg = some sl := hsl
          have hw : wantedA ops o st = some (c == want) := by simp [wantedA, hg, hsl', hb]
          cases c <;> cases want <;> simp only [cond_true, cond_false] at he <;> rw [kn_self (ev_tmp hb (by simp))] at he
          · exact run hw he
          · exact skip hw he
          · exact skip hw he
          · exact run hw he
        · rename_i hb
          have hsl' : dstOf ops jg = some sl := hsl
          exact skip (by simp [wantedA, hg, hsl', hb]) he
        · cases he
theorem app_tm (st : St) (d : Option Nat) (x : Delta) (t : Nat) : (st.app d x).tm t = if d = some t ∧ t < st.n then x.val else st.tm t := by
  show (st.put d x.val).tm t = _
  cases d with
  | none => simp [St.put]
  | some d =>
    simp only [St.put, setTm_tm, Option.some.injEq]
    by_cases e : t = d
    · subst e; simp
    · have e' : ¬ d = t := fun h => e h.symm
      simp [e, e']
theorem app_ob (st : St) (d : Option Nat) (x : Delta) : (st.app d x).ob = obUpd st.ob x.upd := rfl
theorem app_nx (st : St) (d : Option Nat) (x : Delta) : (st.app d x).nx = st.nx := by
  show (st.put d x.val).nx = _
  simp
theorem app_n (st : St) (d : Option Nat) (x : Delta) : (st.app d x).n = st.n := by
  show (st.put d x.val).n = _
  simp
theorem obUpd_not : ∀ {u : List (Nat × Option Obj)} {ob : Nat → Option Obj} {id : Nat}, (∀ p ∈ u, p.1 ≠ id) → obUpd ob u id = ob id
  | [], _, _, _ => rfl
  | (i, o) :: u, ob, id, h => by
    show obUpd (fun j => if j = i then o else ob j) u id = _
    rw [obUpd_not fun p hp => h p (List.mem_cons_of_mem _ hp)]
    have : ¬ id = i := fun e => h (i, o) List.mem_cons_self e.symm
    simp [this]
theorem obUpd_in : ∀ {u : List (Nat × Option Obj)} {ob ob' : Nat → Option Obj} {id : Nat}, (∃ p ∈ u, p.1 = id) → obUpd ob u id = obUpd ob' u id
  | [], _, _, _, h => by obtain ⟨p, hp, _⟩ := h; simp at hp
  | (i, o) :: u, ob, ob', id, h => by
    show obUpd (fun j => if j = i then o else ob j) u id = obUpd (fun j => if j = i then o else ob' j) u id
    by_cases hu : ∃ p ∈ u, p.1 = id
    · exact obUpd_in hu
    · have hu' : ∀ p ∈ u, p.1 ≠ id := fun p hp e => hu ⟨p, hp, e⟩
      rw [obUpd_not hu', obUpd_not hu']
      obtain ⟨p, hp, e⟩ := h
      rcases List.mem_cons.1 hp with rfl | hp
      · simp at e; simp [e]
      · exact absurd e (hu' p hp)
theorem obUpd_comm {u v : List (Nat × Option Obj)} (ob : Nat → Option Obj) (h : ∀ p ∈ u, ∀ q ∈ v, p.1 ≠ q.1) : obUpd (obUpd ob u) v = obUpd (obUpd ob v) u := by
  funext id
  by_cases hu : ∃ p ∈ u, p.1 = id
  · have hv : ∀ q ∈ v, q.1 ≠ id := fun q hq e => by obtain ⟨p, hp, e'⟩ := hu; exact h p hp q hq (by rw [e, e'])
    rw [obUpd_not hv]
    exact obUpd_in hu
  · have hu' : ∀ p ∈ u, p.1 ≠ id := fun p hp e => hu ⟨p, hp, e⟩
    rw [obUpd_not (ob := obUpd ob v) hu']
    by_cases hv : ∃ p ∈ v, p.1 = id
    · exact obUpd_in hv
    · have hv' : ∀ p ∈ v, p.1 ≠ id := fun p hp e => hv ⟨p, hp, e⟩
      rw [obUpd_not hv', obUpd_not hu', obUpd_not hv']
theorem app_pr (st : St) (d : Option Nat) (x : Delta) : (st.app d x).pr = match d with | some t => if t < st.n then st.pr.filter (fun k => k != t) else st.pr | none => st.pr := by
  show (st.put d x.val).pr = _
  cases d with
  | none => rfl
  | some d =>
    simp only [St.put, St.setTm]
    by_cases h : d < st.n <;> simp [h]
def Un (ops : Array Oper) (b : Array Nat) (i j : Nat) : Prop := i < ops.size ∧ j < ops.size ∧ i ≠ j ∧ (b.getD j 0).testBit i = false ∧ (b.getD i 0).testBit j = false
theorem Un.symm {i j : Nat} (h : Un ops b i j) : Un ops b j i := ⟨h.2.1, h.1, fun e => h.2.2.1 e.symm, h.2.2.2.2, h.2.2.2.1⟩
theorem Un.mem {i j : Nat} (h : Un ops b i j) : i ∈ unord b ops.size j := by
  unfold unord
  rw [List.mem_filter]
  refine ⟨List.mem_range.2 h.1, ?_⟩
  rw [h.2.2.2.1, h.2.2.2.2]
  simp [h.2.2.1]
structure DOk (ops : Array Oper) (b : Array Nat) : Prop where
  dst : ∀ i j t, i ≠ j → dstOf ops i = some t → dstOf ops j = some t → False
  fwd : ∀ j o, ops[j]? = some o → ∀ e ∈ o.after, Region.binds .any e = true → e.on < j
  grd : ∀ j o g want, ops[j]? = some o → o.guard = some (g, want) → (b.getD j 0).testBit g = true
theorem drawnOk_spec (h : drawnOk ops b = true) : DOk ops b := by
  unfold drawnOk at h
  rw [Bool.and_eq_true] at h
  have h1 := of_decide_eq_true h.1
  have h2 := List.all_eq_true.1 h.2
  have lt : ∀ i j t, i < j → dstOf ops i = some t → dstOf ops j = some t → False := fun i j t hij hi hj => by
    simp only [dstOf, Option.bind_eq_some_iff] at hi hj
    obtain ⟨oi, hi, hti⟩ := hi
    obtain ⟨oj, hj, htj⟩ := hj
    have := List.pairwise_iff_getElem.1 h1 i j (by have := (Array.getElem?_eq_some_iff.1 hi).1; simpa using this) (by have := (Array.getElem?_eq_some_iff.1 hj).1; simpa using this) hij
    have ei : ops.toList[i]'(by have := (Array.getElem?_eq_some_iff.1 hi).1; simpa using this) = oi := by have := (Array.getElem?_eq_some_iff.1 hi).2; simpa using this
    have ej : ops.toList[j]'(by have := (Array.getElem?_eq_some_iff.1 hj).1; simpa using this) = oj := by have := (Array.getElem?_eq_some_iff.1 hj).2; simpa using this
    rw [ei, ej, hti, htj] at this
    simp at this
  have pt : ∀ (j : Nat) (o : Oper), ops[j]? = some o → (o.after.toList.all (fun e => !Region.binds .any e || decide (e.on < j)) && (match o.guard with
      | some (g, _) => (b.getD j 0).testBit g
      | none => true)) = true := fun j o ho => by
    have hlt := (Array.getElem?_eq_some_iff.1 ho).1
    have := h2 j (List.mem_range.2 hlt)
    rw [ho] at this
    exact this
  refine ⟨fun i j t hij hi hj => ?_, fun j o ho e he hb => ?_, fun j o g want ho hg => ?_⟩
  · rcases Nat.lt_or_gt_of_ne hij with h | h
    · exact lt i j t h hi hj
    · exact lt j i t h hj hi
  · have := pt j o ho
    rw [Bool.and_eq_true] at this
    have := List.all_eq_true.1 this.1 e (by simpa using he)
    simpa [hb] using this
  · have := pt j o ho
    rw [Bool.and_eq_true, hg] at this
    exact this.2
theorem Eff.conf {i j : Nat} {st : St} {d : Delta} (h : Eff P env ops b st0 kc i st d) (hu : Un ops b j i) {p : Nat × Option Obj} (hp : p ∈ d.upd) :
    (st0.nx + 16 * i ≤ p.1 ∧ p.1 < st0.nx + 16 * (i + 1)) ∨ (∃ o ms hid, ops[i]? = some o ∧ modIds P env ops st0.nx st0 o = some ms ∧ p.1 ∈ ms ∧ hidOf P env ops st0.nx st0 (unord b ops.size i) = some hid ∧ p.1 ∉ hid ∧ ∀ u ∈ unord b ops.size i, ¬ (st0.nx + 16 * u ≤ p.1 ∧ p.1 < st0.nx + 16 * (u + 1))) := by
  obtain ⟨o, ho, h | h⟩ := h
  · obtain ⟨_, hid, ms, h1, h2, h3⟩ := h
    obtain ⟨h4, h5⟩ := h2 (fun e => by have := hu.mem; rw [e] at this; simp at this)
    have := List.all_eq_true.1 h5 p hp
    simp only [Bool.or_eq_true, Bool.and_eq_true, decide_eq_true_eq, Bool.not_eq_true', List.contains_iff_mem, List.any_eq_false, decide_eq_true_eq] at this
    rcases this with h | ⟨h6, h7, h8⟩
    · exact .inl h
    · exact .inr ⟨o, ms, hid, ho, h4, h6, h1, by simpa using h7, fun u hu' => by have := h8 u hu'; simpa using this⟩
  · rw [h.2] at hp; simp at hp
theorem hidOf_mem : ∀ {us hid : List Nat}, hidOf P env ops st0.nx st0 us = some hid → ∀ u ∈ us, ∃ o ms, ops[u]? = some o ∧ modIds P env ops st0.nx st0 o = some ms ∧ ∀ x ∈ ms, x ∈ hid
  | [], hid, h, u, hu => by simp at hu
  | v :: us, hid, h, u, hu => by
    simp only [hidOf] at h
    split at h
    · rename_i a1 h1
      split at h
      · rename_i b1 h2
        cases h
        rcases List.mem_cons.1 hu with rfl | hu
        · obtain ⟨o, ho, hm⟩ := Option.map_eq_some_iff.1 h1
          exact ⟨o, a1, ho, hm, fun x hx => List.mem_append_left _ hx⟩
        · obtain ⟨o, ms, g1, g2, g3⟩ := hidOf_mem h2 u hu
          exact ⟨o, ms, g1, g2, fun x hx => List.mem_append_right _ (g3 x hx)⟩
      · cases h
    · cases h
theorem mask_app (hd : DOk ops b) {i j : Nat} {st : St} {d : Delta} {hid : List Nat} (h : Eff P env ops b st0 kc i st d) (hu : Un ops b i j) (hh : hidOf P env ops st0.nx st0 (unord b ops.size j) = some hid) :
    maskSt ops st0.nx (unord b ops.size j) hid (st.app (dstOf ops i) d) = maskSt ops st0.nx (unord b ops.size j) hid st := by
  have e1 : (maskSt ops st0.nx (unord b ops.size j) hid (st.app (dstOf ops i) d)).tm = (maskSt ops st0.nx (unord b ops.size j) hid st).tm := by
    funext t
    simp only [maskSt]
    cases hm : (unord b ops.size j).any (fun i => dstOf ops i == some t) with
    | true => rfl
    | false =>
      simp only [cond_false]
      rw [app_tm]
      have : ¬ dstOf ops i = some t := fun e => by
        have := List.any_eq_false.1 hm i hu.mem
        simp [e] at this
      simp [this]
  have e2 : (maskSt ops st0.nx (unord b ops.size j) hid (st.app (dstOf ops i) d)).ob = (maskSt ops st0.nx (unord b ops.size j) hid st).ob := by
    funext id
    simp only [maskSt]
    cases hm : (unord b ops.size j).any (fun u => decide (st0.nx + 16 * u ≤ id) && decide (id < st0.nx + 16 * (u + 1))) || hid.contains id with
    | true => rfl
    | false =>
      simp only [cond_false]
      rw [app_ob]
      rw [Bool.or_eq_false_iff] at hm
      refine obUpd_not fun p hp e => ?_
      rcases h.conf hu.symm hp with h1 | ⟨o, ms, _, ho, h1, h2, _⟩
      · have := List.any_eq_false.1 hm.1 i hu.mem
        rw [e] at h1
        simp [h1] at this
      · obtain ⟨o', ms', g1, g2, g3⟩ := hidOf_mem hh i hu.mem
        rw [ho] at g1; cases g1
        rw [h1] at g2; cases g2
        have := g3 _ h2
        rw [e] at this
        have h3 := hm.2
        simp [this] at h3
  have e3 : (maskSt ops st0.nx (unord b ops.size j) hid (st.app (dstOf ops i) d)).nx = (maskSt ops st0.nx (unord b ops.size j) hid st).nx := app_nx ..
  have e4 : (maskSt ops st0.nx (unord b ops.size j) hid (st.app (dstOf ops i) d)).n = (maskSt ops st0.nx (unord b ops.size j) hid st).n := app_n ..
  have e5 : (maskSt ops st0.nx (unord b ops.size j) hid (st.app (dstOf ops i) d)).pr = (maskSt ops st0.nx (unord b ops.size j) hid st).pr := rfl
  generalize maskSt ops st0.nx (unord b ops.size j) hid (st.app (dstOf ops i) d) = x at *
  generalize maskSt ops st0.nx (unord b ops.size j) hid st = y at *
  cases x; cases y
  simp only at e1 e2 e3 e4 e5
  subst e1; subst e2; subst e3; subst e4; subst e5
  rfl
theorem wantedA_app (hd : DOk ops b) {i j : Nat} {o : Oper} {st : St} (d : Delta) (ho : ops[j]? = some o) (hu : Un ops b i j) : wantedA ops o (st.app (dstOf ops i) d) = wantedA ops o st := by
  unfold wantedA
  split
  · rfl
  · rename_i g want hg
    have hb := hd.grd j o g want ho hg
    have hne : i ≠ g := fun e => by rw [← e, hu.2.2.2.1] at hb; cases hb
    split
    · rfl
    · rename_i sl hsl
      have : ¬ dstOf ops i = some sl := fun e => hd.dst i g sl hne e hsl
      have e : ev (st.app (dstOf ops i) d) (.tmp sl) = ev st (.tmp sl) := by
        simp only [ev, app_n, app_tm]
        simp [this]
      rw [e]
theorem Eff.of_mask {i j : Nat} {st st' : St} {d : Delta} (h : Eff P env ops b st0 kc j st d) (hw : ∀ o, ops[j]? = some o → wantedA ops o st' = wantedA ops o st)
    (hm : ∀ hid, hidOf P env ops st0.nx st0 (unord b ops.size j) = some hid → maskSt ops st0.nx (unord b ops.size j) hid st' = maskSt ops st0.nx (unord b ops.size j) hid st) : Eff P env ops b st0 kc j st' d := by
  obtain ⟨o, ho, ⟨h1, hid, ms, h2, h3, h4⟩ | ⟨h1, h2⟩⟩ := h
  · exact ⟨o, ho, .inl ⟨(hw o ho).trans h1, hid, ms, h2, h3, by rw [hm hid h2]; exact h4⟩⟩
  · exact ⟨o, ho, .inr ⟨(hw o ho).trans h1, h2⟩⟩
theorem app_comm (hd : DOk ops b) {i j : Nat} {st : St} {di dj : Delta} (hu : Un ops b i j) (hupd : ∀ p ∈ di.upd, ∀ q ∈ dj.upd, p.1 ≠ q.1) : (st.app (dstOf ops i) di).app (dstOf ops j) dj = (st.app (dstOf ops j) dj).app (dstOf ops i) di := by
  have e1 : ((st.app (dstOf ops i) di).app (dstOf ops j) dj).tm = ((st.app (dstOf ops j) dj).app (dstOf ops i) di).tm := by
    funext t
    simp only [app_tm, app_n]
    by_cases hi : dstOf ops i = some t
    · have hj : ¬ dstOf ops j = some t := fun e => hd.dst i j t hu.2.2.1 hi e
      simp [hi, hj]
    · simp [hi]
  have e2 : ((st.app (dstOf ops i) di).app (dstOf ops j) dj).ob = ((st.app (dstOf ops j) dj).app (dstOf ops i) di).ob := by
    simp only [app_ob]
    exact obUpd_comm _ hupd
  have e3 : ((st.app (dstOf ops i) di).app (dstOf ops j) dj).nx = ((st.app (dstOf ops j) dj).app (dstOf ops i) di).nx := by simp only [app_nx]
  have e4 : ((st.app (dstOf ops i) di).app (dstOf ops j) dj).n = ((st.app (dstOf ops j) dj).app (dstOf ops i) di).n := by simp only [app_n]
  have e5 : ((st.app (dstOf ops i) di).app (dstOf ops j) dj).pr = ((st.app (dstOf ops j) dj).app (dstOf ops i) di).pr := by
    simp only [app_pr, app_n]
    cases dstOf ops i with
    | none => cases dstOf ops j <;> rfl
    | some x =>
      cases dstOf ops j with
      | none => rfl
      | some y =>
        dsimp only
        split <;> split <;> simp [List.filter_filter, Bool.and_comm]
  generalize (st.app (dstOf ops i) di).app (dstOf ops j) dj = x at *
  generalize (st.app (dstOf ops j) dj).app (dstOf ops i) di = y at *
  cases x; cases y
  simp only at e1 e2 e3 e4 e5
  subst e1; subst e2; subst e3; subst e4; subst e5
  rfl
theorem eff_swap (hd : DOk ops b) {i j : Nat} {st : St} {di dj : Delta} (hu : Un ops b i j) (hi : Eff P env ops b st0 kc i st di) (hj : Eff P env ops b st0 kc j (st.app (dstOf ops i) di) dj) :
    Eff P env ops b st0 kc j st dj ∧ Eff P env ops b st0 kc i (st.app (dstOf ops j) dj) di ∧ (st.app (dstOf ops i) di).app (dstOf ops j) dj = (st.app (dstOf ops j) dj).app (dstOf ops i) di := by
  have hj' : Eff P env ops b st0 kc j st dj := hj.of_mask (i := i) (fun o ho => (wantedA_app hd di ho hu).symm) fun hid hh => (mask_app hd hi hu hh).symm
  refine ⟨hj', hi.of_mask (i := j) (fun o ho => wantedA_app hd dj ho hu.symm) fun hid hh => mask_app hd hj' hu.symm hh, app_comm hd hu fun p hp q hq e => ?_⟩
  have hne := hu.2.2.1
  rcases hi.conf hu.symm hp with h1 | ⟨o, ms, hid, ho, h1, h2, h3, h4, h5⟩ <;> rcases hj'.conf hu hq with g1 | ⟨o', ms', hid', ho', g1, g2, g3, g4, g5⟩
  · rw [e] at h1; omega
  · rw [e] at h1; exact g5 i hu.mem h1
  · rw [← e] at g1; exact h5 j hu.symm.mem g1
  · obtain ⟨o2, ms2, f1, f2, f3⟩ := hidOf_mem g3 i hu.mem
    rw [ho] at f1; cases f1
    rw [h1] at f2; cases f2
    exact g4 (by rw [← e]; exact f3 _ h2)
theorem chain_take (hd : DOk ops b) : ∀ {pre post : List Nat} {i : Nat} {st fin : St}, (∀ u ∈ pre, Un ops b u i) → Chain P env ops b st0 kc (pre ++ i :: post) st fin →
    ∃ d, Eff P env ops b st0 kc i st d ∧ Chain P env ops b st0 kc (pre ++ post) (st.app (dstOf ops i) d) fin
  | [], post, i, st, fin, hu, h => h
  | u :: pre, post, i, st, fin, hu, h => by
    obtain ⟨du, h1, h2⟩ := h
    obtain ⟨d, g1, g2⟩ := chain_take hd (fun v hv => hu v (List.mem_cons_of_mem _ hv)) h2
    obtain ⟨e1, e2, e3⟩ := eff_swap hd (hu u List.mem_cons_self) h1 g1
    exact ⟨d, e1, du, e2, by rw [← e3]; exact g2⟩
variable {P : Program} {w0 : W0} {w : World} {B : Nat} {Io R : Nat → Prop} {ρ : Nat → Option Pl} {Fr : Nat → Prop} {st s : St} {a : Act}
variable {env : Nat → Option Callee} {ops : Array Oper} {b : Array Nat} {st0 : St} {kc : List (Nat × Nat)}
def stepB (acc : Array Nat) (o : Oper) : Array Nat := acc.push (o.after.foldl (fun s e => if Region.binds .any e then s ||| 2 ^ e.on ||| acc.getD e.on 0 else s) 0)
theorem foldB {acc : Array Nat} {u : Nat} : ∀ {es : List Edge} {s : Nat}, (es.foldl (fun s e => if Region.binds .any e then s ||| 2 ^ e.on ||| acc.getD e.on 0 else s) s).testBit u = true →
    s.testBit u = true ∨ ∃ e ∈ es, Region.binds .any e = true ∧ (u = e.on ∨ (acc.getD e.on 0).testBit u = true)
  | [], s, h => .inl h
  | e :: es, s, h => by
    rcases foldB (es := es) h with h | ⟨e', h1, h2⟩
    · by_cases hb : Region.binds .any e = true
      · simp only [hb, if_true, Nat.testBit_or, Bool.or_eq_true, Nat.testBit_two_pow, decide_eq_true_eq] at h
        rcases h with (h | h) | h
        · exact .inl h
        · exact .inr ⟨e, List.mem_cons_self, hb, .inl h.symm⟩
        · exact .inr ⟨e, List.mem_cons_self, hb, .inr h⟩
      · simp only [hb] at h
        exact .inl (by simpa using h)
    · exact .inr ⟨e', List.mem_cons_of_mem _ h1, h2⟩
theorem foldBs : ∀ {l : List Oper} {acc : Array Nat}, (∀ j, j < acc.size → (l.foldl stepB acc).getD j 0 = acc.getD j 0) ∧
    ∀ j u, acc.size ≤ j → ((l.foldl stepB acc).getD j 0).testBit u = true → ∃ o, l[j - acc.size]? = some o ∧ ∃ e ∈ o.after, Region.binds .any e = true ∧ (u = e.on ∨ (e.on < j ∧ ((l.foldl stepB acc).getD e.on 0).testBit u = true))
  | [], acc => ⟨fun j hj => rfl, fun j u hj h => by
      have : acc.getD j 0 = 0 := by rw [Array.getD_eq_getD_getElem?, Array.getElem?_eq_none hj]; rfl
      simp only [List.foldl_nil] at h
      rw [this] at h
      simp at h⟩
  | o :: l, acc => by
    obtain ⟨g1, g2⟩ := foldBs (l := l) (acc := stepB acc o)
    have hsz : (stepB acc o).size = acc.size + 1 := by simp [stepB]
    have hold : ∀ j, j < acc.size → (stepB acc o).getD j 0 = acc.getD j 0 := fun j hj => by
      rw [Array.getD_eq_getD_getElem?, Array.getD_eq_getD_getElem?]
      unfold stepB
      rw [Array.getElem?_push_lt hj]
      simp [hj]
    refine ⟨fun j hj => ?_, fun j u hj h => ?_⟩
    · rw [List.foldl_cons, g1 j (by omega), hold j hj]
    · rw [List.foldl_cons] at h ⊢
      by_cases e : j = acc.size
      · subst e
        rw [g1 _ (by omega)] at h
        have hl : (stepB acc o).getD acc.size 0 = o.after.foldl (fun s e => if Region.binds .any e then s ||| 2 ^ e.on ||| acc.getD e.on 0 else s) 0 := by
          rw [Array.getD_eq_getD_getElem?]
          unfold stepB
          rw [Array.getElem?_push_size]
          rfl
        rw [hl, ← Array.foldl_toList] at h
        rcases foldB h with h | ⟨e, h1, h2, h3⟩
        · simp at h
        · refine ⟨o, by simp, e, by simpa using h1, h2, h3.imp id fun h3 => ?_⟩
          have hlt : e.on < acc.size := by
            by_cases hlt : e.on < acc.size
            · exact hlt
            · have : acc.getD e.on 0 = 0 := by rw [Array.getD_eq_getD_getElem?, Array.getElem?_eq_none (by omega)]; rfl
              rw [this] at h3; simp at h3
          exact ⟨hlt, by rw [g1 _ (by omega), hold _ hlt]; exact h3⟩
      · obtain ⟨o', h1, e', h2, h3, h4⟩ := g2 j u (by omega) h
        refine ⟨o', ?_, e', h2, h3, h4⟩
        rw [hsz] at h1
        rw [show j - acc.size = (j - (acc.size + 1)) + 1 by omega]
        simpa using h1
theorem before_bit {j u : Nat} (h : ((Region.before ops).getD j 0).testBit u = true) : ∃ o, ops[j]? = some o ∧ ∃ e ∈ o.after, Region.binds .any e = true ∧ (u = e.on ∨ (e.on < j ∧ ((Region.before ops).getD e.on 0).testBit u = true)) := by
  have e : Region.before ops = ops.toList.foldl stepB #[] := by
    unfold Region.before
    rw [← Array.foldl_toList]
    rfl
  rw [e] at h ⊢
  obtain ⟨o, h1, h2⟩ := (foldBs (l := ops.toList) (acc := #[])).2 j u (by simp) h
  exact ⟨o, by simpa using h1, h2⟩
theorem before_lt (hd : DOk ops (Region.before ops)) : ∀ (j u : Nat), ((Region.before ops).getD j 0).testBit u = true → u < j := by
  intro j
  induction j using Nat.strongRecOn with
  | _ j ih =>
    intro u h
    obtain ⟨o, ho, e, he, hb, h⟩ := before_bit h
    have := hd.fwd j o ho e he hb
    rcases h with h | ⟨_, h⟩
    · omega
    · have := ih e.on this u h; omega
theorem wanted_of {o : Oper} {c : Bool} (h : SR w0 B Io R ρ Fr st a w) (hw : wantedA ops o st = some c) : Region.wanted o (yielded ops a.tmps) = c := by
  unfold wantedA at hw
  unfold Region.wanted
  split at hw
  · rename_i hg
    rw [hg]; cases hw; rfl
  · rename_i g want hg
    rw [hg]
    split at hw
    · cases hw
    · rename_i sl hsl
      split at hw
      · rename_i t ht
        cases hw
        have := yielded_of h hsl ht
        simp [this]
      · rename_i ht
        cases hw
        have := yielded_none h hsl ht
        simp [this]
      · cases hw
theorem obUpd_none {u : List (Nat × Option Obj)} {ob : Nat → Option Obj} {id : Nat} (h : u.any (fun q => q.1 == id) = false) : obUpd ob u id = ob id :=
  obUpd_not fun p hp e => by
    have := List.any_eq_false.1 h p hp
    simp [e] at this
theorem eqSl_eq {x y : Option AVal} (h : eqSl x y = true) : x = y := by
  unfold eqSl at h
  split at h
  · rename_i T l U m
    split at h
    · rename_i e
      subst e
      have : Ty.castL rfl l = m := by simpa [eqP] using h
      rw [← this]; rfl
    · cases h
  · cases h
theorem Keep.app {st : St} {dst : Option Nat} {d : Delta} (h : Keep kc st0 st) (hk : keepOk st0 kc d = true) : Keep kc st0 (st.app dst d) := fun p hp x hx => by
  have h1 := List.all_eq_true.1 hk p hp
  have e : (st.app dst d).ob = obUpd st.ob d.upd := rfl
  rw [e]
  cases ha : d.upd.any (fun q => q.1 == p.1) with
  | false => rw [obUpd_none ha]; exact h p hp x hx
  | true =>
    rw [ha, cond_true] at h1
    have h2 := eqSl_eq h1
    rw [hx] at h2
    unfold kcRow at h2
    obtain ⟨q, hq, hqe⟩ := List.any_eq_true.1 ha
    rw [obUpd_in (ob' := fun _ => none) ⟨q, hq, by simpa using hqe⟩]
    split at h2
    · rename_i cs hc
      exact ⟨cs, hc, h2⟩
    · cases h2
structure RInv (ops : Array Oper) (rem : List Nat) (listed : Array Bool) : Prop where
  sorted : rem.Pairwise (· < ·)
  lt : ∀ i ∈ rem, i < ops.size
  lst : ∀ i, listed[i]? = if i < ops.size then some (decide (i ∉ rem)) else none
  closed : ∀ j o, ops[j]? = some o → j ∉ rem → ∀ e ∈ o.after, Region.binds .any e = true → e.on ∉ rem
theorem RInv.bits {rem : List Nat} {listed : Array Bool} (h : RInv ops rem listed) : ∀ (j : Nat), (∀ o, ops[j]? = some o → ∀ e ∈ o.after, Region.binds .any e = true → e.on ∉ rem) → ∀ u, ((Region.before ops).getD j 0).testBit u = true → u ∉ rem := by
  intro j
  induction j using Nat.strongRecOn with
  | _ j ih =>
    intro hj u hb
    obtain ⟨o, ho, e, he, hb', h'⟩ := before_bit hb
    have hon := hj o ho e he hb'
    rcases h' with h' | ⟨h1, h2⟩
    · rw [h']; exact hon
    · exact ih e.on h1 (fun o' ho' => h.closed e.on o' ho' hon) u h2
theorem drawn_any (henv : EnvOk P env) (hd : DOk ops (Region.before ops)) {Q : Exit → Act → World → Prop} {fin : St} (hQ : ∀ a w, In w0 B Io (st0.nx + 16 * ops.size) fin a w → Q .normal a w) :
    ∀ (fuel : Nat) (rem : List Nat) (listed : Array Bool) (st : St) (a : Act) (w : World) (R : Nat → Prop) (ρ : Nat → Option Pl), rem.length ≤ fuel → RInv ops rem listed → Chain P env ops (Region.before ops) st0 kc rem st fin →
    SR w0 B Io R ρ (fun i => (∃ j ∈ rem, Own (st0.nx + 16 * j) i) ∨ st0.nx + 16 * ops.size ≤ i) st a w → Keep kc st0 st → wpAny P .any ops Q fuel listed a w := by
  intro fuel
  have done : ∀ {rem : List Nat} {listed : Array Bool} {st : St} {a : Act} {w : World} {R : Nat → Prop} {ρ : Nat → Option Pl}, rem = [] → Chain P env ops (Region.before ops) st0 kc rem st fin →
      SR w0 B Io R ρ (fun i => (∃ j ∈ rem, Own (st0.nx + 16 * j) i) ∨ st0.nx + 16 * ops.size ≤ i) st a w → Q .normal a w := fun hr hc h => by
    subst hr
    cases hc
    exact hQ _ _ ⟨_, _, h.weaken fun i hi => .inr hi⟩
  have get : ∀ {rem : List Nat} {listed : Array Bool} (hi : RInv ops rem listed) (i : Nat), (listed.getD i true = false ↔ i ∈ rem) ∧ (listed.getD i false = true ↔ i < ops.size ∧ i ∉ rem) := fun hi i => by
    rw [Array.getD_eq_getD_getElem?, Array.getD_eq_getD_getElem?, hi.lst]
    by_cases hlt : i < ops.size
    · simp [hlt]
    · simp only [hlt, if_false, Option.getD_none, false_and, iff_false]
      exact ⟨⟨fun h => (by cases h), fun h => absurd (hi.lt i h) hlt⟩, by simp⟩
  induction fuel with
  | zero =>
    intro rem listed st a w R ρ hf hi hc h hkp
    have hr : rem = [] := List.length_eq_zero_iff.1 (by omega)
    refine ⟨?_, done (listed := listed) hr hc h⟩
    cases hr' : Region.ready .any ops listed with
    | nil => rfl
    | cons j js =>
      have : j ∈ Region.ready .any ops listed := by rw [hr']; exact List.mem_cons_self
      have := ((get hi j).1).1 (mem_ready.1 this).1
      rw [hr] at this; simp at this
  | succ fuel ih =>
    intro rem listed st a w R ρ hf hi hc h hkp
    refine ⟨fun hr => ?_, fun i hmem => ?_⟩
    · refine done (listed := listed) ?_ hc h
      cases rem with
      | nil => rfl
      | cons j js =>
        exfalso
        have hlt := hi.lt j List.mem_cons_self
        have : j ∈ Region.ready .any ops listed := by
          rw [mem_ready]
          refine ⟨((get hi j).1).2 List.mem_cons_self, ops[j], by simp [hlt], fun e he hb => ?_⟩
          have hon := hd.fwd j ops[j] (by simp [hlt]) e he hb
          refine ((get hi e.on).2).2 ⟨by omega, fun hm => ?_⟩
          rcases List.mem_cons.1 hm with h1 | h1
          · omega
          · have := (List.pairwise_cons.1 hi.sorted).1 _ h1; omega
        rw [hr] at this; simp at this
    · obtain ⟨h1, o, ho, h2⟩ := mem_ready.1 hmem
      have himem := ((get hi i).1).1 h1
      have h2 : ∀ e ∈ o.after, Region.binds .any e = true → e.on ∉ rem := fun e he hb => (((get hi e.on).2).1 (h2 e he hb)).2
      obtain ⟨pre, post, rfl⟩ := List.append_of_mem himem
      have hilt := hi.lt i himem
      obtain ⟨s1, s2, s3⟩ := List.pairwise_append.1 hi.sorted
      have hpre : ∀ u ∈ pre, u < i := fun u hu => s3 u hu i List.mem_cons_self
      have hpost : ∀ u ∈ post, i < u := fun u hu => (List.pairwise_cons.1 s2).1 u hu
      have hun : ∀ u ∈ pre, Un ops (Region.before ops) u i := fun u hu => by
        have hul := hpre u hu
        refine ⟨by omega, hilt, by omega, ?_, ?_⟩
        · cases hb : ((Region.before ops).getD i 0).testBit u with
          | false => rfl
          | true => exact absurd (List.mem_append_left _ hu) (hi.bits i (fun o' ho' => by rw [ho] at ho'; cases ho'; exact h2) u hb)
        · cases hb : ((Region.before ops).getD u 0).testBit i with
          | false => rfl
          | true => have := before_lt hd u i hb; omega
      obtain ⟨d, g1, g2⟩ := chain_take hd hun hc
      have hne : i ∉ pre ++ post := fun hm => by
        rcases List.mem_append.1 hm with hm | hm
        · have := hpre i hm; omega
        · have := hpost i hm; omega
      have hi' : RInv ops (pre ++ post) (listed.setIfInBounds i true) := by
        refine ⟨?_, fun u hu => hi.lt u ?_, fun u => ?_, fun j o' ho' hj e he hb => ?_⟩
        · refine List.pairwise_append.2 ⟨s1, (List.pairwise_cons.1 s2).2, fun x hx y hy => s3 x hx y (List.mem_cons_of_mem _ hy)⟩
        · rcases List.mem_append.1 hu with hu | hu
          · exact List.mem_append_left _ hu
          · exact List.mem_append_right _ (List.mem_cons_of_mem _ hu)
        · have hsz : i < listed.size := by
            have := hi.lst i
            rw [if_pos hilt] at this
            exact (Array.getElem?_eq_some_iff.1 this).1
          by_cases e : i = u
          · subst e
            rw [Array.getElem?_setIfInBounds_self_of_lt hsz, if_pos hilt]
            simp [hne]
          · rw [Array.getElem?_setIfInBounds_ne e, hi.lst u]
            have : u ∉ pre ++ i :: post ↔ u ∉ pre ++ post := by
              simp only [List.mem_append, List.mem_cons]
              constructor
              · intro h hm; exact h (hm.imp id .inr)
              · rintro h (hm | hm | hm)
                · exact h (.inl hm)
                · exact e hm.symm
                · exact h (.inr hm)
            by_cases hu : u < ops.size
            · simp only [hu, if_true]
              congr 1
              exact decide_eq_decide.2 this
            · simp [hu]
        · by_cases e' : j = i
          · subst e'
            rw [ho] at ho'; cases ho'
            intro hm
            refine h2 e he hb ?_
            rcases List.mem_append.1 hm with hm | hm
            · exact List.mem_append_left _ hm
            · exact List.mem_append_right _ (List.mem_cons_of_mem _ hm)
          · have hjn : j ∉ pre ++ i :: post := by
              intro hm
              rcases List.mem_append.1 hm with hm | hm
              · exact hj (List.mem_append_left _ hm)
              · rcases List.mem_cons.1 hm with hm | hm
                · exact e' hm
                · exact hj (List.mem_append_right _ hm)
            intro hm
            refine hi.closed j o' ho' hjn e he hb ?_
            rcases List.mem_append.1 hm with hm | hm
            · exact List.mem_append_left _ hm
            · exact List.mem_append_right _ (List.mem_cons_of_mem _ hm)
      have hlen : (pre ++ post).length ≤ fuel := by simp at hf ⊢; omega
      have hfr : ∀ x, ((∃ j ∈ pre ++ post, Own (st0.nx + 16 * j) x) ∨ st0.nx + 16 * ops.size ≤ x) → ((∃ j ∈ pre ++ i :: post, Own (st0.nx + 16 * j) x) ∨ st0.nx + 16 * ops.size ≤ x) ∧ ¬ Own (st0.nx + 16 * i) x := by
        rintro x (⟨j, hj, hx⟩ | hx)
        · refine ⟨.inl ⟨j, ?_, hx⟩, fun hx' => ?_⟩
          · rcases List.mem_append.1 hj with hm | hm
            · exact List.mem_append_left _ hm
            · exact List.mem_append_right _ (List.mem_cons_of_mem _ hm)
          · obtain ⟨a1, a2⟩ := hx
            obtain ⟨b1, b2⟩ := hx'
            exact hne (by rw [show i = j by omega]; exact hj)
        · refine ⟨.inr hx, fun hx' => ?_⟩
          obtain ⟨b1, b2⟩ := hx'
          omega
      have hdst : dstOf ops i = o.dst := by simp [dstOf, ho]
      rw [hdst] at g2
      unfold wpOp
      simp only [ho]
      obtain ⟨o', ho', ⟨hw, hid, ms, e1, e2, e4, e3⟩ | ⟨hw, e1⟩⟩ := g1
      · rw [ho] at ho'; cases ho'
        rw [if_pos (wanted_of h hw)]
        have hsub : Sub (maskSt ops st0.nx (unord (Region.before ops) ops.size i) hid st) st := by
          refine ⟨fun t => ?_, fun t => ?_, rfl⟩
          · simp only [maskSt]
            cases (unord (Region.before ops) ops.size i).any _ with
            | true => exact .inl rfl
            | false => exact .inr rfl
          · simp only [maskSt]
            generalize (_ || _ : Bool) = c
            cases c with
            | true => exact .inl rfl
            | false => exact .inr rfl
        have q2 := opJ_sound henv h hsub (fun x hx => .inl ⟨i, himem, hx⟩) hkp e3
        refine .inl (q2 _ _ fun v w' ⟨R', ρ', h3⟩ => ?_)
        exact ih (pre ++ post) _ _ _ _ R' ρ' hlen hi' g2 (h3.weaken hfr) (hkp.app e4)
      · rw [ho] at ho'; cases ho'
        have := wanted_of h hw
        rw [if_neg (by simp [this])]
        subst e1
        rw [app_nil] at g2
        exact ih (pre ++ post) _ _ _ _ R ρ hlen hi' g2 ((h.skipped o.dst).weaken fun x hx => (hfr x hx).1) (fun p hp x hx => by
          have e : (st.put o.dst (.tup [])).ob = st.ob := by
            cases o.dst with
            | none => rfl
            | some t0 => simp only [St.put, St.setTm]; split <;> rfl
          rw [e]
          exact hkp p hp x hx)
theorem drawn_grows (w : World) : Grows w { w with drawn := w.drawn + 1 } := fun b hb => rfl
theorem evalD_sound (henv : EnvOk P env) (hm : P.follows .mixedOrders = true) {id : Nat} {st fin : St} {Q : Exit → Act → World → Prop} (hd : drawnOk ops (Region.before ops) = true)
    (he : evalD P env ops (Region.before ops) st kc ops.toList 0 st some = some fin) (h : In w0 B Io st.nx st a w) (hQ : ∀ a w, In w0 B Io (st.nx + 16 * ops.size) fin a w → Q .normal a w) : (Code.region id ops true).wp P Q a w := by
  obtain ⟨R, ρ, h⟩ := h
  have hc := evalD_chain (fun i => by simp) he
  refine wp_region_any hm (drawn_any henv (drawnOk_spec hd) (st0 := st) hQ ops.size (List.range' 0 ops.toList.length) _ st _ _ R ρ (by simp) ⟨?_, fun i hi => ?_, fun i => ?_, fun j o ho hj => ?_⟩ hc ((h.grow (drawn_grows w) ⟨rfl, rfl⟩).weaken ?_) (Keep.refl kc st))
  · exact List.pairwise_lt_range'
  · have := List.mem_range'_1.1 hi
    simp at this; exact this
  · rw [Array.getElem?_replicate]
    by_cases hlt : i < ops.size
    · have : i ∈ List.range' 0 ops.toList.length := List.mem_range'_1.2 ⟨by omega, by simpa using hlt⟩
      simp [hlt]
    · simp [hlt]
  · exfalso
    have hlt := (Array.getElem?_eq_some_iff.1 ho).1
    exact hj (List.mem_range'_1.2 ⟨by omega, by simpa using hlt⟩)
  · rintro i (⟨j, hj, hx⟩ | hx)
    · have := hx.1; show st.nx ≤ i; omega
    · show st.nx ≤ i; omega
end Go.OAI
