/- One operation, whatever it be. The evaluator's continuations are no more than that. Regions in the order of the text. -/
import Derived.Test.YtjidcahgobilhaaC4
namespace Go.OAI
set_option linter.unusedVariables false

variable {P : Program} {w0 : W0} {w : World} {B : Nat} {Io R : Nat → Prop} {ρ : Nat → Option Pl} {Fr : Nat → Prop} {st s : St} {a : Act}

theorem op_sound {env : Nat → Option Callee} {ib : Nat} {α : Type} {k : Delta → Option α} {r : α} {o : Oper} (henv : EnvOk P env) (h : SR w0 B Io R ρ Fr st a w) (hs : Sub s st) (hf : ∀ i, Own ib i → Fr i)
    (he : evalOp P env ib s o k = some r) : ∃ d, k d = some r ∧ OpOk P w0 B Io Fr ib st a w o d := by
  have hfi : Fr ib := hf ib ⟨Nat.le_refl _, by omega⟩
  cases ho : o.op
  case move => exact ok_move h hs (.inl ho) he
  case assign => exact ok_move h hs (.inr ho) he
  case pick => exact ok_pick h hs ho he
  case alloc => exact ok_alloc h hs hfi ho he
  case box => exact ok_box h hs hfi ho he
  case build => exact ok_build h hs ho he
  case convert => exact ok_convert h hs ho he
  case buildSlice => exact ok_buildSlice h hs hfi ho he
  case load => exact ok_load h hs ho he
  case store => exact ok_store h hs ho he
  case binOp => exact ok_binOp h hs ho he
  case unOp => exact ok_unOp h hs ho he
  case makeSlice => exact ok_makeSlice h hs hfi ho he
  case slice => exact ok_slice h hs ho he
  case fieldAddr => exact ok_fieldAddr h hs ho he
  case field => exact ok_field h hs ho he
  case indexAddr => exact ok_indexAddr h hs ho he
  case nilCheck => exact ok_nilCheck h hs ho he
  case extract => exact ok_extract h hs ho he
  case call c =>
    cases hc : c.callee
    case value f => exact ok_call henv h hs hf ho hc he
    case builtin b =>
      cases b
      case len => exact ok_len h hs ho hc he
      case min => exact ok_min h hs ho hc he
      case max => exact ok_max h hs ho hc he
      case append => exact ok_append h hs hfi ho hc he
      all_goals (unfold evalOp at he; simp only [ho, hc] at he; cases he)
    all_goals (unfold evalOp at he; simp only [ho, hc] at he; cases he)
  all_goals (unfold evalOp at he; simp only [ho] at he; cases he)
end Go.OAI

/-! ## The evaluator's continuations are no more than that. -/
namespace Go.OAI
set_option linter.unusedVariables false

variable {P : Program} {α β : Type}

theorem binA_nat (op : BinOp) (tb : Bool) (x y : AVal) (k : AVal → Option α) : binA op tb x y k = (binA op tb x y some).bind k := by
  unfold binA
  simp only [cond_eq_ite]
  repeat' (first | rfl | split)
theorem callA_nat (c : Callee) (ib : Nat) (st : St) (args : List AVal) (k : Delta → Option α) : callA c ib st args k = (callA c ib st args some).bind k := by
  unfold callA
  split
  · rfl
  split
  · rfl
  split
  · rfl
  rename_i x _
  cases c.G x with
  | none => rfl
  | some y =>
    simp only [Option.bind_some]
    rw [c.law, c.law]
    split
    · rfl
    split
    · rfl
    generalize instRes (c.out y).1 _ = z
    obtain ⟨v, ns, j'⟩ := z
    dsimp only
    split <;> rfl
theorem appendA_nat (T : TypeId) (ib : Nat) (st : St) (a b : AVal) (k : Delta → Option α) : appendA P T ib st a b k = (appendA P T ib st a b some).bind k := by
  unfold appendA
  simp only [cond_eq_ite]
  repeat' (first | rfl | split)
theorem evalOp_nat (env : Nat → Option Callee) (ib : Nat) (st : St) (o : Oper) (k : Delta → Option α) : evalOp P env ib st o k = (evalOp P env ib st o some).bind k := by
  unfold evalOp
  cases o.op
  case call c =>
    dsimp only
    repeat' (first | rfl | exact callA_nat _ _ _ _ _ | exact appendA_nat _ _ _ _ _ _ | split)
  case binOp =>
    dsimp only
    rw [binA_nat _ _ _ _ (fun v => k ⟨v, []⟩), binA_nat _ _ _ _ (fun v => some (⟨v, []⟩ : Delta)), Option.bind_assoc]
    rfl
  case indexAddr =>
    dsimp only
    simp only [cond_eq_ite]
    repeat' (first | rfl | split)
    rw [Option.bind_assoc]
    rfl
  all_goals
    dsimp only
    try simp only [cond_eq_ite]
    repeat' (first | rfl | split)

theorem cond_nat (c : Bool) (x y : Option α) (x' y' : Option β) (k : α → Option β) (h1 : x' = x.bind k) (h2 : y' = y.bind k) : cond c x' y' = (cond c x y).bind k := by
  cases c
  · exact h2
  · exact h1
theorem bind_bind' (x : Option α) (f : α → Option β) {γ : Type} (g : β → Option γ) : (x.bind f).bind g = x.bind fun a => (f a).bind g := Option.bind_assoc ..

theorem nat_step {A : Type} {X : Option A} {f : A → Option α} {g : A → Option β} {k : α → Option β} {L : Option β} {M : Option α} (h1 : L = X.bind g) (h2 : M = X.bind f) (h : ∀ a, g a = (f a).bind k) : L = M.bind k := by
  subst h1; subst h2
  rw [Option.bind_assoc]
  congr 1
  funext a
  exact h a

theorem sp_nat (ib : Nat) (st : St) (o : Oper) (k : St → Option α) : sp P ib st o k = (sp P ib st o some).map fun r => r.bind k := by
  unfold sp
  simp only [cond_eq_ite]
  repeat' (first | rfl | split)
theorem stepL_nat (env : Nat → Option Callee) (ib : Nat) (st : St) (o : Oper) (k : St → Option α) : stepL P env ib st o k = (stepL P env ib st o some).bind k := by
  unfold stepL
  rw [sp_nat (k := k)]
  cases h : sp P ib st o some with
  | some r => rfl
  | none =>
    simp only [Option.map_none]
    rw [evalOp_nat (k := fun d => k (st.app o.dst d)), evalOp_nat (k := fun d => some (st.app o.dst d)), Option.bind_assoc]
    rfl
theorem evalOps_nat (env : Nat → Option Callee) (ops : Array Oper) : ∀ (l : List Oper) (ib : Nat) (st : St) (k : St → Option α), evalOps P env ops l ib st k = (evalOps P env ops l ib st some).bind k
  | [], _, _, _ => rfl
  | o :: r, ib, st, k => by
    simp only [evalOps]
    have key : ∀ s : St, stepL P env ib s o (fun d => evalOps P env ops r (ib + 16) d k) = (stepL P env ib s o fun d => evalOps P env ops r (ib + 16) d some).bind k := fun s => by
      rw [stepL_nat (k := fun d => evalOps P env ops r (ib + 16) d k), stepL_nat (k := fun d => evalOps P env ops r (ib + 16) d some), Option.bind_assoc]
      congr 1
      funext d
      exact evalOps_nat env ops r _ _ k
    split
    · exact key st
    · split
      · rfl
      · split
        · refine cond_nat _ _ _ _ _ _ ?_ ?_
          · split
            · exact key _
            · exact evalOps_nat env ops r _ _ k
          · split
            · exact key _
            · exact evalOps_nat env ops r _ _ k
        · exact evalOps_nat env ops r _ _ k
        · rfl

theorem evalD1_nat (env : Nat → Option Callee) (ops : Array Oper) (b : Array Nat) (st0 : St) (j : Nat) (o : Oper) (st : St) (k : Delta → Option α) :
    evalD1 P env ops b st0 j o st k = (evalD1 P env ops b st0 j o st some).bind k := by
  unfold evalD1
  dsimp only
  split
  · refine nat_step (evalOp_nat _ _ _ _ _) (evalOp_nat _ _ _ _ _) fun d => ?_
    cases ((unord b ops.size j).isEmpty || updOk st0.nx j _ _ _ d) <;> rfl
  · rfl
theorem evalD_nat (env : Nat → Option Callee) (ops : Array Oper) (b : Array Nat) (st0 : St) : ∀ (l : List Oper) (j : Nat) (st : St) (k : St → Option α), evalD P env ops b st0 l j st k = (evalD P env ops b st0 l j st some).bind k
  | [], _, _, _ => rfl
  | o :: r, j, st, k => by
    simp only [evalD]
    have key : ∀ s : St, evalD1 P env ops b st0 j o s (fun d => evalD P env ops b st0 r (j + 1) (s.app o.dst d) k) = (evalD1 P env ops b st0 j o s fun d => evalD P env ops b st0 r (j + 1) (s.app o.dst d) some).bind k := fun s => by
      rw [evalD1_nat (k := fun d => evalD P env ops b st0 r (j + 1) (s.app o.dst d) k), evalD1_nat (k := fun d => evalD P env ops b st0 r (j + 1) (s.app o.dst d) some), Option.bind_assoc]
      congr 1
      funext d
      exact evalD_nat env ops b st0 r _ _ k
    split
    · exact key st
    · split
      · rfl
      · split
        · refine cond_nat _ _ _ _ _ _ ?_ ?_
          · split
            · exact key _
            · exact evalD_nat env ops b st0 r _ _ k
          · split
            · exact key _
            · exact evalD_nat env ops b st0 r _ _ k
        · exact evalD_nat env ops b st0 r _ _ k
        · rfl

theorem evalCode_nat (env : Nat → Option Callee) (or : Ora) : ∀ (c : Code) {α : Type} (st : St) (K : Ex → St → Option α), evalCode P env or c st K = (evalCode P env or c st fun e s => some (e, s)).bind fun p => K p.1 p.2
  | .skip, _, _, _ => rfl
  | .region _ ops draw, _, st, K => by
    cases draw
    · exact nat_step (evalOps_nat _ _ _ _ _ _) (evalOps_nat _ _ _ _ _ _) fun s => rfl
    · simp only [evalCode]
      exact cond_nat _ _ _ _ _ _ (nat_step (evalD_nat _ _ _ _ _ _ _ _) (evalD_nat _ _ _ _ _ _ _ _) fun s => rfl) rfl
  | .seq a b, _, st, K => by
    refine nat_step (evalCode_nat env or a st _) (evalCode_nat env or a st _) fun p => ?_
    obtain ⟨e, s⟩ := p
    cases e
    · exact evalCode_nat env or b s K
    · rfl
    · rfl
  | .cond c a b, _, st, K => by
    simp only [evalCode]
    split
    · exact cond_nat _ _ _ _ _ _ (evalCode_nat env or a st K) (evalCode_nat env or b st K)
    · rfl
  | .block i b, _, st, K => by
    refine nat_step (evalCode_nat env or b st _) (evalCode_nat env or b st _) fun p => ?_
    obtain ⟨e, s⟩ := p
    cases e
    · rfl
    · dsimp only
      split <;> rfl
    · rfl
  | .loop b, _, st, K => by
    simp only [evalCode]
    split
    · rename_i L _
      split
      · split
        · rename_i x _
          rw [Option.bind_assoc]
          congr 1
          funext y
          rw [L.law, L.law]
          rfl
        · rfl
      · rfl
    · rfl
  | .exit _, _, _, _ => rfl
  | .ret, _, _, _ => rfl
  | .goto .., _, _, _ => rfl
  | .label .., _, _, _ => rfl
  | .scope .., _, _, _ => rfl
  | .rangeFunc .., _, _, _ => rfl
  | .refuse .., _, _, _ => rfl
end Go.OAI

/-! ## Regions in the order of the text. -/
namespace Go.OAI
set_option linter.unusedVariables false

variable {P : Program} {w0 : W0} {w : World} {B : Nat} {Io R : Nat → Prop} {ρ : Nat → Option Pl} {Fr : Nat → Prop} {st s : St} {a : Act}

/-- The state lies in this frame and world; from nx on the numbers are free. -/
def In (w0 : W0) (B : Nat) (Io : Nat → Prop) (nx : Nat) (st : St) (a : Act) (w : World) : Prop := ∃ R ρ, SR w0 B Io R ρ (fun i => nx ≤ i) st a w

theorem kn_self {st : St} {t : Nat} {v : AVal} (h : st.tm t = v) : st.kn t v = st := by
  unfold St.kn
  have : (fun u => if u = t then v else st.tm u) = st.tm := by
    funext u
    by_cases e : u = t
    · subst e; simp [h]
    · simp [e]
  rw [this]

theorem yielded_of {ops : Array Oper} {j sl : Nat} {b : Bool} (h : SR w0 B Io R ρ Fr st a w) (hd : (ops[j]?).bind (·.dst) = some sl) (hb : st.tm sl = .bool b) : yielded ops a.tmps j = some b := by
  have h1 := h.tm sl
  rw [hb] at h1
  have h1 : a.tmps.getD sl undef = .bool b := h1
  have h2 : a.tmps[sl]? = some (.bool b) := by
    rw [Array.getD_eq_getD_getElem?] at h1
    cases h3 : a.tmps[sl]? with
    | none => rw [h3] at h1; cases h1
    | some v => rw [h3] at h1; simpa using h1
  unfold Go.yielded
  rw [hd]
  simp [h2]

theorem yielded_none {ops : Array Oper} {j sl : Nat} (h : SR w0 B Io R ρ Fr st a w) (hd : (ops[j]?).bind (·.dst) = some sl) (hb : st.tm sl = .tup []) : yielded ops a.tmps j = none := by
  have h1 := h.tm sl
  rw [hb] at h1
  obtain ⟨us, h1, h2, _⟩ := h1
  have h3 : us = #[] := Array.eq_empty_of_size_eq_zero h2
  subst h3
  rw [Array.getD_eq_getD_getElem?] at h1
  unfold Go.yielded
  rw [hd]
  simp only [Option.bind_some]
  cases h4 : a.tmps[sl]? with
  | none => rfl
  | some v => rw [h4] at h1; simp only [Option.getD_some] at h1; subst h1; rfl

theorem evalOps_sound {env : Nat → Option Callee} (henv : EnvOk P env) {ops : Array Oper} {Q : Exit → Act → World → Prop} : ∀ {l : List Oper} {j ib : Nat} {st st' : St} {a : Act} {w : World}, (∀ i, l[i]? = ops[j + i]?) →
    evalOps P env ops l ib st some = some st' → In w0 B Io ib st a w → (∀ a w, In w0 B Io (ib + 16 * l.length) st' a w → Q .normal a w) → wpOps P ops Q (List.range' j l.length) a w
  | [], j, ib, st, st', a, w, hl, he, h, hQ => by
    cases he
    exact hQ a w (by simpa using h)
  | o :: l, j, ib, st, st', a, w, hl, he, h, hQ => by
    have hj : ops[j]? = some o := by have := hl 0; simpa using this.symm
    have hl' : ∀ i, l[i]? = ops[j + 1 + i]? := fun i => by
      have := hl (i + 1)
      rw [show j + 1 + i = j + (i + 1) by omega, ← this]
      simp
    have hlen : ib + 16 * (o :: l).length = ib + 16 + 16 * l.length := by simp; omega
    rw [hlen] at hQ
    have run : ∀ {s : St}, In w0 B Io ib s a w → stepL P env ib s o (fun d => evalOps P env ops l (ib + 16) d some) = some st' → o.wp P a w (wpOps P ops Q (List.range' (j + 1) l.length)) Q := fun {s} h he => by
      unfold stepL at he
      split at he
      · rename_i r hr
        subst he
        obtain ⟨R, ρ, h⟩ := h
        obtain ⟨d, h1, h2⟩ := sp_sound h hr
        refine h2 _ _ fun v w' ⟨R', ρ', h3⟩ => ?_
        exact evalOps_sound henv hl' h1 ⟨R', ρ', h3⟩ hQ
      · obtain ⟨R, ρ, h⟩ := h
        obtain ⟨d, h1, h2⟩ := op_sound henv h (.refl s) (fun i hi => hi.1) he
        refine h2 _ _ fun v w' ⟨R', ρ', h3⟩ => ?_
        exact evalOps_sound henv hl' h1 ⟨R', ρ', h3.weaken fun i hi => ⟨by omega, fun e => by have := e.2; omega⟩⟩ hQ
    have skip : ∀ {s : St}, In w0 B Io ib s a w → evalOps P env ops l (ib + 16) (s.put o.dst (.tup [])) some = some st' → wpOps P ops Q (List.range' (j + 1) l.length) (a.put o.dst undef) w := fun {s} h he => by
      obtain ⟨R, ρ, h⟩ := h
      exact evalOps_sound henv hl' he ⟨R, ρ, (h.skipped o.dst).weaken fun i hi => by omega⟩ hQ
    show wpOps P ops Q (j :: List.range' (j + 1) l.length) a w
    unfold wpOps
    simp only [hj]
    simp only [evalOps] at he
    split at he
    · rename_i hg
      have : Region.wanted o (yielded ops a.tmps) = true := by simp [Region.wanted, hg]
      rw [if_pos this]
      exact .inl (run h he)
    · rename_i jg want hg
      split at he
      · cases he
      · rename_i sl hsl
        split at he
        · rename_i b hb
          have hy : yielded ops a.tmps jg = some b := by
            obtain ⟨R, ρ, h⟩ := h
            exact yielded_of h hsl hb
          have hw : Region.wanted o (yielded ops a.tmps) = (b == want) := by
            simp [Region.wanted, hg, hy]
          rw [hw]
          cases b <;> cases want <;> simp only [cond_true, cond_false] at he <;> rw [kn_self hb] at he
          · exact .inl (run h he)
          · exact skip h he
          · exact skip h he
          · exact .inl (run h he)
        · rename_i hb
          have hy : yielded ops a.tmps jg = none := by
            obtain ⟨R, ρ, h⟩ := h
            exact yielded_none h hsl hb
          have hw : Region.wanted o (yielded ops a.tmps) = false := by
            simp [Region.wanted, hg, hy]
          rw [hw]
          exact skip h he
        · cases he
end Go.OAI
