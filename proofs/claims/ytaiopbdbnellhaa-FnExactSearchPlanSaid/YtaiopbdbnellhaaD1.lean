/- The evaluator's continuations are no more than that. -/
import Derived.Test.YtaiopbdbnellhaaD0
namespace Go.OAI
set_option linter.unusedVariables false

variable {P : Program} {α β : Type}

theorem binA_nat (op : BinOp) (tb : Bool) (x y : AVal) (k : AVal → Option α) : binA op tb x y k = (binA op tb x y some).bind k := by
  unfold binA
  simp only [cond_eq_ite]
  repeat' (first | rfl | split)
theorem callA_nat (c : Callee) (ib : Nat) (st : St) (args : List AVal) (k : Delta → Option α) : callA c ib st args k = (callA c ib st args some).bind k := by
  unfold callA
  split
  · rfl
  split
  · rfl
  split
  · rfl
  rename_i x _
  cases c.G x with
  | none => rfl
  | some y =>
    simp only [Option.bind_some]
    split
    · rfl
    split
    · rfl
    generalize instRes (c.out y).1 _ = z
    obtain ⟨v, ns, j'⟩ := z
    dsimp only
    split <;> rfl
theorem appendA_nat (T : TypeId) (ib : Nat) (st : St) (a b : AVal) (k : Delta → Option α) : appendA P T ib st a b k = (appendA P T ib st a b some).bind k := by
  unfold appendA
  simp only [cond_eq_ite]
  repeat' (first | rfl | split)
theorem evalOp_nat (env : Nat → Option Callee) (ib : Nat) (st : St) (o : Oper) (k : Delta → Option α) : evalOp P env ib st o k = (evalOp P env ib st o some).bind k := by
  unfold evalOp
  cases o.op
  case call c =>
    dsimp only
    repeat' (first | rfl | exact callA_nat _ _ _ _ _ | exact appendA_nat _ _ _ _ _ _ | split)
  case binOp =>
    dsimp only
    rw [binA_nat _ _ _ _ (fun v => k ⟨v, []⟩), binA_nat _ _ _ _ (fun v => some (⟨v, []⟩ : Delta)), Option.bind_assoc]
    rfl
  case indexAddr =>
    dsimp only
    simp only [cond_eq_ite]
    repeat' (first | rfl | split)
    rw [Option.bind_assoc]
    rfl
  all_goals
    dsimp only
    try simp only [cond_eq_ite]
    repeat' (first | rfl | split)

theorem cond_nat (c : Bool) (x y : Option α) (x' y' : Option β) (k : α → Option β) (h1 : x' = x.bind k) (h2 : y' = y.bind k) : cond c x' y' = (cond c x y).bind k := by
  cases c
  · exact h2
  · exact h1
theorem bind_bind' (x : Option α) (f : α → Option β) {γ : Type} (g : β → Option γ) : (x.bind f).bind g = x.bind fun a => (f a).bind g := Option.bind_assoc ..

theorem nat_step {A : Type} {X : Option A} {f : A → Option α} {g : A → Option β} {k : α → Option β} {L : Option β} {M : Option α} (h1 : L = X.bind g) (h2 : M = X.bind f) (h : ∀ a, g a = (f a).bind k) : L = M.bind k := by
  subst h1; subst h2
  rw [Option.bind_assoc]
  congr 1
  funext a
  exact h a

theorem sp_nat (ib : Nat) (st : St) (o : Oper) (k : St → Option α) : sp P ib st o k = (sp P ib st o some).map fun r => r.bind k := by
  unfold sp
  simp only [cond_eq_ite]
  repeat' (first | rfl | split)
theorem stepL_nat (env : Nat → Option Callee) (ib : Nat) (st : St) (o : Oper) (k : St → Option α) : stepL P env ib st o k = (stepL P env ib st o some).bind k := by
  unfold stepL
  rw [sp_nat (k := k)]
  cases h : sp P ib st o some with
  | some r => rfl
  | none =>
    simp only [Option.map_none]
    rw [evalOp_nat (k := fun d => k (st.app o.dst d)), evalOp_nat (k := fun d => some (st.app o.dst d)), Option.bind_assoc]
    rfl
theorem evalOps_nat (env : Nat → Option Callee) (ops : Array Oper) : ∀ (l : List Oper) (ib : Nat) (st : St) (k : St → Option α), evalOps P env ops l ib st k = (evalOps P env ops l ib st some).bind k
  | [], _, _, _ => rfl
  | o :: r, ib, st, k => by
    simp only [evalOps]
    have key : ∀ s : St, stepL P env ib s o (fun d => evalOps P env ops r (ib + 16) d k) = (stepL P env ib s o fun d => evalOps P env ops r (ib + 16) d some).bind k := fun s => by
      rw [stepL_nat (k := fun d => evalOps P env ops r (ib + 16) d k), stepL_nat (k := fun d => evalOps P env ops r (ib + 16) d some), Option.bind_assoc]
      congr 1
      funext d
      exact evalOps_nat env ops r _ _ k
    split
    · exact key st
    · split
      · rfl
      · split
        · refine cond_nat _ _ _ _ _ _ ?_ ?_
          · split
            · exact key _
            · exact evalOps_nat env ops r _ _ k
          · split
            · exact key _
            · exact evalOps_nat env ops r _ _ k
        · exact evalOps_nat env ops r _ _ k
        · rfl

theorem evalD1_nat (env : Nat → Option Callee) (ops : Array Oper) (b : Array Nat) (st0 : St) (j : Nat) (o : Oper) (st : St) (k : Delta → Option α) :
    evalD1 P env ops b st0 j o st k = (evalD1 P env ops b st0 j o st some).bind k := by
  unfold evalD1
  dsimp only
  split
  · refine nat_step (evalOp_nat _ _ _ _ _) (evalOp_nat _ _ _ _ _) fun d => ?_
    cases ((unord b ops.size j).isEmpty || updOk st0.nx j _ _ _ d) <;> rfl
  · rfl
theorem evalD_nat (env : Nat → Option Callee) (ops : Array Oper) (b : Array Nat) (st0 : St) : ∀ (l : List Oper) (j : Nat) (st : St) (k : St → Option α), evalD P env ops b st0 l j st k = (evalD P env ops b st0 l j st some).bind k
  | [], _, _, _ => rfl
  | o :: r, j, st, k => by
    simp only [evalD]
    have key : ∀ s : St, evalD1 P env ops b st0 j o s (fun d => evalD P env ops b st0 r (j + 1) (s.app o.dst d) k) = (evalD1 P env ops b st0 j o s fun d => evalD P env ops b st0 r (j + 1) (s.app o.dst d) some).bind k := fun s => by
      rw [evalD1_nat (k := fun d => evalD P env ops b st0 r (j + 1) (s.app o.dst d) k), evalD1_nat (k := fun d => evalD P env ops b st0 r (j + 1) (s.app o.dst d) some), Option.bind_assoc]
      congr 1
      funext d
      exact evalD_nat env ops b st0 r _ _ k
    split
    · exact key st
    · split
      · rfl
      · split
        · refine cond_nat _ _ _ _ _ _ ?_ ?_
          · split
            · exact key _
            · exact evalD_nat env ops b st0 r _ _ k
          · split
            · exact key _
            · exact evalD_nat env ops b st0 r _ _ k
        · exact evalD_nat env ops b st0 r _ _ k
        · rfl

theorem evalCode_nat (env : Nat → Option Callee) (or : Ora) : ∀ (c : Code) {α : Type} (st : St) (K : Ex → St → Option α), evalCode P env or c st K = (evalCode P env or c st fun e s => some (e, s)).bind fun p => K p.1 p.2
  | .skip, _, _, _ => rfl
  | .region _ ops draw, _, st, K => by
    cases draw
    · exact nat_step (evalOps_nat _ _ _ _ _ _) (evalOps_nat _ _ _ _ _ _) fun s => rfl
    · simp only [evalCode]
      exact cond_nat _ _ _ _ _ _ (nat_step (evalD_nat _ _ _ _ _ _ _ _) (evalD_nat _ _ _ _ _ _ _ _) fun s => rfl) rfl
  | .seq a b, _, st, K => by
    refine nat_step (evalCode_nat env or a st _) (evalCode_nat env or a st _) fun p => ?_
    obtain ⟨e, s⟩ := p
    cases e
    · exact evalCode_nat env or b s K
    · rfl
    · rfl
  | .cond c a b, _, st, K => by
    simp only [evalCode]
    split
    · exact cond_nat _ _ _ _ _ _ (evalCode_nat env or a st K) (evalCode_nat env or b st K)
    · rfl
  | .block i b, _, st, K => by
    refine nat_step (evalCode_nat env or b st _) (evalCode_nat env or b st _) fun p => ?_
    obtain ⟨e, s⟩ := p
    cases e
    · rfl
    · dsimp only
      split <;> rfl
    · rfl
  | .loop b, _, st, K => by
    simp only [evalCode]
    split
    · rename_i L _
      split
      · split
        · rename_i x _
          rw [Option.bind_assoc]
          congr 1
          funext y
          rw [L.law, L.law]
          rfl
        · rfl
      · rfl
    · rfl
  | .exit _, _, _, _ => rfl
  | .ret, _, _, _ => rfl
  | .goto .., _, _, _ => rfl
  | .label .., _, _, _ => rfl
  | .scope .., _, _, _ => rfl
  | .rangeFunc .., _, _, _ => rfl
  | .refuse .., _, _, _ => rfl
end Go.OAI
