/- Code. -/
import Derived.Test.YtaiopbdbnellhaaE0
namespace Go.OAI
set_option linter.unusedVariables false

variable {P : Program} {w0 : W0} {w : World} {B : Nat} {Io R : Nat → Prop} {ρ : Nat → Option Pl} {Fr : Nat → Prop} {st s : St} {a : Act}
variable {env : Nat → Option Callee} {or : Ora}

def exOf : Ex → Exit
  | .normal => .normal
  | .exit i => .exit i
  | .ret => .ret

theorem stepL_n {env : Nat → Option Callee} {ib : Nat} {o : Oper} {st st' : St} (he : stepL P env ib st o some = some st') : st'.n = st.n := by
  have hd : ∀ (s : St) (d : Option Nat), (s.delOb d).n = s.n := fun s d => by cases d <;> rfl
  unfold stepL at he
  split at he
  · rename_i r hr
    subst he
    unfold sp at hr
    repeat' (first | (cases hr; done) | split at hr)
    all_goals first
      | (cases hr; simp only [put_n, St.setOb, hd]; done)
      | (cases hr; simp only [put_n, St.setOb, hd]; rfl)
      | (have hr := Option.some.inj hr
         rw [cond_eq_ite] at hr
         split at hr
         · cases hr; simp only [put_n, St.setOb, hd]
         · cases hr)
  · rw [evalOp_nat] at he
    obtain ⟨d, _, hd⟩ := Option.bind_eq_some_iff.1 he
    cases hd
    rw [app_n]
theorem evalOps_n {ops : Array Oper} : ∀ {l : List Oper} {ib : Nat} {st st' : St}, evalOps P env ops l ib st some = some st' → st'.n = st.n
  | [], ib, st, st', he => by cases he; rfl
  | o :: l, ib, st, st', he => by
    have run : ∀ {s : St}, stepL P env ib s o (fun d => evalOps P env ops l (ib + 16) d some) = some st' → st'.n = s.n := fun {s} he => by
      rw [stepL_nat] at he
      obtain ⟨d, h1, hd⟩ := Option.bind_eq_some_iff.1 he
      rw [evalOps_n hd, stepL_n h1]
    have skip : ∀ {s : St}, evalOps P env ops l (ib + 16) (s.put o.dst (.tup [])) some = some st' → st'.n = s.n := fun {s} he => by
      rw [evalOps_n he, put_n]
    simp only [evalOps] at he
    split at he
    · exact run he
    · rename_i jg want hg
      split at he
      · cases he
      · split at he
        · rename_i b hb
          cases b <;> cases want <;> simp only [cond_true, cond_false] at he <;> rw [kn_self hb] at he
          · exact run he
          · exact skip he
          · exact skip he
          · exact run he
        · exact skip he
        · cases he
theorem chain_n {ops : Array Oper} {b : Array Nat} {st0 : St} : ∀ {l : List Nat} {st fin : St}, Chain P env ops b st0 l st fin → fin.n = st.n
  | [], st, fin, h => by cases h; rfl
  | j :: l, st, fin, h => by
    obtain ⟨d, _, h⟩ := h
    rw [chain_n h, app_n]

/-- A loop by a count of its rounds. -/
theorem wp_loop_ind {c : Code} {Q : Exit → Act → World → Prop} (I : Nat → Act → World → Prop)
    (round : ∀ m a w, I m a w → c.wp P (Exit.then (fun a' w' => ∃ m', m' < m ∧ I m' a' w') Q) a w) : ∀ {m : Nat} {a : Act} {w : World}, I m a w → (Code.loop c).wp P Q a w := by
  intro m a w h₀ b k cs
  have key : ∀ n a w, I n a w → ∃ e a' w', Q e a' w' ∧ Arrives P (lone (b.at a (.code c :: .inLoop c :: k)) cs w) b k cs e a' w' := by
    intro n
    induction n using Nat.strongRecOn with
    | _ n ih =>
      intro a w hI
      obtain ⟨e, a₁, w₁, hq, harr⟩ := round n a w hI b (.inLoop c :: k) cs
      cases e with
      | normal =>
        obtain ⟨m', hlt, hI₁⟩ := hq
        obtain ⟨e₂, a₂, w₂, hq₂, harr₂⟩ := ih m' hlt a₁ w₁ hI₁
        exact ⟨e₂, a₂, w₂, hq₂, .of_steps (Steps.trans harr (.one step_inLoop)) harr₂⟩
      | exit id => exact ⟨_, a₁, w₁, hq, .pass (x := .inLoop c) rfl (fun _ _ => .inl (by simp)) harr⟩
      | goto l => exact ⟨_, a₁, w₁, hq, .pass (x := .inLoop c) rfl (fun _ _ => .inl (by simp)) harr⟩
      | ret => exact ⟨_, a₁, w₁, hq, .pass (x := .inLoop c) rfl (fun _ _ => .inl (by simp)) harr⟩
      | panic ch => exact ⟨_, a₁, w₁, hq, .pass (x := .inLoop c) rfl (fun _ _ => .inl (by simp)) harr⟩
      | outgrown => exact ⟨_, a₁, w₁, hq, .pass (x := .inLoop c) rfl (fun _ _ => .inl (by simp)) harr⟩
  obtain ⟨e, a', w', hq, harr⟩ := key m a w h₀
  exact ⟨e, a', w', hq, .of_steps (.one step_loop) harr⟩

/-- The loops do what the walk is told. -/
def LoOk (P : Program) (env : Nat → Option Callee) (or : Ora) (n : Nat) (l : List Code) : Prop :=
  ∀ b ∈ l, ∀ L, or.lo (keyOf b) = some L → ∀ c x y, L.inn c = some x → L.G x = some y → ∃ m, loopC P env or b L.h L.ho n m c = some (L.out x y)

theorem evalCode_sound (henv : EnvOk P env) (hm : P.follows .mixedOrders = true) {n : Nat} : ∀ (c : Code) (st : St) (e : Ex) (s : St), LoOk P env or n (loopsIn c) → st.n = n → evalCode P env or c st (fun e s => some (e, s)) = some (e, s) →
    s.n = n ∧ ∀ a w, In w0 B Io st.nx st a w → ∀ Q : Exit → Act → World → Prop, (∀ a w, In w0 B Io s.nx s a w → Q (exOf e) a w) → c.wp P Q a w
  | .skip, st, e, s, hlo, hn, he => by
    cases he
    exact ⟨hn, fun a w h Q hQ => wp_skip (hQ a w h)⟩
  | .exit i, st, e, s, hlo, hn, he => by
    cases he
    exact ⟨hn, fun a w h Q hQ => wp_exit (hQ a w h)⟩
  | .ret, st, e, s, hlo, hn, he => by
    cases he
    exact ⟨hn, fun a w h Q hQ => wp_ret (hQ a w h)⟩
  | .region i ops draw, st, e, s, hlo, hn, he => by
    cases draw with
    | false =>
      simp only [evalCode] at he
      rw [evalOps_nat] at he
      obtain ⟨s', h1, h2⟩ := Option.bind_eq_some_iff.1 he
      cases h2
      refine ⟨by show s'.n = n; rw [evalOps_n h1, pres_n, hn], fun a w h Q hQ => wp_region ?_⟩
      have := evalOps_sound henv (ops := ops) (l := ops.toList) (j := 0) (Q := Q) (fun i => by simp) h1 (pres_sound (or.fz i) h) (fun a w h => hQ a w (by
        obtain ⟨R, ρ, h⟩ := h
        exact ⟨R, ρ, { h with fr := fun i hi => h.fr i (by simpa using hi) }⟩))
      rw [List.range_eq_range']
      simpa using this
    | true =>
      simp only [evalCode] at he
      cases hd : drawnOk ops (Region.before ops) with
      | false => rw [hd] at he; cases he
      | true =>
        rw [hd, cond_true, evalD_nat] at he
        obtain ⟨s', h1, h2⟩ := Option.bind_eq_some_iff.1 he
        cases h2
        refine ⟨?_, fun a w h Q hQ => ?_⟩
        · show s'.n = n
          have := chain_n (evalD_chain (fun i => by simp) h1)
          rw [this, pres_n, hn]
        · refine evalD_sound henv hm hd h1 (pres_sound (or.fz i) h) (fun a w h => hQ a w ?_)
          obtain ⟨R, ρ, h⟩ := h
          exact ⟨R, ρ, { h with }⟩
  | .seq x y, st, e, s, hlo, hn, he => by
    simp only [evalCode] at he
    rw [evalCode_nat] at he
    obtain ⟨⟨e1, s1⟩, h1, h2⟩ := Option.bind_eq_some_iff.1 he
    obtain ⟨n1, g1⟩ := evalCode_sound henv hm x st e1 s1 (fun b hb => hlo b (List.mem_append_left _ hb)) hn h1
    cases e1 with
    | normal =>
      obtain ⟨n2, g2⟩ := evalCode_sound henv hm y s1 e s (fun b hb => hlo b (List.mem_append_right _ hb)) n1 h2
      exact ⟨n2, fun a w h Q hQ => wp_seq (g1 a w h _ fun a w h => g2 a w h Q hQ)⟩
    | exit i => cases h2; exact ⟨n1, fun a w h Q hQ => wp_seq (g1 a w h _ hQ)⟩
    | ret => cases h2; exact ⟨n1, fun a w h Q hQ => wp_seq (g1 a w h _ hQ)⟩
  | .cond c x y, st, e, s, hlo, hn, he => by
    simp only [evalCode] at he
    split at he
    · rename_i t ht
      have hc : ∀ a w, In w0 B Io st.nx st a w → a.eval c = .bool t := fun a w ⟨R, ρ, h⟩ => by
        have := h.ev c
        rw [ht] at this
        exact this
      cases t with
      | true =>
        obtain ⟨n1, g1⟩ := evalCode_sound henv hm x st e s (fun b hb => hlo b (List.mem_append_left _ hb)) hn he
        exact ⟨n1, fun a w h Q hQ => wp_cond_true (hc a w h) (g1 a w h Q hQ)⟩
      | false =>
        obtain ⟨n1, g1⟩ := evalCode_sound henv hm y st e s (fun b hb => hlo b (List.mem_append_right _ hb)) hn he
        exact ⟨n1, fun a w h Q hQ => wp_cond_false (hc a w h) (g1 a w h Q hQ)⟩
    · cases he
  | .block i x, st, e, s, hlo, hn, he => by
    simp only [evalCode] at he
    rw [evalCode_nat] at he
    obtain ⟨⟨e1, s1⟩, h1, h2⟩ := Option.bind_eq_some_iff.1 he
    obtain ⟨n1, g1⟩ := evalCode_sound henv hm x st e1 s1 hlo hn h1
    cases e1 with
    | normal => cases h2; exact ⟨n1, fun a w h Q hQ => wp_block (g1 a w h _ hQ)⟩
    | ret => cases h2; exact ⟨n1, fun a w h Q hQ => wp_block (g1 a w h _ hQ)⟩
    | exit j =>
      dsimp only at h2
      split at h2
      · rename_i hj
        cases h2
        refine ⟨n1, fun a w h Q hQ => wp_block (g1 a w h _ fun a w h => ?_)⟩
        simp only [exOf, Exit.inBlock, hj, if_true]
        exact hQ a w h
      · rename_i hj
        cases h2
        refine ⟨n1, fun a w h Q hQ => wp_block (g1 a w h _ fun a w h => ?_)⟩
        simp only [exOf, Exit.inBlock, hj, if_false]
        exact hQ a w h
  | .loop b, st, e, s, hlo, hn, he => by
    simp only [evalCode] at he
    split at he
    · rename_i L hL
      split at he
      · rename_i c hc
        split at he
        · rename_i x hx
          obtain ⟨y, hy, h2⟩ := Option.bind_eq_some_iff.1 he
          rw [L.law] at h2
          cases h2
          obtain ⟨m, hloop⟩ := hlo b List.mem_cons_self L hL c x y hx hy
          refine ⟨hn, fun a w h Q hQ => ?_⟩
          have hin := gc_sound h hc
          rw [hn] at hin
          refine wp_loop_ind (I := fun m a w => ∃ c, In w0 B Io c.objs.length (ofCan n c) a w ∧ loopC P env or b L.h L.ho n m c = some (L.out x y)) (fun m a w ⟨c, hI, hl⟩ => ?_) (m := m) ⟨c, hin, hloop⟩
          cases m with
          | zero => simp [loopC] at hl
          | succ m =>
            simp only [loopC] at hl
            rw [evalCode_nat] at hl
            obtain ⟨⟨e1, s1⟩, h1, h2⟩ := Option.bind_eq_some_iff.1 hl
            obtain ⟨n1, g1⟩ := evalCode_sound henv hm b (ofCan n c) e1 s1 (fun b' hb => hlo b' (List.mem_cons_of_mem _ hb)) rfl h1
            refine g1 a w hI _ fun a w h => ?_
            have fin : ∀ e1, e1 ≠ .normal → (match gc (L.ho e1) s1 with | some c' => some (e1, c') | none => none) = some (L.out x y) → Q (exOf e1) a w := fun e1 _ h2 => by
              split at h2
              · rename_i c' hc'
                have hout := Option.some.inj h2
                have := gc_sound h hc'
                rw [n1] at this
                have hq := hQ a w
                rw [← hout] at hq
                exact hq (by rw [hn]; exact this)
              · cases h2
            cases e1 with
            | normal =>
              dsimp only at h2
              split at h2
              · rename_i c' hc'
                have := gc_sound h hc'
                rw [n1] at this
                exact ⟨m, by omega, c', this, h2⟩
              · cases h2
            | exit i => exact fin (.exit i) (by simp) h2
            | ret => exact fin .ret (by simp) h2
        · cases he
      · cases he
    · cases he
  | .goto .., _, _, _, _, _, he => by cases he
  | .label .., _, _, _, _, _, he => by cases he
  | .scope .., _, _, _, _, _, he => by cases he
  | .rangeFunc .., _, _, _, _, _, he => by cases he
  | .refuse .., _, _, _, _, _, he => by cases he
end Go.OAI
