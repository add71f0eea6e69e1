/- Regions in the order of the text. -/
import Derived.Test.YtaiopbdbnellhaaD1
namespace Go.OAI
set_option linter.unusedVariables false

variable {P : Program} {w0 : W0} {w : World} {B : Nat} {Io R : Nat → Prop} {ρ : Nat → Option Pl} {Fr : Nat → Prop} {st s : St} {a : Act}

/-- The state lies in this frame and world; from nx on the numbers are free. -/
def In (w0 : W0) (B : Nat) (Io : Nat → Prop) (nx : Nat) (st : St) (a : Act) (w : World) : Prop := ∃ R ρ, SR w0 B Io R ρ (fun i => nx ≤ i) st a w

theorem kn_self {st : St} {t : Nat} {v : AVal} (h : st.tm t = v) : st.kn t v = st := by
  unfold St.kn
  have : (fun u => if u = t then v else st.tm u) = st.tm := by
    funext u
    by_cases e : u = t
    · subst e; simp [h]
    · simp [e]
  rw [this]

theorem yielded_of {ops : Array Oper} {j sl : Nat} {b : Bool} (h : SR w0 B Io R ρ Fr st a w) (hd : (ops[j]?).bind (·.dst) = some sl) (hb : st.tm sl = .bool b) : yielded ops a.tmps j = some b := by
  have h1 := h.tm sl
  rw [hb] at h1
  have h1 : a.tmps.getD sl undef = .bool b := h1
  have h2 : a.tmps[sl]? = some (.bool b) := by
    rw [Array.getD_eq_getD_getElem?] at h1
    cases h3 : a.tmps[sl]? with
    | none => rw [h3] at h1; cases h1
    | some v => rw [h3] at h1; simpa using h1
  unfold Go.yielded
  rw [hd]
  simp [h2]

theorem yielded_none {ops : Array Oper} {j sl : Nat} (h : SR w0 B Io R ρ Fr st a w) (hd : (ops[j]?).bind (·.dst) = some sl) (hb : st.tm sl = .tup []) : yielded ops a.tmps j = none := by
  have h1 := h.tm sl
  rw [hb] at h1
  obtain ⟨us, h1, h2, _⟩ := h1
  have h3 : us = #[] := Array.eq_empty_of_size_eq_zero h2
  subst h3
  rw [Array.getD_eq_getD_getElem?] at h1
  unfold Go.yielded
  rw [hd]
  simp only [Option.bind_some]
  cases h4 : a.tmps[sl]? with
  | none => rfl
  | some v => rw [h4] at h1; simp only [Option.getD_some] at h1; subst h1; rfl

theorem evalOps_sound {env : Nat → Option Callee} (henv : EnvOk P env) {ops : Array Oper} {Q : Exit → Act → World → Prop} : ∀ {l : List Oper} {j ib : Nat} {st st' : St} {a : Act} {w : World}, (∀ i, l[i]? = ops[j + i]?) →
    evalOps P env ops l ib st some = some st' → In w0 B Io ib st a w → (∀ a w, In w0 B Io (ib + 16 * l.length) st' a w → Q .normal a w) → wpOps P ops Q (List.range' j l.length) a w
  | [], j, ib, st, st', a, w, hl, he, h, hQ => by
    cases he
    exact hQ a w (by simpa using h)
  | o :: l, j, ib, st, st', a, w, hl, he, h, hQ => by
    have hj : ops[j]? = some o := by have := hl 0; simpa using this.symm
    have hl' : ∀ i, l[i]? = ops[j + 1 + i]? := fun i => by
      have := hl (i + 1)
      rw [show j + 1 + i = j + (i + 1) by omega, ← this]
      simp
    have hlen : ib + 16 * (o :: l).length = ib + 16 + 16 * l.length := by simp; omega
    rw [hlen] at hQ
    have run : ∀ {s : St}, In w0 B Io ib s a w → stepL P env ib s o (fun d => evalOps P env ops l (ib + 16) d some) = some st' → o.wp P a w (wpOps P ops Q (List.range' (j + 1) l.length)) Q := fun {s} h he => by
      unfold stepL at he
      split at he
      · rename_i r hr
        subst he
        obtain ⟨R, ρ, h⟩ := h
        obtain ⟨d, h1, h2⟩ := sp_sound h hr
        refine h2 _ _ fun v w' ⟨R', ρ', h3⟩ => ?_
        exact evalOps_sound henv hl' h1 ⟨R', ρ', h3⟩ hQ
      · obtain ⟨R, ρ, h⟩ := h
        obtain ⟨d, h1, h2⟩ := op_sound henv h (.refl s) (fun i hi => hi.1) he
        refine h2 _ _ fun v w' ⟨R', ρ', h3⟩ => ?_
        exact evalOps_sound henv hl' h1 ⟨R', ρ', h3.weaken fun i hi => ⟨by omega, fun e => by have := e.2; omega⟩⟩ hQ
    have skip : ∀ {s : St}, In w0 B Io ib s a w → evalOps P env ops l (ib + 16) (s.put o.dst (.tup [])) some = some st' → wpOps P ops Q (List.range' (j + 1) l.length) (a.put o.dst undef) w := fun {s} h he => by
      obtain ⟨R, ρ, h⟩ := h
      exact evalOps_sound henv hl' he ⟨R, ρ, (h.skipped o.dst).weaken fun i hi => by omega⟩ hQ
    show wpOps P ops Q (j :: List.range' (j + 1) l.length) a w
    unfold wpOps
    simp only [hj]
    simp only [evalOps] at he
    split at he
    · rename_i hg
      have : Region.wanted o (yielded ops a.tmps) = true := by simp [Region.wanted, hg]
      rw [if_pos this]
      exact .inl (run h he)
    · rename_i jg want hg
      split at he
      · cases he
      · rename_i sl hsl
        split at he
        · rename_i b hb
          have hy : yielded ops a.tmps jg = some b := by
            obtain ⟨R, ρ, h⟩ := h
            exact yielded_of h hsl hb
          have hw : Region.wanted o (yielded ops a.tmps) = (b == want) := by
            simp [Region.wanted, hg, hy]
          rw [hw]
          cases b <;> cases want <;> simp only [cond_true, cond_false] at he <;> rw [kn_self hb] at he
          · exact .inl (run h he)
          · exact skip h he
          · exact skip h he
          · exact .inl (run h he)
        · rename_i hb
          have hy : yielded ops a.tmps jg = none := by
            obtain ⟨R, ρ, h⟩ := h
            exact yielded_none h hsl hb
          have hw : Region.wanted o (yielded ops a.tmps) = false := by
            simp [Region.wanted, hg, hy]
          rw [hw]
          exact skip h he
        · cases he
end Go.OAI
