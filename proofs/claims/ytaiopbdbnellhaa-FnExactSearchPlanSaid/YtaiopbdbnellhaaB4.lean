/- One operation, continued: the rest without memory's change but for new objects. -/
import Derived.Test.YtaiopbdbnellhaaB3
namespace Go.OAI
set_option linter.unusedVariables false

variable {P : Program} {w0 : W0} {w : World} {B : Nat} {Io R : Nat → Prop} {ρ : Nat → Option Pl} {Fr : Nat → Prop} {st s : St} {a : Act}
section
variable {Rt : Type} {env : Nat → Option Callee} {ib : Nat} {o : Oper} {k : Delta → Option Rt} {r : Rt}

theorem ok_unOp {op : UnOp} {t : TypeId} {x : Operand} (h : SR w0 B Io R ρ Fr st a w) (hs : Sub s st) (ho : o.op = .unOp op t x) (he : evalOp P env ib s o k = some r) :
    ∃ d, k d = some r ∧ OpOk P w0 B Io Fr ib st a w o d := by
  unfold evalOp at he
  rw [ho] at he
  simp only at he
  have hx := h.evs hs x
  split at he
  · rename_i b e
    rw [e] at hx
    have hx' : a.eval x = .bool b := hx
    exact ⟨_, he, .pure h (v := .bool (!b)) (by simp [execOp, ho, hx', Op.unary]) (VA.ofC rfl)⟩
  · rename_i A n e
    rw [e] at hx
    have hx' : a.eval x = .int A n := hx
    exact ⟨_, he, .pure h (v := .int A (A.wrap (0 - n))) (by simp [execOp, ho, hx', Op.unary, Op.intArith]) (VA.ofC rfl)⟩
  · cases he

theorem ok_nilCheck {x : Operand} (h : SR w0 B Io R ρ Fr st a w) (hs : Sub s st) (ho : o.op = .nilCheck x) (he : evalOp P env ib s o k = some r) :
    ∃ d, k d = some r ∧ OpOk P w0 B Io Fr ib st a w o d := by
  unfold evalOp at he
  rw [ho] at he
  simp only at he
  have hx := h.evs hs x
  split at he
  · rename_i id c e
    rw [e] at hx
    obtain ⟨b, off, h1, h2⟩ := hx
    exact ⟨_, he, .pure h (v := a.eval x) (by simp [execOp, ho, h2]) (VA.ofC ⟨b, off, h1, h2⟩)⟩
  · rename_i id row i c e
    rw [e] at hx
    obtain ⟨S, n, b, off, h1, h2, h3, h4⟩ := hx
    exact ⟨_, he, .pure h (v := a.eval x) (by simp [execOp, ho, h4]) (VA.ofC ⟨S, n, b, off, h1, h2, h3, h4⟩)⟩
  · rename_i cs c e
    rw [e] at hx
    obtain ⟨b, off, h1, h2⟩ := hx
    exact ⟨_, he, .pure h (v := a.eval x) (by simp [execOp, ho, h1]) (VA.ofC ⟨b, off, h1, h2⟩)⟩
  · cases he
theorem ok_extract {x : Operand} {i : Nat} (h : SR w0 B Io R ρ Fr st a w) (hs : Sub s st) (ho : o.op = .extract x i) (he : evalOp P env ib s o k = some r) :
    ∃ d, k d = some r ∧ OpOk P w0 B Io Fr ib st a w o d := by
  unfold evalOp at he
  rw [ho] at he
  simp only at he
  have hx := h.evs hs x
  split at he
  · rename_i vs e
    rw [e] at hx
    split at he
    · rename_i v hv
      obtain ⟨us, h1, h2, h3⟩ := hx
      have hi : i < us.size := by rw [h2]; exact lt_of_get hv
      refine ⟨_, he, .pure h (v := us[i]) ?_ (VA.of1 (h3 i _ v (by simp [hi]) hv))⟩
      simp [execOp, ho, h1, Instr.extract, hi]
    · cases he
  · cases he

theorem slc_sound (h : SR w0 B Io R ρ Fr st a w) (hs : Sub s st) {v : Value} {x : AVal} (hv : VA w R ρ v x) {T : Ty} {l : List T.den} (hl : slc s x = some ⟨T, l⟩) :
    ∃ A cap, v = .slice A l.length cap := by
  unfold slc at hl
  split at hl
  · cases hl
    obtain ⟨A, cap, h1, h2⟩ := hv
    exact ⟨A, cap, (List.cons.inj h1).1⟩
  · rename_i id row win
    split at hl
    · rename_i T c hf
      cases hl
      obtain ⟨S, m, hp, hw⟩ := hv
      obtain ⟨p1, _⟩ := full_place h (hs.full hf) hp
      obtain ⟨A', q1, _⟩ := hw.open (c := c) p1
      exact ⟨A', _, q1⟩
    · cases hl
  · cases hl

theorem ok_len {c : Call} (h : SR w0 B Io R ρ Fr st a w) (hs : Sub s st) (ho : o.op = .call c) (hc : c.callee = .builtin .len) (he : evalOp P env ib s o k = some r) :
    ∃ d, k d = some r ∧ OpOk P w0 B Io Fr ib st a w o d := by
  unfold evalOp at he
  rw [ho] at he
  simp only [hc] at he
  split at he
  · rename_i x T hx ht
    have hv := h.evs hs x
    have hargs : c.args = #[x] := by rw [← Array.toArray_toList (xs := c.args), hx]
    split at he
    · rename_i n hl
      refine ⟨_, he, .pure h (v := .int .i64 n) ?_ (VA.ofC rfl)⟩
      unfold lenA at hl
      split at hl
      · rename_i hty
        have hu : ∃ e, P.underlying T = some (.slice e) := by
          unfold lenTy at hty
          split at hty <;> first | exact ⟨_, by assumption⟩ | cases hty
        obtain ⟨e, hu⟩ := hu
        have hsl : ∃ A cap, a.eval x = .slice A n cap := by
          split at hl
          · rename_i e2
            cases hl
            rw [e2] at hv
            exact ⟨none, 0, hv⟩
          · split at hl
            · rename_i hsl
              cases hl
              exact slc_sound h hs hv hsl
            · cases hl
        obtain ⟨A, cap, hsl⟩ := hsl
        simp [execOp, ho, resolve, hc, invoke, builtin, Builtin.len_, hargs, ht, run_underlying' hu, hsl, goInt]
      · rename_i hty
        have hu : P.underlying T = some .string := by
          unfold lenTy at hty
          split at hty <;> first | assumption | cases hty
        split at hl
        · rename_i s' e2
          cases hl
          rw [e2] at hv
          have hv' : a.eval x = .string s' := hv
          simp [execOp, ho, resolve, hc, invoke, builtin, Builtin.len_, hargs, ht, run_underlying' hu, hv', goInt]
        · cases hl
      · cases hl
    · cases he
  · cases he

theorem ok_min {c : Call} (h : SR w0 B Io R ρ Fr st a w) (hs : Sub s st) (ho : o.op = .call c) (hc : c.callee = .builtin .min) (he : evalOp P env ib s o k = some r) :
    ∃ d, k d = some r ∧ OpOk P w0 B Io Fr ib st a w o d := by
  unfold evalOp at he
  rw [ho] at he
  simp only [hc] at he
  split at he
  · rename_i x y hx
    have hv := h.evs hs x
    have hu := h.evs hs y
    have hargs : c.args = #[x, y] := by rw [← Array.toArray_toList (xs := c.args), hx]
    split at he
    · rename_i A m A' n e1 e2
      rw [e1] at hv; rw [e2] at hu
      have hv' : a.eval x = .int A m := hv
      have hu' : a.eval y = .int A' n := hu
      refine ⟨_, he, .pure h (v := .int A (if n < m then n else m)) ?_ (VA.ofC rfl)⟩
      simp [execOp, ho, resolve, hc, invoke, builtin, Builtin.min_, hargs, hv', hu', Builtin.min2]
    · cases he
  · cases he

theorem ok_max {c : Call} (h : SR w0 B Io R ρ Fr st a w) (hs : Sub s st) (ho : o.op = .call c) (hc : c.callee = .builtin .max) (he : evalOp P env ib s o k = some r) :
    ∃ d, k d = some r ∧ OpOk P w0 B Io Fr ib st a w o d := by
  unfold evalOp at he
  rw [ho] at he
  simp only [hc] at he
  split at he
  · rename_i x y hx
    have hv := h.evs hs x
    have hu := h.evs hs y
    have hargs : c.args = #[x, y] := by rw [← Array.toArray_toList (xs := c.args), hx]
    split at he
    · rename_i A m A' n e1 e2
      rw [e1] at hv; rw [e2] at hu
      have hv' : a.eval x = .int A m := hv
      have hu' : a.eval y = .int A' n := hu
      refine ⟨_, he, .pure h (v := .int A (if n > m then n else m)) ?_ (VA.ofC rfl)⟩
      simp [execOp, ho, resolve, hc, invoke, builtin, Builtin.max_, hargs, hv', hu', Builtin.max2]
    · cases he
  · cases he
end
end Go.OAI
