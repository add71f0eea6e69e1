/- One operation, whatever it be. -/
import Derived.Test.YtaiopbdbnellhaaC4
namespace Go.OAI
set_option linter.unusedVariables false

variable {P : Program} {w0 : W0} {w : World} {B : Nat} {Io R : Nat → Prop} {ρ : Nat → Option Pl} {Fr : Nat → Prop} {st s : St} {a : Act}

theorem op_sound {env : Nat → Option Callee} {ib : Nat} {α : Type} {k : Delta → Option α} {r : α} {o : Oper} (henv : EnvOk P env) (h : SR w0 B Io R ρ Fr st a w) (hs : Sub s st) (hf : ∀ i, Own ib i → Fr i)
    (he : evalOp P env ib s o k = some r) : ∃ d, k d = some r ∧ OpOk P w0 B Io Fr ib st a w o d := by
  have hfi : Fr ib := hf ib ⟨Nat.le_refl _, by omega⟩
  cases ho : o.op
  case move => exact ok_move h hs (.inl ho) he
  case assign => exact ok_move h hs (.inr ho) he
  case pick => exact ok_pick h hs ho he
  case alloc => exact ok_alloc h hs hfi ho he
  case box => exact ok_box h hs hfi ho he
  case build => exact ok_build h hs ho he
  case buildSlice => exact ok_buildSlice h hs hfi ho he
  case load => exact ok_load h hs ho he
  case store => exact ok_store h hs ho he
  case binOp => exact ok_binOp h hs ho he
  case unOp => exact ok_unOp h hs ho he
  case makeSlice => exact ok_makeSlice h hs hfi ho he
  case slice => exact ok_slice h hs ho he
  case fieldAddr => exact ok_fieldAddr h hs ho he
  case field => exact ok_field h hs ho he
  case indexAddr => exact ok_indexAddr h hs ho he
  case nilCheck => exact ok_nilCheck h hs ho he
  case extract => exact ok_extract h hs ho he
  case call c =>
    cases hc : c.callee
    case value f => exact ok_call henv h hs hf ho hc he
    case builtin b =>
      cases b
      case len => exact ok_len h hs ho hc he
      case min => exact ok_min h hs ho hc he
      case max => exact ok_max h hs ho hc he
      case append => exact ok_append h hs hfi ho hc he
      all_goals (unfold evalOp at he; simp only [ho, hc] at he; cases he)
    all_goals (unfold evalOp at he; simp only [ho, hc] at he; cases he)
  all_goals (unfold evalOp at he; simp only [ho] at he; cases he)
end Go.OAI
