/- A law's row out of a contract. -/
import Derived.Test.YtaiopbdbnellhaaR0
namespace Go.OAI
set_option linter.unusedVariables false
open Go.ChangeShapes Go.WideShapes Go.ChangeAt Go.RowKit

variable {P : Program} {w : World} {H : Type} {enc : TypeId × Value → H}

/-- An argument as the evaluator has it. -/
def argA (P : Program) (t : TypeId) (T : Ty) (x : T.den) : AVal :=
  match P.underlying t with
  | some (.struct _) => .agg (T.flat x)
  | _ => (T.flat x).headD .undef

theorem cell_arg {T : Ty} {v : Value} {x : T.den} (hr : RT w (InHeap w) T [v] x) (h1 : ∀ a b, T ≠ .pair a b) (h2 : T ≠ .unit) : AT w (InHeap w) v (fun _ => False) ((T.flat x).headD .undef) := by
  cases T with
  | int k => cases hr; exact rfl
  | bool => cases hr; exact rfl
  | str => cases hr; exact rfl
  | slice t => exact hr
  | pair a b => exact absurd rfl (h1 a b)
  | unit => exact absurd rfl h2

theorem open_arg {n : Nat} {t : TypeId} {T : Ty} {r : Reach} {b0 base : Nat} {sp : Nat → Bool} {held : Bool} {v : Value} {d : DataW H} {ps : List MemPlace} (hk : okTy P n t T = true) (hval : Value.okWide P w r b0 t v)
    (hd : DataW.Trod enc P w base sp held t v d ps) : ∃ x : T.den, T.wf x ∧ AT w (InHeap w) v (fun _ => False) (argA P t T x) := by
  obtain ⟨fuel, hd⟩ := hd
  obtain ⟨x, x1, x2⟩ := trod_RT hk hd
  refine ⟨x, x2, ?_⟩
  cases n with
  | zero => simp [okTy] at hk
  | succ n =>
    unfold argA
    simp only [okTy] at hk
    split at hk
    · rename_i k k' hu
      rw [hu]
      have hv : v.cells.toList = [v] := by
        simp only [Value.okWide, hu, Cell.okWide] at hval
        cases v <;> simp_all [Cell.ok, Value.cells]
      rw [hv] at x1
      exact cell_arg x1 (by simp) (by simp)
    · rename_i hu
      rw [hu]
      have hv : v.cells.toList = [v] := by
        simp only [Value.okWide, hu, Cell.okWide] at hval
        cases v <;> simp_all [Cell.ok, Value.cells]
      rw [hv] at x1
      exact cell_arg x1 (by simp) (by simp)
    · rename_i hu
      rw [hu]
      obtain ⟨s, rfl⟩ := okWide_string hu hval
      exact cell_arg x1 (by simp) (by simp)
    · rename_i e E hu
      rw [hu]
      obtain ⟨a, len, cap, rfl⟩ := okWide_slice hu hval
      exact cell_arg x1 (by simp) (by simp)
    · rename_i fs hu
      rw [hu]
      obtain ⟨cs, rfl, hsz⟩ := okWide_struct hu hval
      have x1 : RT w (InHeap w) _ cs.toList _ := x1
      obtain ⟨g1, g2⟩ := x1.flat
      refine ⟨cs, rfl, by rw [g1]; simp, fun _ _ => False, fun i y hy => ?_, fun _ _ _ _ h => h.elim, fun _ _ h => h.elim⟩
      have hi := lt_of_get hy
      rw [g1] at hi
      refine ⟨cs.toList[i], by simp, RA.ct (g2 i _ y (by simp) hy)⟩
    · cases hk

theorem law_walk {f : Nat} {cl : Callee} (hc : CalleeOk P f cl) {vs : List Value} {ds : List AVal} {x : cl.X} {y : cl.Y} (hl : vs.length = ds.length)
    (hat : ∀ (i : Nat) v d, vs[i]? = some v → ds[i]? = some d → AT w (InHeap w) v (fun _ => False) d) (hinn : cl.inn ds = some x) (hG : cl.G x = some y) (hout : (cl.out y).1 = .bool true) :
    Calls P f vs.toArray w fun e w' => e = .returned (.bool true) ∧ Grown w w' ∧ Grows w w' := by
  refine (hc w (InHeap w) (fun _ => False) vs ds x y hl ⟨fun _ _ => False, fun i p hp => ?_, fun _ _ _ _ h => h.elim, fun _ _ h => h⟩ (fun _ h => h.elim) (fun _ h => h) hinn hG).mono fun e w' ⟨rs, he, h1, h2, h3, R', h4, h5, h6, h7, h8, h9⟩ => ?_
  · obtain ⟨v, d⟩ := p
    rw [List.getElem?_zip_eq_some] at hp
    exact hat i v d hp.1 hp.2
  · rw [hout] at h1 h2
    obtain ⟨v, d, rfl⟩ : ∃ v d, rs = [(v, d)] := by
      match rs, h1 with
      | [(v, d)], _ => exact ⟨v, d, rfl⟩
      | [], h1 => simp [resList] at h1
      | _ :: _ :: _, h1 => simp [resList] at h1
    simp only [List.map_cons, List.map_nil, resList, List.cons.injEq, and_true] at h1
    subst h1
    obtain ⟨Ss, g1, _⟩ := h4
    have hv : v = .bool true := g1 0 _ rfl
    subst hv
    refine ⟨he, ⟨⟨h9.1, h9.2.1, fun i hi => ?_⟩, h9.2.2, h8⟩, fun b hb => h7 b hb fun h => h⟩
    rw [h7 i hi (fun h => h)]
    cases hx : w.heap[i]? with
    | none => rfl
    | some o =>
      cases o with
      | cells c t fr => exact ⟨rfl, rfl, rfl, fun _ _ => rfl⟩
      | map es clock => exact .inr ⟨rfl, rfl⟩
      | _ => rfl
theorem same_of {W W' : World} (h : Grows W W') {p : MemPlace} (hp : p.block < W.heap.size) : W.sameAt W' p := by
  cases p with
  | cell b off =>
    show W'.cell? ⟨b, off, none⟩ = W.cell? ⟨b, off, none⟩
    unfold World.cell?
    rw [h b hp]
  | map b => exact h b hp
end Go.OAI
