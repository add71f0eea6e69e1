/- One operation: what the evaluator says holds of the machine. First those without calls. -/
import Derived.Test.YtaiopbdbnellhaaB1
import Derived.Laws.Cells
import Derived.Laws.CopyRow
namespace Go.OAI
set_option linter.unusedVariables false

variable {P : Program} {w0 : W0} {w : World} {B : Nat} {Io R : Nat → Prop} {ρ : Nat → Option Pl} {Fr : Nat → Prop} {st s : St} {a : Act}

/-- The numbers of an operation's own objects. -/
def Own (ib : Nat) (i : Nat) : Prop := ib ≤ i ∧ i < ib + 16
/-- What an operation owes. -/
def OpOk (P : Program) (w0 : W0) (B : Nat) (Io Fr : Nat → Prop) (ib : Nat) (st : St) (a : Act) (w : World) (o : Oper) (d : Delta) : Prop :=
  ∀ (next : Act → World → Prop) (Q : Exit → Act → World → Prop),
    (∀ v w', (∃ R ρ, SR w0 B Io R ρ (fun i => Fr i ∧ ¬ Own ib i) (st.app o.dst d) (a.put o.dst v) w') → next (a.put o.dst v) w') → o.wp P a w next Q

theorem OpOk.value {o : Oper} {d : Delta} {ib : Nat} {v : Value} {w' : World} (hr : (execOp a.eval o).run P w = .ok (.value v) w')
    (h : ∃ R ρ, SR w0 B Io R ρ (fun i => Fr i ∧ ¬ Own ib i) (st.app o.dst d) (a.put o.dst v) w') : OpOk P w0 B Io Fr ib st a w o d := by
  intro next Q hn
  unfold Oper.wp
  rw [hr]
  exact hn v w' h
theorem OpOk.skip {o : Oper} {d : Delta} {ib : Nat} {w' : World} (hr : (execOp a.eval o).run P w = .ok .skip w')
    (h : ∃ R ρ, SR w0 B Io R ρ (fun i => Fr i ∧ ¬ Own ib i) (st.app o.dst d) (a.put o.dst undef) w') : OpOk P w0 B Io Fr ib st a w o d := by
  intro next Q hn
  unfold Oper.wp
  rw [hr]
  exact hn undef w' h
theorem app_nil (st : St) (d : Option Nat) (x : AVal) : st.app d ⟨x, []⟩ = st.put d x := by
  have e : (st.put d x).ob = st.ob := put_ob st d x
  show ({ st.put d x with ob := st.ob } : St) = st.put d x
  rw [← e]
/-- A value alone; the world stands still. -/
theorem OpOk.pure {o : Oper} {x : AVal} {ib : Nat} {v : Value} (h : SR w0 B Io R ρ Fr st a w) (hr : (execOp a.eval o).run P w = .ok (.value v) w) (hv : VA w R ρ v x) :
    OpOk P w0 B Io Fr ib st a w o ⟨x, []⟩ :=
  .value hr ⟨R, ρ, by
    have := (h.put o.dst hv).weaken (Fr' := fun i => Fr i ∧ ¬ Own ib i) (fun i hi => hi.1)
    rw [app_nil]; exact this⟩

theorem add_none (b o k : Nat) : (⟨b, o, none⟩ : Addr).add k = ⟨b, o + k, none⟩ := by
  unfold Addr.add; split <;> simp_all

theorem exists_list {n : Nat} {p : Nat → Value → Prop} (h : ∀ k, k < n → ∃ u, p k u) : ∃ us : List Value, us.length = n ∧ ∀ k u, us[k]? = some u → p k u := by
  induction n with
  | zero => exact ⟨[], rfl, fun k u hu => by simp at hu⟩
  | succ n ih =>
    obtain ⟨us, h1, h2⟩ := ih (fun k hk => h k (by omega))
    obtain ⟨u, hu⟩ := h n (by omega)
    refine ⟨us ++ [u], by simp [h1], fun k v hv => ?_⟩
    by_cases hk : k < us.length
    · rw [List.getElem?_append_left hk] at hv; exact h2 k v hv
    · rw [List.getElem?_append_right (by omega)] at hv
      have : k = n := by
        rcases Nat.lt_or_ge (k - us.length) 1 with e | e
        · omega
        · simp [List.getElem?_eq_none (l := [u]) (i := k - us.length) (by simpa using e)] at hv
      subst this
      simp [h1] at hv; subst hv; exact hu

theorem run_underlying' {t : TypeId} {d : TypeDesc} (h : P.underlying t = some d) (w : World) : (underlying t).run P w = .ok d w := by
  simp [underlying, h]
theorem run_sizeB {t : TypeId} {n : Nat} (h : sizeB P t = some n) (w : World) : (sizeOf t).run P w = .ok n w := by
  unfold sizeB at h
  cases e : P.info? t with
  | none => rw [e] at h; cases h
  | some i => rw [e] at h; cases h; simp [sizeOf, typeInfo, e]
theorem run_isAggB {t : TypeId} {g : Bool} (h : isAggB P t = some g) (w : World) : (isAgg t).run P w = .ok g w := by
  unfold isAggB at h
  cases e : P.underlying t with
  | none => rw [e] at h; cases h
  | some d => rw [e] at h; cases d <;> cases h <;> simp [isAgg, run_underlying' e]

/-- A variable of several cells is loaded. -/
theorem run_loadVar' {T : TypeId} {g : Bool} {n c : Nat} {cs : List AVal} {v : AVal} {b off : Nat} (hg : isAggB P T = some g) (hn : sizeB P T = some n) (ht : takeV g n c cs = some v)
    (hc : ∀ k x, cs[k]? = some x → ∃ u, cellAt w b (off + k) = some u ∧ CA w R ρ u x) : ∃ u, (loadVar T ⟨b, off + c, none⟩).run P w = .ok u w ∧ VA w R ρ u v := by
  unfold takeV at ht
  cases g with
  | false =>
    simp only [cond_false] at ht
    obtain ⟨u, h1, h2⟩ := hc c v ht
    refine ⟨u, ?_, VA.ofC h2⟩
    unfold cellAt at h1
    simp [loadVar, run_isAggB hg, h1]
  | true =>
    simp only [cond_true] at ht
    by_cases hl : c + n ≤ cs.length
    · simp only [hl, decide_true, cond_true] at ht
      cases ht
      obtain ⟨us, hu1, hu2⟩ := exists_list (n := n) (p := fun k u => ∃ x, cs[c + k]? = some x ∧ cellAt w b (off + (c + k)) = some u ∧ CA w R ρ u x) (fun k hk => by
        have hk' : c + k < cs.length := by omega
        obtain ⟨u, h1, h2⟩ := hc (c + k) _ (List.getElem?_eq_getElem hk')
        exact ⟨u, _, List.getElem?_eq_getElem hk', h1, h2⟩)
      have hrun := run_loadCells_list (P := P) w ⟨b, off + c, none⟩ us (fun j v hv => by
        obtain ⟨x, _, h1, _⟩ := hu2 j v hv
        rw [add_none, Nat.add_assoc]; exact h1)
      rw [hu1] at hrun
      refine ⟨.agg us.toArray, by simp [loadVar, run_isAggB hg, run_sizeB hn, hrun], ?_⟩
      refine ⟨us.toArray, rfl, by simp [hu1]; omega, fun i u x hu hx => ?_⟩
      have hu' : us[i]? = some u := by simpa using hu
      obtain ⟨x', e1, e2, e3⟩ := hu2 i u hu'
      have hi : i < n := by
        rcases Nat.lt_or_ge i n with h | h
        · exact h
        · rw [← hu1] at h; simp [List.getElem?_eq_none h] at hu'
      rw [List.getElem?_take_of_lt hi, List.getElem?_drop] at hx
      rw [hx] at e1; cases e1; exact e3
    · simp [hl] at ht

theorem cellsOfV_VA {v : Value} {x : AVal} {cs : List AVal} (hv : VA w R ρ v x) (hc : cellsOfV x = some cs) :
    v.cells.size = cs.length ∧ ∀ (k : Nat) u y, v.cells[k]? = some u → cs[k]? = some y → CA w R ρ u y := by
  have one : ∀ y, VA w R ρ v y → (∀ cs, y ≠ .agg cs) → (y ≠ .undef) → (∀ ys, y ≠ .tup ys) → CA w R ρ v y := by
    intro y hy h1 h2 h3
    cases y <;> first | exact hy | exact absurd rfl h2 | exact absurd rfl (h1 _) | exact absurd rfl (h3 _)
  have key : CA w R ρ v x → cs = [x] → v.cells.size = cs.length ∧ ∀ (k : Nat) u y, v.cells[k]? = some u → cs[k]? = some y → CA w R ρ u y := by
    intro h e
    subst e
    have h1 := h.one
    have hcells : v.cells = #[v] := by cases v <;> first | rfl | (simp [Value.oneCell'] at h1)
    rw [hcells]
    refine ⟨rfl, fun k u y hu hy => ?_⟩
    match k with
    | 0 => simp at hu hy; subst hu; subst hy; exact h
    | k + 1 => simp at hy
  cases x <;> simp only [cellsOfV] at hc
  all_goals first
    | (cases hc; exact key (one _ hv (by simp) (by simp) (by simp)) rfl)
    | (cases hc; done)
    | skip
  cases hc
  obtain ⟨us, rfl, h2, h3⟩ := hv
  exact ⟨by simpa [Value.cells] using h2, fun k u y hu hy => h3 k u y (by simpa [Value.cells] using hu) hy⟩

/-- The world with one block more. -/
def pushW (w : World) (o : Go.Obj) : World := { w with heap := w.heap.push o }
theorem pushW_grows (w : World) (o : Go.Obj) : Grows w (pushW w o) := fun b hb => by
  show (w.heap.push o)[b]? = w.heap[b]?
  rw [Array.getElem?_push]; simp [Nat.ne_of_lt hb]
theorem pushW_quiet (w : World) (c : Array Value) (t : TypeId) : Quiet w (pushW w (.cells c t)) := ⟨rfl, rfl, fun a => by
  unfold World.frozen? pushW
  by_cases h : a.block < w.heap.size
  · rw [Array.getElem?_push_lt h]; simp [h]
  · by_cases h' : a.block = w.heap.size
    · rw [h', Array.getElem?_push_size]
      simp
    · rw [Array.getElem?_eq_none (by simp; omega), Array.getElem?_eq_none (by omega)]⟩
theorem pushW_last (w : World) (o : Go.Obj) : (pushW w o).heap[w.heap.size]? = some o := by
  show (w.heap.push o)[w.heap.size]? = _
  simp
theorem pushW_size (w : World) (o : Go.Obj) : (pushW w o).heap.size = w.heap.size + 1 := by
  show (w.heap.push o).size = _
  simp

theorem app_one (st : St) (d : Option Nat) (x : AVal) (id : Nat) (o : Option Obj) :
    st.app d ⟨x, [(id, o)]⟩ = { st.put d x with ob := fun i => if i = id then o else (st.put d x).ob i } := by
  simp [St.app, obUpd]

/-- A new object in the block that was made last. -/
theorem SR.newLast (h : SR w0 B Io R ρ Fr st a w) {o : Go.Obj} {id : Nat} (hf : Fr id) {x : Obj} {p : Pl} (hx : OA (pushW w o) R (fun i => if i = id then some p else ρ i) p x)
    (hb : ∀ b, blkO p b → b = w.heap.size) (hq : Quiet w (pushW w o)) :
    SR w0 B Io R (fun i => if i = id then some p else ρ i) (fun i => Fr i ∧ i ≠ id) { st with ob := fun i => if i = id then some x else st.ob i } a (pushW w o) := by
  refine (h.grow (pushW_grows w o) hq).new hf hx (fun b hb' => ?_) (fun id' o' p' b h1 h2 h3 h4 => ?_)
  · have := hb b hb'
    subst this
    refine ⟨by simp [pushW_size], fun hR => Nat.lt_irrefl _ (h.rlt _ hR), Or.inl h.size0⟩
  · have := hb b h3
    subst this
    exact Nat.lt_irrefl _ (h.own id' o' p' _ h1 h2 h4).1

theorem own_ne {ib i : Nat} {Fr : Nat → Prop} (h : Fr i ∧ ¬ Own ib i) : Fr i ∧ i ≠ ib := ⟨h.1, fun e => h.2 (by subst e; exact ⟨Nat.le_refl _, by omega⟩)⟩

/-- A new object, its address or slice handed back. -/
theorem OpOk.made (h : SR w0 B Io R ρ Fr st a w) {o : Oper} {ib : Nat} (hf : Fr ib) {b : Go.Obj} {v : Value} {x : AVal} {y : Obj} {p : Pl}
    (hr : (execOp a.eval o).run P w = .ok (.value v) (pushW w b)) (hy : OA (pushW w b) R (fun i => if i = ib then some p else ρ i) p y) (hb : ∀ b, blkO p b → b = w.heap.size)
    (hv : VA (pushW w b) R (fun i => if i = ib then some p else ρ i) v x) (hq : Quiet w (pushW w b) := by exact pushW_quiet _ _ _) : OpOk P w0 B Io Fr ib st a w o ⟨x, [(ib, some y)]⟩ :=
  .value hr ⟨R, _, by
    have := ((h.newLast hf hy hb hq).put o.dst hv).weaken (Fr' := fun i => Fr i ∧ ¬ Own ib i) (fun i hi => own_ne hi)
    rw [app_one]
    have e : ({ st.put o.dst x with ob := fun i => if i = ib then some y else (st.put o.dst x).ob i } : St) = ({ st with ob := fun i => if i = ib then some y else st.ob i } : St).put o.dst x := by
      cases o.dst with
      | none => rfl
      | some d => simp only [St.put]; unfold St.setTm; by_cases hd : d < st.n <;> simp [hd]
    rw [e]; exact this⟩

theorem ofVal_CA {v : Value} (h : v.oneCell' = true) : CA w R ρ v (ofVal v) := by
  unfold ofVal
  split <;> first | exact h | simp [CA, RA]

theorem box_OA {w : World} {vs : Array Value} {T : TypeId} {cs : List AVal} {R : Nat → Prop} {ρ' : Nat → Option Pl} (hl : vs.size = cs.length)
    (hc : ∀ (k : Nat) u y, vs[k]? = some u → cs[k]? = some y → CA (pushW w (.cells vs T)) R ρ' u y) : OA (pushW w (.cells vs T)) R ρ' (.box w.heap.size 0) (.box cs) := by
  refine ⟨w.heap.size, 0, vs, T, rfl, pushW_last w _, fun k x hx => ?_⟩
  have hk : k < vs.size := by
    rcases Nat.lt_or_ge k vs.size with h | h
    · exact h
    · rw [hl] at h; simp [List.getElem?_eq_none h] at hx
  exact ⟨vs[k], by simp [hk], hc k _ x (by simp [hk]) hx⟩

section
variable {Rt : Type} {env : Nat → Option Callee} {ib : Nat} {o : Oper} {k : Delta → Option Rt} {r : Rt}

theorem ok_move {x : Operand} (h : SR w0 B Io R ρ Fr st a w) (hs : Sub s st) (ho : o.op = .move x ∨ o.op = .assign x) (he : evalOp P env ib s o k = some r) :
    ∃ d, k d = some r ∧ OpOk P w0 B Io Fr ib st a w o d := by
  refine ⟨⟨ev s x, []⟩, ?_, .pure h (v := a.eval x) ?_ (h.evs hs x)⟩
  · rcases ho with ho | ho <;> (unfold evalOp at he; rw [ho] at he; exact he)
  · rcases ho with ho | ho <;> simp [execOp, ho]

theorem ok_pick {c x y : Operand} (h : SR w0 B Io R ρ Fr st a w) (hs : Sub s st) (ho : o.op = .pick c x y) (he : evalOp P env ib s o k = some r) :
    ∃ d, k d = some r ∧ OpOk P w0 B Io Fr ib st a w o d := by
  unfold evalOp at he
  rw [ho] at he
  simp only at he
  split at he
  · rename_i e
    have hc := h.evs hs c; rw [e] at hc
    have hc' : a.eval c = .bool true := hc
    exact ⟨_, he, .pure h (v := a.eval x) (by simp [execOp, ho, hc', asBool]) (h.evs hs x)⟩
  · rename_i e
    have hc := h.evs hs c; rw [e] at hc
    have hc' : a.eval c = .bool false := hc
    exact ⟨_, he, .pure h (v := a.eval y) (by simp [execOp, ho, hc', asBool]) (h.evs hs y)⟩
  · cases he

theorem ok_alloc {T : TypeId} (h : SR w0 B Io R ρ Fr st a w) (hs : Sub s st) (hf : Fr ib) (ho : o.op = .alloc T) (he : evalOp P env ib s o k = some r) :
    ∃ d, k d = some r ∧ OpOk P w0 B Io Fr ib st a w o d := by
  unfold evalOp at he
  rw [ho] at he
  simp only at he
  split at he
  · rename_i cs hz
    unfold zeroB at hz
    split at hz
    · rename_i i hi
      split at hz
      · rename_i v hv
        split at hz
        · rename_i hone
          cases hz
          refine ⟨_, he, .made h hf (v := .pointer (some ⟨w.heap.size, 0, none⟩)) (b := .cells v.cells T) (p := .box w.heap.size 0) ?_ (box_OA (by simp) fun k u y hu hy => ?_) (fun b hb => hb.symm) ?_⟩
          · simp [execOp, ho, Instr.alloc, zeroValue, typeInfo, hi, hv, newVar, newRow, pushW]
          · simp only [List.getElem?_map] at hy
            have hu' : v.cells.toList[k]? = some u := by simpa using hu
            rw [hu'] at hy
            cases hy
            exact ofVal_CA (List.all_eq_true.1 hone u (List.mem_of_getElem? hu'))
          · exact VA.ofC ⟨w.heap.size, 0, by simp, by simp⟩
        · cases hz
      · cases hz
    · cases hz
  · cases he

theorem ok_box {T : TypeId} {x : Operand} (h : SR w0 B Io R ρ Fr st a w) (hs : Sub s st) (hf : Fr ib) (ho : o.op = .box T x) (he : evalOp P env ib s o k = some r) :
    ∃ d, k d = some r ∧ OpOk P w0 B Io Fr ib st a w o d := by
  unfold evalOp at he
  rw [ho] at he
  simp only at he
  split at he
  · rename_i cs hz
    obtain ⟨h1, h2⟩ := cellsOfV_VA (h.evs hs x) hz
    refine ⟨_, he, .made h hf (v := .pointer (some ⟨w.heap.size, 0, none⟩)) (b := .cells (a.eval x).cells T) (p := .box w.heap.size 0) ?_ (box_OA h1 fun k u y hu hy => ?_) (fun b hb => hb.symm) ?_⟩
    · simp [execOp, ho, Instr.box, newVar, newRow, pushW]
    · exact (h2 k u y hu hy).mono (fun b hb => pushW_grows w _ b (h.rlt b hb)) (fun _ hb => hb) (h.ρmono hf _)
    · exact VA.ofC ⟨w.heap.size, 0, by simp, by simp⟩
  · cases he
end
end Go.OAI
