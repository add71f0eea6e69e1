/- One operation: what the evaluator says holds of the machine. First those without calls. One operation, continued: reading. One operation, continued: the rest without memory's change but for new objects. -/
import Derived.Test.YtejiaikhdjanoaaGreatB1
import Derived.Laws.Cells
import Derived.Laws.CopyRow
import Derived.Laws.StructEq
namespace Go.OAI
set_option linter.unusedVariables false
variable {P : Program} {w0 : W0} {w : World} {B : Nat} {Io R : Nat → Prop} {ρ : Nat → Option Pl} {Fr : Nat → Prop} {st s : St} {a : Act}
def Own (ib : Nat) (i : Nat) : Prop := ib ≤ i ∧ i < ib + 16
def OpOk (P : Program) (w0 : W0) (B : Nat) (Io Fr : Nat → Prop) (ib : Nat) (st : St) (a : Act) (w : World) (o : Oper) (d : Delta) : Prop :=
  ∀ (next : Act → World → Prop) (Q : Exit → Act → World → Prop),
    (∀ v w', (∃ R ρ, SR w0 B Io R ρ (fun i => Fr i ∧ ¬ Own ib i) (st.app o.dst d) (a.put o.dst v) w') → next (a.put o.dst v) w') → o.wp P a w next Q
theorem OpOk.value {o : Oper} {d : Delta} {ib : Nat} {v : Value} {w' : World} (hr : (execOp a.eval o).run P w = .ok (.value v) w')
    (h : ∃ R ρ, SR w0 B Io R ρ (fun i => Fr i ∧ ¬ Own ib i) (st.app o.dst d) (a.put o.dst v) w') : OpOk P w0 B Io Fr ib st a w o d := by
  intro next Q hn
  unfold Oper.wp
  rw [hr]
  exact hn v w' h
theorem OpOk.skip {o : Oper} {d : Delta} {ib : Nat} {w' : World} (hr : (execOp a.eval o).run P w = .ok .skip w')
    (h : ∃ R ρ, SR w0 B Io R ρ (fun i => Fr i ∧ ¬ Own ib i) (st.app o.dst d) (a.put o.dst undef) w') : OpOk P w0 B Io Fr ib st a w o d := by
  intro next Q hn
  unfold Oper.wp
  rw [hr]
  exact hn undef w' h
theorem app_nil (st : St) (d : Option Nat) (x : AVal) : st.app d ⟨x, []⟩ = st.put d x := by
  have e : (st.put d x).ob = st.ob := put_ob st d x
  show ({ st.put d x with ob := st.ob } : St) = st.put d x
  rw [← e]
theorem OpOk.pure {o : Oper} {x : AVal} {ib : Nat} {v : Value} (h : SR w0 B Io R ρ Fr st a w) (hr : (execOp a.eval o).run P w = .ok (.value v) w) (hv : VA w0 w R ρ v x) :
    OpOk P w0 B Io Fr ib st a w o ⟨x, []⟩ :=
  .value hr ⟨R, ρ, by
    have := (h.put o.dst hv).weaken (Fr' := fun i => Fr i ∧ ¬ Own ib i) (fun i hi => hi.1)
    rw [app_nil]; exact this⟩
theorem add_none (b o k : Nat) : (⟨b, o, none⟩ : Addr).add k = ⟨b, o + k, none⟩ := by
  unfold Addr.add; split <;> simp_all
theorem exists_list {n : Nat} {p : Nat → Value → Prop} (h : ∀ k, k < n → ∃ u, p k u) : ∃ us : List Value, us.length = n ∧ ∀ k u, us[k]? = some u → p k u := by
  induction n with
  | zero => exact ⟨[], rfl, fun k u hu => by simp at hu⟩
  | succ n ih =>
    obtain ⟨us, h1, h2⟩ := ih (fun k hk => h k (by omega))
    obtain ⟨u, hu⟩ := h n (by omega)
    refine ⟨us ++ [u], by simp [h1], fun k v hv => ?_⟩
    by_cases hk : k < us.length
    · rw [List.getElem?_append_left hk] at hv; exact h2 k v hv
    · rw [List.getElem?_append_right (by omega)] at hv
      have : k = n := by
        rcases Nat.lt_or_ge (k - us.length) 1 with e | e
        · omega
        · simp [List.getElem?_eq_none (l := [u]) (i := k - us.length) (by simpa using e)] at hv
      subst this
      simp [h1] at hv; subst hv; exact hu
theorem run_underlying' {t : TypeId} {d : TypeDesc} (h : P.underlying t = some d) (w : World) : (underlying t).run P w = .ok d w := by
  simp [underlying, h]
theorem run_sizeB {t : TypeId} {n : Nat} (h : sizeB P t = some n) (w : World) : (sizeOf t).run P w = .ok n w := by
  unfold sizeB at h
  cases e : P.info? t with
  | none => rw [e] at h; cases h
  | some i => rw [e] at h; cases h; simp [sizeOf, typeInfo, e]
theorem run_isAggB {t : TypeId} {g : Bool} (h : isAggB P t = some g) (w : World) : (isAgg t).run P w = .ok g w := by
  unfold isAggB at h
  cases e : P.underlying t with
  | none => rw [e] at h; cases h
  | some d => rw [e] at h; cases d <;> cases h <;> simp [isAgg, run_underlying' e]
theorem run_loadVar' {T : TypeId} {g : Bool} {n c : Nat} {cs : List AVal} {v : AVal} {b off : Nat} (hg : isAggB P T = some g) (hn : sizeB P T = some n) (ht : takeV g n c cs = some v)
    (hc : ∀ k x, cs[k]? = some x → ∃ u, cellAt w b (off + k) = some u ∧ CA w0 w R ρ u x) : ∃ u, (loadVar T ⟨b, off + c, none⟩).run P w = .ok u w ∧ VA w0 w R ρ u v := by
  unfold takeV at ht
  cases g with
  | false =>
    simp only [cond_false] at ht
    obtain ⟨u, h1, h2⟩ := hc c v ht
    refine ⟨u, ?_, VA.ofC h2⟩
    unfold cellAt at h1
    simp [loadVar, run_isAggB hg, h1]
  | true =>
    simp only [cond_true] at ht
    by_cases hl : c + n ≤ cs.length
    · simp only [hl, decide_true, cond_true] at ht
      cases ht
      obtain ⟨us, hu1, hu2⟩ := exists_list (n := n) (p := fun k u => ∃ x, cs[c + k]? = some x ∧ cellAt w b (off + (c + k)) = some u ∧ CA w0 w R ρ u x) (fun k hk => by
        have hk' : c + k < cs.length := by omega
        obtain ⟨u, h1, h2⟩ := hc (c + k) _ (List.getElem?_eq_getElem hk')
        exact ⟨u, _, List.getElem?_eq_getElem hk', h1, h2⟩)
      have hrun := run_loadCells_list (P := P) w ⟨b, off + c, none⟩ us (fun j v hv => by
        obtain ⟨x, _, h1, _⟩ := hu2 j v hv
        rw [add_none, Nat.add_assoc]; exact h1)
      rw [hu1] at hrun
      refine ⟨.agg us.toArray, by simp [loadVar, run_isAggB hg, run_sizeB hn, hrun], ?_⟩
      refine ⟨us.toArray, rfl, by simp [hu1]; omega, fun i u x hu hx => ?_⟩
      have hu' : us[i]? = some u := by simpa using hu
      obtain ⟨x', e1, e2, e3⟩ := hu2 i u hu'
      have hi : i < n := by
        rcases Nat.lt_or_ge i n with h | h
        · exact h
        · rw [← hu1] at h; simp [List.getElem?_eq_none h] at hu'
      rw [List.getElem?_take_of_lt hi, List.getElem?_drop] at hx
      rw [hx] at e1; cases e1; exact e3
    · simp [hl] at ht
theorem cellsOfV_VA {v : Value} {x : AVal} {cs : List AVal} (hv : VA w0 w R ρ v x) (hc : cellsOfV x = some cs) :
    v.cells.size = cs.length ∧ ∀ (k : Nat) u y, v.cells[k]? = some u → cs[k]? = some y → CA w0 w R ρ u y := by
  have one : ∀ y, VA w0 w R ρ v y → (∀ cs, y ≠ .agg cs) → (y ≠ .undef) → (∀ ys, y ≠ .tup ys) → CA w0 w R ρ v y := by
    intro y hy h1 h2 h3
    cases y <;> first | exact hy | exact absurd rfl h2 | exact absurd rfl (h1 _) | exact absurd rfl (h3 _)
  have key : CA w0 w R ρ v x → cs = [x] → v.cells.size = cs.length ∧ ∀ (k : Nat) u y, v.cells[k]? = some u → cs[k]? = some y → CA w0 w R ρ u y := by
    intro h e
    subst e
    have h1 := h.one
    have hcells : v.cells = #[v] := by cases v <;> first | rfl | (simp [Value.oneCell'] at h1)
    rw [hcells]
    refine ⟨rfl, fun k u y hu hy => ?_⟩
    match k with
    | 0 => simp at hu hy; subst hu; subst hy; exact h
    | k + 1 => simp at hy
  cases x <;> simp only [cellsOfV] at hc
  all_goals first
    | (cases hc; exact key (one _ hv (by simp) (by simp) (by simp)) rfl)
    | (cases hc; done)
    | skip
  cases hc
  obtain ⟨us, rfl, h2, h3⟩ := hv
  exact ⟨by simpa [Value.cells] using h2, fun k u y hu hy => h3 k u y (by simpa [Value.cells] using hu) hy⟩
def pushW (w : World) (o : Go.Obj) : World := { w with heap := w.heap.push o }
theorem pushW_grows (w : World) (o : Go.Obj) : Grows w (pushW w o) := fun b hb => by
  show (w.heap.push o)[b]? = w.heap[b]?
  rw [Array.getElem?_push]; simp [Nat.ne_of_lt hb]
theorem pushW_quiet (w : World) (c : Array Value) (t : TypeId) : Quiet w (pushW w (.cells c t)) := ⟨rfl, rfl⟩
theorem pushW_last (w : World) (o : Go.Obj) : (pushW w o).heap[w.heap.size]? = some o := by
  show (w.heap.push o)[w.heap.size]? = _
  simp
theorem pushW_size (w : World) (o : Go.Obj) : (pushW w o).heap.size = w.heap.size + 1 := by
  show (w.heap.push o).size = _
  simp
theorem app_one (st : St) (d : Option Nat) (x : AVal) (id : Nat) (o : Option Obj) :
    st.app d ⟨x, [(id, o)]⟩ = { st.put d x with ob := fun i => if i = id then o else (st.put d x).ob i } := by
  simp [St.app, obUpd]
theorem SR.newLast (h : SR w0 B Io R ρ Fr st a w) {o : Go.Obj} {id : Nat} (hf : Fr id) {x : Obj} {p : Pl} (hx : OA w0 (pushW w o) R (fun i => if i = id then some p else ρ i) p x)
    (hb : ∀ b, blkO p b → b = w.heap.size) (hq : Quiet w (pushW w o)) :
    SR w0 B Io R (fun i => if i = id then some p else ρ i) (fun i => Fr i ∧ i ≠ id) { st with ob := fun i => if i = id then some x else st.ob i } a (pushW w o) := by
  refine (h.grow (pushW_grows w o) hq).new hf hx (fun b hb' => ?_) (fun id' o' p' b h1 h2 h3 h4 => ?_)
  · have := hb b hb'
    subst this
    refine ⟨by simp [pushW_size], fun hR => Nat.lt_irrefl _ (h.rlt _ hR), Or.inl h.size0⟩
  · have := hb b h3
    subst this
    exact Nat.lt_irrefl _ (h.own id' o' p' _ h1 h2 h4).1
theorem own_ne {ib i : Nat} {Fr : Nat → Prop} (h : Fr i ∧ ¬ Own ib i) : Fr i ∧ i ≠ ib := ⟨h.1, fun e => h.2 (by subst e; exact ⟨Nat.le_refl _, by omega⟩)⟩
theorem OpOk.made (h : SR w0 B Io R ρ Fr st a w) {o : Oper} {ib : Nat} (hf : Fr ib) {b : Go.Obj} {v : Value} {x : AVal} {y : Obj} {p : Pl}
    (hr : (execOp a.eval o).run P w = .ok (.value v) (pushW w b)) (hy : OA w0 (pushW w b) R (fun i => if i = ib then some p else ρ i) p y) (hb : ∀ b, blkO p b → b = w.heap.size)
    (hv : VA w0 (pushW w b) R (fun i => if i = ib then some p else ρ i) v x) (hq : Quiet w (pushW w b) := by exact pushW_quiet _ _ _) : OpOk P w0 B Io Fr ib st a w o ⟨x, [(ib, some y)]⟩ :=
  .value hr ⟨R, _, by
    have := ((h.newLast hf hy hb hq).put o.dst hv).weaken (Fr' := fun i => Fr i ∧ ¬ Own ib i) (fun i hi => own_ne hi)
    rw [app_one]
    have e : ({ st.put o.dst x with ob := fun i => if i = ib then some y else (st.put o.dst x).ob i } : St) = ({ st with ob := fun i => if i = ib then some y else st.ob i } : St).put o.dst x := by
      cases o.dst with
      | none => rfl
      | some d => simp only [St.put]; unfold St.setTm; by_cases hd : d < st.n <;> simp [hd]
    rw [e]; exact this⟩
theorem ofVal_CA {v : Value} (h : v.oneCell' = true) : CA w0 w R ρ v (ofVal v) := by
  unfold ofVal
  split <;> first | exact h | simp [CA, RA]
theorem box_OA {w : World} {vs : Array Value} {T : TypeId} {cs : List AVal} {R : Nat → Prop} {ρ' : Nat → Option Pl} (hl : vs.size = cs.length)
    (hc : ∀ (k : Nat) u y, vs[k]? = some u → cs[k]? = some y → CA w0 (pushW w (.cells vs T)) R ρ' u y) : OA w0 (pushW w (.cells vs T)) R ρ' (.box w.heap.size 0) (.box cs) := by
  refine ⟨w.heap.size, 0, vs, T, rfl, pushW_last w _, fun k x hx => ?_⟩
  have hk : k < vs.size := by
    rcases Nat.lt_or_ge k vs.size with h | h
    · exact h
    · rw [hl] at h; simp [List.getElem?_eq_none h] at hx
  exact ⟨vs[k], by simp [hk], hc k _ x (by simp [hk]) hx⟩
section
variable {Rt : Type} {env : Nat → Option Callee} {ib : Nat} {o : Oper} {k : Delta → Option Rt} {r : Rt}
theorem ok_move {x : Operand} (h : SR w0 B Io R ρ Fr st a w) (hs : Sub s st) (ho : o.op = .move x ∨ o.op = .assign x) (he : evalOp P env ib s o k = some r) :
    ∃ d, k d = some r ∧ OpOk P w0 B Io Fr ib st a w o d := by
  refine ⟨⟨ev s x, []⟩, ?_, .pure h (v := a.eval x) ?_ (h.evs hs x)⟩
  · rcases ho with ho | ho <;> (unfold evalOp at he; rw [ho] at he; exact he)
  · rcases ho with ho | ho <;> simp [execOp, ho]
theorem ok_pick {c x y : Operand} (h : SR w0 B Io R ρ Fr st a w) (hs : Sub s st) (ho : o.op = .pick c x y) (he : evalOp P env ib s o k = some r) :
    ∃ d, k d = some r ∧ OpOk P w0 B Io Fr ib st a w o d := by
  unfold evalOp at he
  rw [ho] at he
  simp only at he
  split at he
  · rename_i e
    have hc := h.evs hs c; rw [e] at hc
    have hc' : a.eval c = .bool true := hc
    exact ⟨_, he, .pure h (v := a.eval x) (by simp [execOp, ho, hc', asBool]) (h.evs hs x)⟩
  · rename_i e
    have hc := h.evs hs c; rw [e] at hc
    have hc' : a.eval c = .bool false := hc
    exact ⟨_, he, .pure h (v := a.eval y) (by simp [execOp, ho, hc', asBool]) (h.evs hs y)⟩
  · cases he
theorem ok_alloc {T : TypeId} (h : SR w0 B Io R ρ Fr st a w) (hs : Sub s st) (hf : Fr ib) (ho : o.op = .alloc T) (he : evalOp P env ib s o k = some r) :
    ∃ d, k d = some r ∧ OpOk P w0 B Io Fr ib st a w o d := by
  unfold evalOp at he
  rw [ho] at he
  simp only at he
  split at he
  · rename_i cs hz
    unfold zeroB at hz
    split at hz
    · rename_i i hi
      split at hz
      · rename_i v hv
        split at hz
        · rename_i hone
          cases hz
          refine ⟨_, he, .made h hf (v := .pointer (some ⟨w.heap.size, 0, none⟩)) (b := .cells v.cells T) (p := .box w.heap.size 0) ?_ (box_OA (by simp) fun k u y hu hy => ?_) (fun b hb => hb.symm) ?_⟩
          · simp [execOp, ho, Instr.alloc, zeroValue, typeInfo, hi, hv, newVar, newRow, pushW]
          · simp only [List.getElem?_map] at hy
            have hu' : v.cells.toList[k]? = some u := by simpa using hu
            rw [hu'] at hy
            cases hy
            exact ofVal_CA (List.all_eq_true.1 hone u (List.mem_of_getElem? hu'))
          · exact VA.ofC ⟨w.heap.size, 0, by simp, by simp⟩
        · cases hz
      · cases hz
    · cases hz
  · cases he
theorem ok_box {T : TypeId} {x : Operand} (h : SR w0 B Io R ρ Fr st a w) (hs : Sub s st) (hf : Fr ib) (ho : o.op = .box T x) (he : evalOp P env ib s o k = some r) :
    ∃ d, k d = some r ∧ OpOk P w0 B Io Fr ib st a w o d := by
  unfold evalOp at he
  rw [ho] at he
  simp only at he
  split at he
  · rename_i cs hz
    obtain ⟨h1, h2⟩ := cellsOfV_VA (h.evs hs x) hz
    refine ⟨_, he, .made h hf (v := .pointer (some ⟨w.heap.size, 0, none⟩)) (b := .cells (a.eval x).cells T) (p := .box w.heap.size 0) ?_ (box_OA h1 fun k u y hu hy => ?_) (fun b hb => hb.symm) ?_⟩
    · simp [execOp, ho, Instr.box, newVar, newRow, pushW]
    · exact (h2 k u y hu hy).mono (fun b hb => pushW_grows w _ b (h.rlt b hb)) (fun _ hb => hb) (h.ρmono hf _)
    · exact VA.ofC ⟨w.heap.size, 0, by simp, by simp⟩
  · cases he
end
variable {P : Program} {w0 : W0} {w : World} {B : Nat} {Io R : Nat → Prop} {ρ : Nat → Option Pl} {Fr : Nat → Prop} {st s : St} {a : Act}
theorem cellAt_of {w : World} {b : Nat} {arr : Array Value} {E : TypeId} {f : Nat × Nat} (h : w.heap[b]? = some (.cells arr E f)) (o : Nat) : cellAt w b o = arr[o]? := by
  simp [cellAt, World.cell?, h]
theorem lt_of_get {α : Type} {l : List α} {i : Nat} {x : α} (h : l[i]? = some x) : i < l.length := by
  rcases Nat.lt_or_ge i l.length with h' | h'
  · exact h'
  · simp [List.getElem?_eq_none h'] at h
theorem Sub.elemCells (hs : Sub s st) {id : Nat} {row : Option Nat} {i : Nat} {cs : List AVal} (h : elemCells s id row i = some cs) : elemCells st id row i = some cs := by
  unfold Go.OAI.elemCells at *
  cases e : s.ob id with
  | none => rw [e] at h; cases h
  | some o => rw [hs.obj e]; rw [e] at h; exact h
theorem Sub.full (hs : Sub s st) {id : Nat} {row : Option Nat} {x : SL} (h : full s id row = some x) : full st id row = some x := by
  unfold Go.OAI.full at *
  cases e : s.ob id with
  | none => rw [e] at h; cases h
  | some o => rw [hs.obj e]; rw [e] at h; exact h
theorem SlOwn.elem {T : Ty} {S : SPl} {l : List T.den} (h : SlOwn w R T S l) {b off : Nat} (hA : S.A = some ⟨b, off, none⟩) {i : Nat} (hi : i < l.length) (d : T.den) (k : Nat) (x : AVal)
    (hx : (T.flat (l.getD i d))[k]? = some x) : ∃ u, cellAt w b (off + i * S.st + k) = some u ∧ RA w R u x := by
  obtain ⟨h1, h2, h3⟩ := h
  obtain ⟨b', off', arr, E, e1, e2, e3, e4⟩ := h3 (by omega)
  rw [hA] at e1; cases e1
  have hl : l[i]? = some (l.getD i d) := by simp [List.getElem?_eq_getElem hi, List.getD]
  obtain ⟨us, g1, g2⟩ := e4 i _ hl
  obtain ⟨f1, f2⟩ := g1.flat
  have hk : k < us.length := by rw [← f1]; exact lt_of_get hx
  refine ⟨us[k], ?_, f2 k _ x (List.getElem?_eq_getElem hk) hx⟩
  rw [cellAt_of e2, h1, Nat.add_assoc]
  exact g2 k _ (List.getElem?_eq_getElem hk)
theorem SR.elem (h : SR w0 B Io R ρ Fr st a w) {id : Nat} {row : Option Nat} {i : Nat} {cs : List AVal} {S : SPl} {n b off : Nat} (he : elemCells st id row i = some cs)
    (hp : plS (ρ id) row = some (S, n)) (hA : S.A = some ⟨b, off, none⟩) (hi : i < n) (k : Nat) (x : AVal) (hx : cs[k]? = some x) :
    ∃ u, cellAt w b (off + i * S.st + k) = some u ∧ CA w0 w R ρ u x := by
  unfold elemCells at he
  split at he
  · rename_i T l ho
    obtain ⟨p, hp', hoa⟩ := h.ob id _ ho
    obtain ⟨S', rfl, hown⟩ := hoa
    split at he
    · cases he
      rw [hp'] at hp; simp only [plS] at hp; cases hp
      obtain ⟨u, h1, h2⟩ := hown.elem hA hi T.dflt k x hx
      exact ⟨u, h1, CA.ofR h2⟩
    · cases he
  · rename_i T l ho
    obtain ⟨p, hp', hoa⟩ := h.ob id _ ho
    obtain ⟨S', rows, rfl, h1, h2, h3, h4, h5, h6⟩ := hoa
    split at he
    · cases he
      have hp0 := hp
      rw [hp'] at hp; simp only [plS] at hp; cases hp
      obtain ⟨b', off', arr, E, e1, e2, e3, e4⟩ := h3 (by omega)
      rw [hA] at e1; cases e1
      match k with
      | 0 =>
        simp at hx; subst hx
        have hr := e4 i _ (List.getElem?_eq_getElem hi)
        refine ⟨_, by rw [cellAt_of e2, h1]; simpa using hr, (rows i).1, (rows i).2, by rw [hp']; simp [plS, hi], ?_⟩
        have := (h4 i _ (List.getElem?_eq_getElem hi)).1
        simp only [WV, this]
      | k + 1 => simp at hx
    · rename_i j
      cases he
      rw [hp'] at hp; simp only [plS] at hp
      split at hp
      · rename_i hj
        have hp' := Option.some.inj hp
        obtain ⟨rfl, rfl⟩ : S = (rows j).1 ∧ n = (rows j).2 := by rw [hp']; exact ⟨rfl, rfl⟩
        obtain ⟨g1, g2⟩ := h4 j _ (List.getElem?_eq_getElem hj)
        have e : l.getD j [] = l[j] := by simp [List.getD, List.getElem?_eq_getElem hj]
        rw [e] at hx
        rw [g1] at hi
        obtain ⟨u, q1, q2⟩ := g2.elem hA hi T.dflt k x hx
        exact ⟨u, q1, CA.ofR q2⟩
      · cases hp
  · cases he
section
variable {Rt : Type} {env : Nat → Option Callee} {ib : Nat} {o : Oper} {k : Delta → Option Rt} {r : Rt}
theorem run_loadAt' {T : TypeId} {A : Addr} {u : Value} (h : (loadVar T A).run P w = .ok u w) : (Instr.loadAt T (.pointer (some A))).run P w = .ok u w := by
  simp [Instr.loadAt, Instr.sureAddr, h]
theorem VA_cell {v : Value} {x : AVal} (h1 : ∀ cs, x ≠ .agg cs) (h2 : ∀ vs, x ≠ .tup vs) (h3 : x ≠ .undef) (hx : VA w0 w R ρ v x) : CA w0 w R ρ v x := by
  cases x <;> first | exact hx | exact absurd rfl (h1 _) | exact absurd rfl (h2 _) | exact absurd rfl h3
theorem pvAt_spec (h : SR w0 B Io R ρ Fr st a w) (hs : Sub s st) {t : Nat} {x : AVal} (e : pvAt s t = some x) {u : Value} (hu : w0.par t = some u) : VA w0 w R ρ u x := by
  unfold pvAt at e
  split at e
  · cases e
  · rename_i hd
    cases e
    have hd := of_decide_eq_false hd
    rcases hs.tm t with e | e
    · rw [e]; exact trivial
    · rw [e]
      have := h.tm t
      rwa [tmv_ge (by rw [h.size, ← hs.n]; exact hd), hu] at this
theorem pvCell_spec (h : SR w0 B Io R ρ Fr st a w) (hs : Sub s st) {t : Nat} {x : AVal} (e : pvCell s t = some x) {u : Value} (hu : w0.par t = some u) : CA w0 w R ρ u x := by
  unfold pvCell at e
  split at e
  · cases e
  · rename_i v hv
    have := pvAt_spec h hs hv hu
    split at e
    · cases e
    · cases e
    · cases e
    · rename_i q1 q2 q3
      cases e
      exact VA_cell q1 q2 q3 this
theorem pvCells_spec : ∀ {ts : List Nat} {vs : List AVal}, pvCells s ts = some vs → vs.length = ts.length ∧ ∀ (i t : Nat) x, ts[i]? = some t → vs[i]? = some x → pvCell s t = some x
  | [], vs, e => by cases e; exact ⟨rfl, fun i t x h1 h2 => by simp at h1⟩
  | t :: r, vs, e => by
    simp only [pvCells] at e
    split at e
    · rename_i v hv
      split at e
      · rename_i vs' hvs
        cases e
        obtain ⟨g1, g2⟩ := pvCells_spec hvs
        refine ⟨by simp [g1], fun i t' x h1 h2 => ?_⟩
        match i with
        | 0 => simp at h1 h2; subst h1; subst h2; exact hv
        | i + 1 => exact g2 i t' x (by simpa using h1) (by simpa using h2)
      · cases e
    · cases e
theorem SR.still (h : SR w0 B Io R ρ Fr st a w) {b o : Nat} (hb : w0.F b) : cellAt w b o = cellAt w0.w b o := by
  unfold cellAt World.cell?
  rw [h.frame b (h.f0.st b hb).1 (h.f0.st b hb).2]
theorem ok_load {T : TypeId} {p : Operand} (h : SR w0 B Io R ρ Fr st a w) (hs : Sub s st) (ho : o.op = .load T p) (he : evalOp P env ib s o k = some r) :
    ∃ d, k d = some r ∧ OpOk P w0 B Io Fr ib st a w o d := by
  unfold evalOp at he
  rw [ho] at he
  simp only at he
  split at he
  · rename_i g n hg hn
    have hp := h.evs hs p
    have fin : ∀ {cs : List AVal} {c b off : Nat} {v : AVal}, a.eval p = .pointer (some ⟨b, off + c, none⟩) → takeV g n c cs = some v →
        (∀ k x, cs[k]? = some x → ∃ u, cellAt w b (off + k) = some u ∧ CA w0 w R ρ u x) → OpOk P w0 B Io Fr ib st a w o ⟨v, []⟩ := by
      intro cs c b off v hv ht hc
      obtain ⟨u, hr, hu⟩ := run_loadVar' hg hn ht hc
      exact .pure h (v := u) (by simp [execOp, ho, hv, run_loadAt' hr]) hu
    split at he
    · rename_i cs c e
      rw [e] at hp
      split at he
      · rename_i v ht
        obtain ⟨b, off, h1, h2, h3⟩ := hp
        exact ⟨_, he, fin h1 ht fun k x hx => by obtain ⟨u, q1, q2⟩ := h3 k x hx; exact ⟨u, q1, CA.ofR q2⟩⟩
      · cases he
    · rename_i id c e
      rw [e] at hp
      split at he
      · rename_i cs hob
        split at he
        · rename_i v ht
          obtain ⟨b, off, h1, h2⟩ := hp
          obtain ⟨q, hq, hoa⟩ := h.ob id _ (hs.obj hob)
          obtain ⟨b', off', arr, E, rfl, e2, e3⟩ := hoa
          rw [h1] at hq; cases hq
          exact ⟨_, he, fin h2 ht fun k x hx => by rw [cellAt_of e2]; exact e3 k x hx⟩
        · cases he
      · cases he
    · rename_i id row i c e
      rw [e] at hp
      split at he
      · rename_i T' l h0 o0 hob
        split at he
        · rename_i hg' _ _
          by_cases hi : i = h0
          · simp only [hi, decide_true, cond_true] at he
            obtain ⟨S, n', b, off, h1, h2, h3, h4⟩ := hp
            obtain ⟨q, hq, S1, rows, rfl, m1, m2, m3, m4, m5, m6, m7⟩ := h.ob id _ (hs.obj hob)
            rw [hq] at h1
            simp only [plS] at h1
            cases h1
            subst hi
            have hc : S.cap ≠ 0 := by omega
            obtain ⟨b', off', arr, E, e1, e2, e3, e4⟩ := m3 hc
            rw [h2] at e1
            cases e1
            have hli := List.getElem?_eq_getElem h3
            have h7 := m7 _ hli
            have h8 := e4 i _ hli
            refine ⟨_, he, fin (b := b) (off := off + i) (c := 0) (cs := [.sref o0 none none]) (by rw [h4, m1]; simp) (by first | rfl | simp [takeV]) fun k x hx => ?_⟩
            match k with
            | 0 =>
              simp at hx; subst hx
              exact ⟨_, by rw [cellAt_of e2]; exact h8, (rows i).1, l[i].length, by rw [h7]; rfl, rfl⟩
            | k + 1 => simp at hx
          · simp [hi] at he
        · cases he
      · rename_i hnm
        split at he
        · rename_i cs hec
          split at he
          · rename_i v ht
            obtain ⟨S, n', b, off, h1, h2, h3, h4⟩ := hp
            exact ⟨_, he, fin (off := off + i * S.st) (by rw [h4]; simp [Nat.add_assoc]) ht fun k x hx => h.elem (hs.elemCells hec) h1 h2 h3 k x hx⟩
          · cases he
        · cases he
    · rename_i ts c e
      rw [e] at hp
      obtain ⟨b, off, h1, h2, h3⟩ := hp
      split at he
      · split at he
        · rename_i t ht
          split at he
          · rename_i v hv
            refine ⟨_, he, fin (b := b) (off := off + c) (c := 0) (cs := [v]) h1 (by first | rfl | simp [takeV]) fun k x hx => ?_⟩
            match k with
            | 0 =>
              simp at hx; subst hx
              obtain ⟨u, e1, e2, e3⟩ := h3 c t ht
              exact ⟨u, by rw [h.still h2]; exact e1, pvCell_spec h hs hv e2⟩
            | k + 1 => simp at hx
          · cases he
        · cases he
      · split at he
        · rename_i hcn
          have hcn := of_decide_eq_true hcn
          split at he
          · rename_i vs hvs
            obtain ⟨g1, g2⟩ := pvCells_spec hvs
            have hl : vs.length = n := by rw [g1]; simp; omega
            refine ⟨_, he, fin (b := b) (off := off + c) (c := 0) (cs := vs) h1 (by simp only [takeV, cond_true, Nat.zero_add, hl, Nat.le_refl, decide_true, List.drop_zero]; rw [List.take_of_length_le (by omega)]) fun k x hx => ?_⟩
            have hk : k < n := by rw [← hl]; exact lt_of_get hx
            have hck : c + k < ts.length := by omega
            obtain ⟨u, e1, e2, e3⟩ := h3 (c + k) _ (List.getElem?_eq_getElem hck)
            refine ⟨u, by rw [h.still h2, Nat.add_assoc]; exact e1, pvCell_spec h hs (g2 k _ x ?_ hx) e2⟩
            rw [List.getElem?_take_of_lt hk, List.getElem?_drop]
            exact List.getElem?_eq_getElem hck
          · cases he
        · cases he
    · cases he
  · cases he
theorem run_fieldAt {T : TypeId} {f off : Nat} {t : TypeId} {n b o : Nat} (hf : fieldB P T f = some (off, t)) (hn : sizeB P t = some (n + 1)) :
    (Instr.fieldAt T (.pointer (some ⟨b, o, none⟩)) f).run P w = .ok (.pointer (some ⟨b, o + off, none⟩)) w := by
  unfold fieldB at hf
  split at hf
  · rename_i fs hu
    split at hf
    · rename_i fd hfd
      cases hf
      simp [Instr.fieldAt, run_underlying' hu, hfd, Instr.sureAddr, fieldPlace, run_sizeB hn, add_none]
    · cases hf
  · cases hf
theorem ok_fieldAddr {T : TypeId} {p : Operand} {f : Nat} (h : SR w0 B Io R ρ Fr st a w) (hs : Sub s st) (ho : o.op = .fieldAddr T p f) (he : evalOp P env ib s o k = some r) :
    ∃ d, k d = some r ∧ OpOk P w0 B Io Fr ib st a w o d := by
  unfold evalOp at he
  rw [ho] at he
  simp only at he
  split at he
  · cases he
  · rename_i off t hf
    split at he
    · rename_i n hn
      have hp := h.evs hs p
      split at he
      · rename_i cs c e
        rw [e] at hp
        obtain ⟨b, o', h1, h2, h3⟩ := hp
        exact ⟨_, he, .pure h (v := .pointer (some ⟨b, o' + c + off, none⟩)) (by simp [execOp, ho, h1, run_fieldAt hf hn]) (VA.ofC ⟨b, o', by simp [Nat.add_assoc], h2, h3⟩)⟩
      · rename_i id c e
        rw [e] at hp
        obtain ⟨b, o', h1, h2⟩ := hp
        exact ⟨_, he, .pure h (v := .pointer (some ⟨b, o' + c + off, none⟩)) (by simp [execOp, ho, h2, run_fieldAt hf hn]) (VA.ofC ⟨b, o', h1, by simp [Nat.add_assoc]⟩)⟩
      · rename_i id row i c e
        rw [e] at hp
        obtain ⟨S, n', b, o', h1, h2, h3, h4⟩ := hp
        exact ⟨_, he, .pure h (v := .pointer (some ⟨b, o' + (i * S.st + c) + off, none⟩)) (by simp [execOp, ho, h4, run_fieldAt hf hn]) (VA.ofC ⟨S, n', b, o', h1, h2, h3, by simp [Nat.add_assoc]⟩)⟩
      · rename_i ts c e
        rw [e] at hp
        obtain ⟨b, o', h1, h2, h3⟩ := hp
        exact ⟨_, he, .pure h (v := .pointer (some ⟨b, o' + c + off, none⟩)) (by simp [execOp, ho, h1, run_fieldAt hf hn]) (VA.ofC ⟨b, o', by simp [Nat.add_assoc], h2, h3⟩)⟩
      · cases he
    · cases he
theorem ok_field {T : TypeId} {x : Operand} {f : Nat} (h : SR w0 B Io R ρ Fr st a w) (hs : Sub s st) (ho : o.op = .field T x f) (he : evalOp P env ib s o k = some r) :
    ∃ d, k d = some r ∧ OpOk P w0 B Io Fr ib st a w o d := by
  unfold evalOp at he
  rw [ho] at he
  simp only at he
  split at he
  · cases he
  · rename_i off t hf
    split at he
    · rename_i g n hg hn
      split at he
      · rename_i cs e
        split at he
        · rename_i v ht
          have hp := h.evs hs x
          rw [e] at hp
          obtain ⟨us, h1, h2, h3⟩ := hp
          unfold fieldB at hf
          split at hf
          · rename_i fs hu
            split at hf
            · rename_i fd hfd
              cases hf
              unfold takeV at ht
              cases g with
              | false =>
                simp only [cond_false] at ht
                have hlt : fd.offset < us.size := by rw [h2]; exact lt_of_get ht
                refine ⟨_, he, .pure h (v := us[fd.offset]) ?_ (VA.ofC (h3 fd.offset _ v (by simp [hlt]) ht))⟩
                simp [execOp, ho, h1, Instr.field, run_underlying' hu, hfd, asAgg, part, run_isAggB hg, hlt]
              | true =>
                simp only [cond_true] at ht
                by_cases hl : fd.offset + n ≤ cs.length
                · simp only [hl, decide_true, cond_true] at ht
                  cases ht
                  refine ⟨_, he, .pure h (v := .agg (us.extract fd.offset (fd.offset + n))) ?_ ?_⟩
                  · simp [execOp, ho, h1, Instr.field, run_underlying' hu, hfd, asAgg, part, run_isAggB hg, run_sizeB hn]
                  · refine ⟨_, rfl, by simp; omega, fun i u y hu' hy => ?_⟩
                    have hi : i < n := by have := lt_of_get hy; simp at this; omega
                    rw [List.getElem?_take_of_lt hi, List.getElem?_drop] at hy
                    refine h3 (fd.offset + i) u y ?_ hy
                    rw [Array.getElem?_extract] at hu'
                    split at hu'
                    · exact hu'
                    · cases hu'
                · simp [hl] at ht
            · cases hf
          · cases hf
        · cases he
      · cases he
    · cases he
theorem lat_some {α : Type} {l : List α} {i : Int} {x : α} (h : lat l i = some x) : 0 ≤ i ∧ l[i.toNat]? = some x := by
  unfold lat at h
  by_cases hi : 0 ≤ i
  · simp [hi] at h; exact ⟨hi, h⟩
  · simp [hi] at h
theorem run_indexAt_slice {T : TypeId} {A : Option Addr} {len cap n : Nat} {kk : IntKind} {i : Int} {b off : Nat} (hz : elemSz P T = some n) (hA : A = some ⟨b, off, none⟩) (h0 : 0 ≤ i) (h1 : i < len) :
    (Instr.indexAt T (.slice A len cap) (.int kk i)).run P w = .ok (.pointer (some ⟨b, off + i.toNat * n, none⟩)) w := by
  unfold elemSz at hz
  split at hz
  · rename_i e hu
    subst hA
    simp [Instr.indexAt, asIntOf, run_underlying' hu, h0, h1, run_sizeB hz, add_none]
  · cases hz
theorem run_indexAt_arr {T : TypeId} {len sz : Nat} {kk : IntKind} {i : Int} {b off : Nat} (hz : arrB P T = some (len, sz)) (h0 : 0 ≤ i) (h1 : i < (len : Int)) :
    (Instr.indexAt T (.pointer (some ⟨b, off, none⟩)) (.int kk i)).run P w = .ok (.pointer (some ⟨b, off + i.toNat * sz, none⟩)) w := by
  unfold arrB at hz
  split at hz
  · rename_i n e hu
    split at hz
    · rename_i s hs
      cases hz
      simp [Instr.indexAt, asIntOf, run_underlying' hu, h0, h1, run_sizeB hs, Instr.sureAddr, add_none]
    · cases hz
  · cases hz
theorem full_place (h : SR w0 B Io R ρ Fr st a w) {id : Nat} {row : Option Nat} {U : Ty} {c : List U.den} (hf : full st id row = some ⟨U, c⟩) {S : SPl} {n : Nat} (hp : plS (ρ id) row = some (S, n)) :
    n = c.length ∧ S.st = U.cells ∧ n ≤ S.cap ∧ (S.cap ≠ 0 → ∃ b off, S.A = some ⟨b, off, none⟩) := by
  unfold full at hf
  split at hf
  · rename_i T l ho
    obtain ⟨p, hp', hoa⟩ := h.ob id _ ho
    obtain ⟨S', rfl, h1, h2, h3⟩ := hoa
    split at hf
    · cases hf
      rw [hp'] at hp; simp only [plS] at hp; cases hp
      exact ⟨rfl, h1, h2, fun hc => by obtain ⟨b, off, _, _, e, _⟩ := h3 hc; exact ⟨b, off, e⟩⟩
    · cases hf
  · rename_i T l ho
    obtain ⟨p, hp', hoa⟩ := h.ob id _ ho
    obtain ⟨S', rows, rfl, h1, h2, h3, h4, h5, h6⟩ := hoa
    split at hf
    · cases hf
      rw [hp'] at hp; simp only [plS] at hp; cases hp
      exact ⟨rfl, h1, h2, fun hc => by obtain ⟨b, off, _, _, e, _⟩ := h3 hc; exact ⟨b, off, e⟩⟩
    · rename_i j
      cases hf
      rw [hp'] at hp; simp only [plS] at hp
      split at hp
      · rename_i hj
        have hp' := Option.some.inj hp
        obtain ⟨rfl, rfl⟩ : S = (rows j).1 ∧ n = (rows j).2 := by rw [hp']; exact ⟨rfl, rfl⟩
        obtain ⟨g1, g2, g3, g4⟩ := h4 j _ (List.getElem?_eq_getElem hj)
        have e : l.getD j [] = l[j] := by simp [List.getD, List.getElem?_eq_getElem hj]
        rw [e]
        exact ⟨g1, g2, by rw [g1]; exact g3, fun hc => by obtain ⟨b, off, _, _, e, _⟩ := g4 hc; exact ⟨b, off, e⟩⟩
      · cases hp
  · cases hf
theorem WV.open {S : SPl} {n : Nat} {v : Value} {win : Option (Nat × Nat)} {α : Type} {c : List α} (h : WV S n v win) (hn : n = c.length) :
    ∃ A', v = .slice A' (winL win c).length (S.cap - winOff win) ∧ winOff win + (winL win c).length ≤ n ∧ (winOff win < S.cap → A' = S.A.map (·.add (winOff win * S.st))) := by
  cases win with
  | none =>
    simp only [WV] at h
    refine ⟨S.A, by simp [winL, winOff, h, hn], by simp [winL, winOff, hn], fun _ => ?_⟩
    cases S.A <;> simp [winOff, Addr.add]
  | some p =>
    obtain ⟨o', m⟩ := p
    obtain ⟨h1, A', h2, h3⟩ := h
    have e : (winL (some (o', m)) c).length = m := by simp [winL]; omega
    refine ⟨A', by rw [e]; exact h2, by rw [e]; exact h1, h3⟩
theorem ok_indexAddr {T : TypeId} {x ix : Operand} (h : SR w0 B Io R ρ Fr st a w) (hs : Sub s st) (ho : o.op = .indexAddr T x ix) (he : evalOp P env ib s o k = some r) :
    ∃ d, k d = some r ∧ OpOk P w0 B Io Fr ib st a w o d := by
  unfold evalOp at he
  rw [ho] at he
  simp only at he
  split at he
  · split at he
    · rename_i len sz har
      split at he
      · rename_i kk i id c ei e
        have hi := h.evs hs ix; rw [ei] at hi
        have hi' : a.eval ix = .int kk i := hi
        have hx := h.evs hs x; rw [e] at hx
        obtain ⟨b, o', h1, h2⟩ := hx
        have h2 : a.eval x = .pointer (some ⟨b, o' + c, none⟩) := h2
        by_cases hb : 0 ≤ i ∧ i < (len : Int)
        · obtain ⟨i0, i1⟩ := hb
          simp only [i0, i1, decide_true, Bool.and_self, cond_true] at he
          refine ⟨_, he, .pure h (v := .pointer (some ⟨b, o' + c + i.toNat * sz, none⟩)) ?_ (VA.ofC ⟨b, o', h1, by simp [Nat.add_assoc]⟩)⟩
          simp [execOp, ho, h2, hi', run_indexAt_arr har i0 i1]
        · have : (decide (0 ≤ i) && decide (i < (len : Int))) = false := by
            simp only [Bool.and_eq_false_iff, decide_eq_false_iff_not]
            by_cases h0 : 0 ≤ i
            · exact Or.inr fun h1 => hb ⟨h0, h1⟩
            · exact Or.inl h0
          rw [this] at he; cases he
      · cases he
    · cases he
  · rename_i n hz
    split at he
    · rename_i kk i ei
      have hi := h.evs hs ix; rw [ei] at hi
      have hi' : a.eval ix = .int kk i := hi
      have hx := h.evs hs x
      split at he
      · rename_i U l e
        rw [e] at hx
        split at he
        · rename_i hn
          have hn : n = U.cells := of_decide_eq_true hn
          cases hl : lat l i with
          | none => rw [hl] at he; cases he
          | some y =>
            rw [hl] at he
            obtain ⟨i0, hy⟩ := lat_some hl
            obtain ⟨A, cap, h1, h2, h3, h4⟩ := hx
            obtain ⟨b, off, us, g1, g2, g3, g4, g5⟩ := h4 _ _ hy
            have h1' : a.eval x = .slice A l.length cap := List.cons.inj h1 |>.1
            have hlt := lt_of_get hy
            have i1 : i < (l.length : Int) := by omega
            refine ⟨_, he, .pure h (v := .pointer (some ⟨b, off + i.toNat * n, none⟩)) ?_ (VA.ofC ⟨b, off + i.toNat * n, by simp, g2, fun c z hc => ?_⟩)⟩
            · simp [execOp, ho, h1', hi', run_indexAt_slice hz g1 i0 i1]
            · obtain ⟨f1, f2⟩ := g4.flat
              have hc' : c < us.length := by rw [← f1]; exact lt_of_get hc
              refine ⟨us[c], ?_, f2 c _ z (List.getElem?_eq_getElem hc') hc⟩
              rw [hn, Nat.add_assoc]
              exact g5 c _ (List.getElem?_eq_getElem hc')
        · cases he
      · rename_i id row win e
        rw [e] at hx
        split at he
        · rename_i T' l h0 o0 hob
          split at he
          · obtain ⟨S, m, hp, hw⟩ := hx
            obtain ⟨q, hq, S1, rows, rfl, m1, m2, m3, m4⟩ := h.ob id _ (hs.obj hob)
            rw [hq] at hp
            simp only [plS] at hp
            cases hp
            have hw : a.eval x = .slice S.A l.length S.cap := hw
            by_cases hb : 0 ≤ i ∧ i < (l.length : Int)
            · obtain ⟨i0, i1⟩ := hb
              simp only [i0, i1, decide_true, Bool.and_self, cond_true] at he
              obtain ⟨b, off, arr, E, e1, _⟩ := m3 (by omega)
              refine ⟨_, he, .pure h (v := .pointer (some ⟨b, off + i.toNat * 1, none⟩)) ?_ (VA.ofC ⟨S, l.length, b, off, by rw [hq]; rfl, e1, by omega, by rw [m1]; simp⟩)⟩
              simp [execOp, ho, hw, hi', run_indexAt_slice hz e1 i0 i1]
            · have : (decide (0 ≤ i) && decide (i < (l.length : Int))) = false := by
                simp only [Bool.and_eq_false_iff, decide_eq_false_iff_not]
                by_cases h0 : 0 ≤ i
                · exact Or.inr fun h1 => hb ⟨h0, h1⟩
                · exact Or.inl h0
              rw [this] at he; cases he
          · cases he
        split at he
        · rename_i U c hf
          split at he
          · rename_i hn
            have hn : n = U.cells := of_decide_eq_true hn
            obtain ⟨S, m, hp, hw⟩ := hx
            obtain ⟨p1, p2, p3, p4⟩ := full_place h (hs.full hf) hp
            obtain ⟨A', q1, q2, q3⟩ := hw.open (c := c) p1
            by_cases hb : 0 ≤ i ∧ i < (winL win c).length
            · obtain ⟨i0, i1⟩ := hb
              simp only [i0, i1, decide_true, Bool.and_self, cond_true] at he
              obtain ⟨b, off, e1⟩ := p4 (by omega)
              have hA' : A' = some ⟨b, off + winOff win * S.st, none⟩ := by rw [q3 (by omega), e1]; simp [add_none]
              refine ⟨_, he, .pure h (v := .pointer (some ⟨b, off + winOff win * S.st + i.toNat * n, none⟩)) ?_ (VA.ofC ⟨S, m, b, off, hp, e1, by omega, ?_⟩)⟩
              · simp [execOp, ho, q1, hi', run_indexAt_slice hz hA' i0 i1]
              · rw [hn, ← p2, Nat.add_mul]; simp [Nat.add_assoc]
            · have : (decide (0 ≤ i) && decide (i < (winL win c).length)) = false := by
                simp only [Bool.and_eq_false_iff, decide_eq_false_iff_not]
                by_cases h0 : 0 ≤ i
                · exact Or.inr fun h1 => hb ⟨h0, h1⟩
                · exact Or.inl h0
              rw [this] at he; cases he
          · cases he
        · cases he
      · cases he
    · cases he
theorem run_eqGuard_ints {op : BinOp} {t : TypeId} {x y : Operand} {u v : Value} (h : (∀ cs, u ≠ .agg cs) ∧ u ≠ .nilIface) : (eqGuard op t x y u v).run P w = .ok () w := by
  unfold eqGuard
  cases op <;> simp
  all_goals (cases u <;> first | rfl | exact absurd rfl h.2 | exact absurd rfl (h.1 _) | (cases v <;> rfl))
theorem run_equal_bool {t : TypeId} (hu : P.underlying t = some .bool) (p q : Bool) : (Op.equal t (.bool p) (.bool q)).run P w = .ok (p == q) w := by
  obtain ⟨d, hd⟩ : ∃ d, Op.maxDepth = d + 1 := ⟨Op.maxDepth - 1, by decide⟩
  unfold Op.equal
  rw [hd]
  unfold Op.equalIn
  simp only [Sem.run_bind, run_underlying' hu, Result.andThen_ok]
  rfl
theorem run_eql_bool {t : TypeId} (hu : P.underlying t = some .bool) (p q : Bool) : (binOp .eql t (.bool p) (.bool q)).run P w = .ok (.bool (p == q)) w := by
  show ((do pure (Value.bool (← Op.equal t (.bool p) (.bool q)))) : Sem Value).run P w = _
  rw [Sem.run_bind, run_equal_bool hu]
  rfl
theorem run_neq_bool {t : TypeId} (hu : P.underlying t = some .bool) (p q : Bool) : (binOp .neq t (.bool p) (.bool q)).run P w = .ok (.bool (!(p == q))) w := by
  show ((do pure (Value.bool (!(← Op.equal t (.bool p) (.bool q))))) : Sem Value).run P w = _
  rw [Sem.run_bind, run_equal_bool hu]
  rfl
theorem run_equal_nil {t e : TypeId} (hu : P.underlying t = some (.slice e)) {A : Option Addr} {n c : Nat} : (Op.equal t (.slice A n c) (.slice none 0 0)).run P w = .ok A.isNone w := by
  obtain ⟨d, hd⟩ : ∃ d, Op.maxDepth = d + 1 := ⟨Op.maxDepth - 1, by decide⟩
  unfold Op.equal
  rw [hd]
  unfold Op.equalIn
  simp only [Sem.run_bind, run_underlying' hu, Result.andThen_ok]
  cases A <;> rfl
theorem run_eql_nil {t e : TypeId} (hu : P.underlying t = some (.slice e)) {A : Option Addr} {n c : Nat} : (binOp .eql t (.slice A n c) (.slice none 0 0)).run P w = .ok (.bool A.isNone) w := by
  show ((do pure (Value.bool (← Op.equal t (.slice A n c) (.slice none 0 0)))) : Sem Value).run P w = _
  rw [Sem.run_bind, run_equal_nil hu]
  rfl
theorem run_neq_nil {t e : TypeId} (hu : P.underlying t = some (.slice e)) {A : Option Addr} {n c : Nat} : (binOp .neq t (.slice A n c) (.slice none 0 0)).run P w = .ok (.bool (!A.isNone)) w := by
  show ((do pure (Value.bool (!(← Op.equal t (.slice A n c) (.slice none 0 0)))) : Sem Value)).run P w = _
  rw [Sem.run_bind, run_equal_nil hu]
  rfl
theorem binA_sound {op : BinOp} {t : TypeId} {x y : AVal} {kk : AVal → Option Rt} (he : binA op (isBoolT P t) x y kk = some r) {u v : Value} (hx : VA w0 w R ρ u x) (hy : VA w0 w R ρ v y) :
    ∃ z q, kk z = some r ∧ (binOp op t u v).run P w = .ok q w ∧ VA w0 w R ρ q z ∧ ((∀ cs, u ≠ .agg cs) ∧ u ≠ .nilIface) := by
  unfold binA at he
  split at he
  · rename_i A m B' n
    have hx' : u = .int A m := hx
    have hy' : v = .int B' n := hy
    subst hx' hy'
    split at he
    · split at he
      · by_cases hn : 0 ≤ n
        · simp only [hn, decide_true, cond_true] at he
          have hn' : ¬ n < 0 := by omega
          exact ⟨_, .int A (shlI A m n), he, by simp [binOp, Op.shift, hn', shlI], VA.ofC rfl, by simp, by simp⟩
        · simp [hn] at he
      · by_cases hn : 0 ≤ n
        · simp only [hn, decide_true, cond_true] at he
          have hn' : ¬ n < 0 := by omega
          exact ⟨_, .int A (shrI A m n), he, by simp [binOp, Op.shift, hn', shrI], VA.ofC rfl, by simp, by simp⟩
        · simp [hn] at he
      · cases he
    · rename_i hAB
      have hAB : A = B' := of_decide_eq_true hAB
      subst hAB
      cases op <;> simp only at he
      case shl =>
        by_cases hn : 0 ≤ n
        · simp only [hn, decide_true, cond_true] at he
          have hn' : ¬ n < 0 := by omega
          exact ⟨_, .int A (shlI A m n), he, by simp [binOp, Op.shift, hn', shlI], VA.ofC rfl, by simp, by simp⟩
        · simp [hn] at he
      case shr =>
        by_cases hn : 0 ≤ n
        · simp only [hn, decide_true, cond_true] at he
          have hn' : ¬ n < 0 := by omega
          exact ⟨_, .int A (shrI A m n), he, by simp [binOp, Op.shift, hn', shrI], VA.ofC rfl, by simp, by simp⟩
        · simp [hn] at he
      case and => exact ⟨_, .int A (andI A m n), he, by simp [binOp, Op.intBits, andI], VA.ofC rfl, by simp, by simp⟩
      case xor => exact ⟨_, .int A (xorI A m n), he, by simp [binOp, Op.intBits, xorI], VA.ofC rfl, by simp, by simp⟩
      case add => exact ⟨_, .int A (A.wrap (m + n)), he, by simp [binOp, Op.intArith], VA.ofC rfl, by simp, by simp⟩
      case sub => exact ⟨_, .int A (A.wrap (m - n)), he, by simp [binOp, Op.intArith], VA.ofC rfl, by simp, by simp⟩
      case mul => exact ⟨_, .int A (A.wrap (m * n)), he, by simp [binOp, Op.intArith], VA.ofC rfl, by simp, by simp⟩
      case quo =>
        by_cases hz : n = 0
        · simp [hz] at he
        · simp only [hz, decide_false, cond_false] at he
          exact ⟨_, .int A (A.wrap (m.tdiv n)), he, by simp [binOp, Op.intDiv, hz], VA.ofC rfl, by simp, by simp⟩
      case rem =>
        by_cases hz : n = 0
        · simp [hz] at he
        · simp only [hz, decide_false, cond_false] at he
          exact ⟨_, .int A (m.tmod n), he, by simp [binOp, Op.intDiv, hz], VA.ofC rfl, by simp, by simp⟩
      case eql => exact ⟨_, .bool (m == n), he, by simp [binOp, Op.intCmp], VA.ofC rfl, by simp, by simp⟩
      case neq => exact ⟨_, .bool (m != n), he, by simp [binOp, Op.intCmp], VA.ofC rfl, by simp, by simp⟩
      case lss => exact ⟨_, .bool (decide (m < n)), he, by simp [binOp, Op.intCmp], VA.ofC rfl, by simp, by simp⟩
      case leq => exact ⟨_, .bool (decide (m ≤ n)), he, by simp [binOp, Op.intCmp], VA.ofC rfl, by simp, by simp⟩
      case gtr => exact ⟨_, .bool (decide (m > n)), he, by simp [binOp, Op.intCmp], VA.ofC rfl, by simp, by simp⟩
      case geq => exact ⟨_, .bool (decide (m ≥ n)), he, by simp [binOp, Op.intCmp], VA.ofC rfl, by simp, by simp⟩
      all_goals cases he
  · rename_i p q
    have hx' : u = .bool p := hx
    have hy' : v = .bool q := hy
    subst hx' hy'
    split at he
    · rename_i _ _ _ htb
      have hu : P.underlying t = some .bool := by unfold isBoolT at htb; split at htb <;> first | assumption | cases htb
      exact ⟨_, .bool (p == q), he, run_eql_bool hu p q, VA.ofC rfl, by simp, by simp⟩
    · rename_i _ _ _ htb
      have hu : P.underlying t = some .bool := by unfold isBoolT at htb; split at htb <;> first | assumption | cases htb
      exact ⟨_, .bool (!(p == q)), he, run_neq_bool hu p q, VA.ofC rfl, by simp, by simp⟩
    · cases he
  · rename_i p q
    have hx' : u = .string p := hx
    have hy' : v = .string q := hy
    subst hx' hy'
    split at he
    · by_cases hl : p.size + q.size ≤ 9223372036854775807
      · simp only [hl, decide_true, cond_true] at he
        exact ⟨_, .string (p ++ q), he, by rw [binOp_string_add]; exact run_string_add_sum w p q hl, VA.ofC rfl, by simp, by simp⟩
      · simp [hl] at he
    · exact ⟨_, .bool (eqS p q), he, by simp [binOp, Op.stringOp, eqS], VA.ofC rfl, by simp, by simp⟩
    · exact ⟨_, .bool (!eqS p q), he, by simp [binOp, Op.stringOp, eqS], VA.ofC rfl, by simp, by simp⟩
    · cases he
  · rename_i T l
    obtain ⟨A, cap, e1, h1, h2, h3⟩ := id (show RT w R (.slice T) [u] l from hx)
    cases e1
    have hy' : v = .slice none 0 0 := hy
    subst hy'
    split at he
    · rename_i _ _ _ htb
      obtain ⟨e, hu⟩ : ∃ e, P.underlying t = some (.slice e) := by unfold isBoolT at htb; split at htb <;> first | exact ⟨_, by assumption⟩ | cases htb
      by_cases hl : 0 < l.length
      · simp only [hl, decide_true, cond_true] at he
        cases A with
        | none => exact absurd (h2 rfl) (by omega)
        | some A => exact ⟨_, .bool false, he, run_eql_nil hu, VA.ofC rfl, by simp, by simp⟩
      · simp [hl] at he
    · rename_i _ _ _ htb
      obtain ⟨e, hu⟩ : ∃ e, P.underlying t = some (.slice e) := by unfold isBoolT at htb; split at htb <;> first | exact ⟨_, by assumption⟩ | cases htb
      by_cases hl : 0 < l.length
      · simp only [hl, decide_true, cond_true] at he
        cases A with
        | none => exact absurd (h2 rfl) (by omega)
        | some A => exact ⟨_, .bool true, he, run_neq_nil hu, VA.ofC rfl, by simp, by simp⟩
      · simp [hl] at he
    · cases he
  · have hx' : u = .slice none 0 0 := hx
    have hy' : v = .slice none 0 0 := hy
    subst hx' hy'
    split at he
    · rename_i _ _ _ htb
      obtain ⟨e, hu⟩ : ∃ e, P.underlying t = some (.slice e) := by unfold isBoolT at htb; split at htb <;> first | exact ⟨_, by assumption⟩ | cases htb
      exact ⟨_, .bool true, he, run_eql_nil hu, VA.ofC rfl, by simp, by simp⟩
    · rename_i _ _ _ htb
      obtain ⟨e, hu⟩ : ∃ e, P.underlying t = some (.slice e) := by unfold isBoolT at htb; split at htb <;> first | exact ⟨_, by assumption⟩ | cases htb
      exact ⟨_, .bool false, he, run_neq_nil hu, VA.ofC rfl, by simp, by simp⟩
    · cases he
  · cases he
theorem part_int {T : TypeId} {kk : IntKind} {us : Array Value} {off : Nat} {u : Value} (hu : P.underlying T = some (.int kk)) (h : us[off]? = some u) : (part T us off).run P w = .ok u w := by
  have hg : isAggB P T = some false := by unfold isAggB; rw [hu]
  have hlt : off < us.size := by
    rcases Nat.lt_or_ge off us.size with h' | h'
    · exact h'
    · rw [Array.getElem?_eq_none h'] at h; cases h
  have e : us[off] = u := by rw [Array.getElem?_eq_getElem hlt] at h; exact Option.some.inj h
  simp [part, run_isAggB hg, hlt, e]
theorem eqFs_sound {us vs : Array Value} {xs ys : List AVal} (hx : ∀ (i : Nat) u x, us[i]? = some u → xs[i]? = some x → CA w0 w R ρ u x) (hy : ∀ (i : Nat) u x, vs[i]? = some u → ys[i]? = some x → CA w0 w R ρ u x)
    (hxl : us.size = xs.length) (hyl : vs.size = ys.length) (d : Nat) : ∀ (fs : List Field) (r : Bool), eqFs P xs ys fs = some r → (Op.eqFields (d + 1) us vs fs).run P w = .ok r w
  | [], r, h => by cases h; simp [Op.eqFields]
  | f :: fs, r, h => by
    simp only [eqFs] at h
    split at h
    · rename_i kk a m b n hname hu h1 h2
      split at h
      · rename_i hab
        have hab := of_decide_eq_true hab
        subst hab
        split at h
        · rename_i r' hr'
          cases h
          have hname := of_decide_eq_false hname
          have l1 : f.offset < us.size := by rw [hxl]; exact lt_of_get h1
          have l2 : f.offset < vs.size := by rw [hyl]; exact lt_of_get h2
          have c1 : us[f.offset] = .int a m := hx f.offset _ _ (Array.getElem?_eq_getElem l1) h1
          have c2 : vs[f.offset] = .int a n := hy f.offset _ _ (Array.getElem?_eq_getElem l2) h2
          have p1 := part_int (P := P) (w := w) hu (by rw [Array.getElem?_eq_getElem l1, c1])
          have p2 := part_int (P := P) (w := w) hu (by rw [Array.getElem?_eq_getElem l2, c2])
          have ih := eqFs_sound hx hy hxl hyl d fs r' hr'
          simp only [Op.eqFields, ne_eq, hname, not_false_eq_true, if_true, Sem.run_bind, p1, p2, Result.andThen_ok, run_equalIn_int w d f.type a kk m n hu]
          cases m == n
          · simp
          · simpa using ih
        · cases h
      · cases h
    · cases h
theorem eqA_sound {t : TypeId} {us vs : Array Value} {xs ys : List AVal} {r : Bool} (he : eqA P t xs ys = some r) (hx : ∀ (i : Nat) u x, us[i]? = some u → xs[i]? = some x → CA w0 w R ρ u x) (hy : ∀ (i : Nat) u x, vs[i]? = some u → ys[i]? = some x → CA w0 w R ρ u x)
    (hxl : us.size = xs.length) (hyl : vs.size = ys.length) : (Op.equalIn 10000 t (.agg us) (.agg vs)).run P w = .ok r w ∧ P.eqGuardType P.depth t = false := by
  unfold eqA at he
  split at he
  · rename_i fs hu
    split at he
    · rename_i hs hg
      have hf : P.fieldsOf t = fs := by unfold Program.fieldsOf; rw [hu]
      refine ⟨?_, hg⟩
      have := run_equalIn_agg (P := P) w 9999 t us vs (by rw [hf]; exact hu) hs
      rw [this, hf]
      exact eqFs_sound hx hy hxl hyl 9998 _ _ he
    · cases he
  · cases he
theorem ok_binOp {op : BinOp} {t t' : TypeId} {x y : Operand} (h : SR w0 B Io R ρ Fr st a w) (hs : Sub s st) (ho : o.op = .binOp op t x y t') (he : evalOp P env ib s o k = some r) :
    ∃ d, k d = some r ∧ OpOk P w0 B Io Fr ib st a w o d := by
  unfold evalOp at he
  rw [ho] at he
  simp only at he
  split at he
  · rename_i xs ys ex ey
    have hx := h.evs hs x; rw [ex] at hx
    have hy := h.evs hs y; rw [ey] at hy
    obtain ⟨us, u1, u2, u3⟩ := hx
    obtain ⟨vs, v1, v2, v3⟩ := hy
    split at he
    · rename_i r' heq
      obtain ⟨q1, q2⟩ := eqA_sound (w := w) heq u3 v3 u2 v2
      exact ⟨_, he, .pure h (v := .bool r') (by simp [execOp, ho, u1, v1, run_eqGuard_agg w _ t _ _ us vs q2, run_eql_struct, q1]) (VA.ofC rfl)⟩
    · rename_i r' heq
      obtain ⟨q1, q2⟩ := eqA_sound (w := w) heq u3 v3 u2 v2
      exact ⟨_, he, .pure h (v := .bool (!r')) (by simp [execOp, ho, u1, v1, run_eqGuard_agg w _ t _ _ us vs q2, run_neq_struct, q1]) (VA.ofC rfl)⟩
    · cases he
  · obtain ⟨z, q, h1, h2, h3, h4⟩ := binA_sound (P := P) he (h.evs hs x) (h.evs hs y)
    exact ⟨_, h1, .pure h (v := q) (by simp [execOp, ho, run_eqGuard_ints h4, h2]) h3⟩
end
variable {P : Program} {w0 : W0} {w : World} {B : Nat} {Io R : Nat → Prop} {ρ : Nat → Option Pl} {Fr : Nat → Prop} {st s : St} {a : Act}
section
variable {Rt : Type} {env : Nat → Option Callee} {ib : Nat} {o : Oper} {k : Delta → Option Rt} {r : Rt}
theorem bat_spec {s : ByteArray} {i b : Int} (h : bat s i = some b) : (if 0 ≤ i then s[i.toNat]? else none) = some (s.data.toList.getD i.toNat 0) ∧ b = ((s.data.toList.getD i.toNat 0).toNat : Int) := by
  unfold bat at h
  by_cases h0 : 0 ≤ i
  · simp only [h0, decide_true, cond_true, Option.map_eq_some_iff] at h
    obtain ⟨x, hx, rfl⟩ := h
    have hlt := lt_of_get hx
    have hs : i.toNat < s.size := by rw [Array.length_toList] at hlt; exact hlt
    have e : s.data.toList.getD i.toNat 0 = x := by rw [List.getD_eq_getElem?_getD, hx]; rfl
    rw [e, if_pos h0]
    refine ⟨?_, rfl⟩
    rw [ByteArray.getElem?_lt' s _ hs]
    have : s.data.toList[i.toNat]? = some s[i.toNat] := by
      rw [List.getElem?_eq_getElem hlt]; rfl
    rw [hx] at this
    exact this.symm
  · simp [h0] at h
theorem ok_index {T : TypeId} {x ix : Operand} (h : SR w0 B Io R ρ Fr st a w) (hs : Sub s st) (ho : o.op = .index T x ix) (he : evalOp P env ib s o k = some r) :
    ∃ d, k d = some r ∧ OpOk P w0 B Io Fr ib st a w o d := by
  unfold evalOp at he
  rw [ho] at he
  simp only at he
  split at he
  · rename_i kk i ei
    have hi := h.evs hs ix
    rw [ei] at hi
    have hi : a.eval ix = .int kk i := hi
    have hx := h.evs hs x
    split at he
    · rename_i cs ex
      rw [ex] at hx
      obtain ⟨us, h1, h2, h3⟩ := hx
      split at he
      · rename_i n hn
        have hex : ∃ e k' , P.underlying T = some (.array n e) ∧ P.underlying e = some (.int k') ∧ sizeB P e = some 1 := by
          unfold arrI at hn
          split at hn
          · rename_i n' e hu
            split at hn
            · rename_i k' h4 h5
              cases hn
              exact ⟨e, k', hu, h4, h5⟩
            · cases hn
          · cases hn
        obtain ⟨e, k', hu, hu2, hsz⟩ := hex
        by_cases hb : 0 ≤ i ∧ i < (n : Int)
        · simp only [hb.1, hb.2, decide_true, Bool.and_self, cond_true] at he
          split at he
          · rename_i v hv
            have hlt : i.toNat < us.size := by rw [h2]; exact lt_of_get hv
            have hu' := Array.getElem?_eq_getElem hlt
            refine ⟨_, he, .pure h (v := us[i.toNat]) ?_ (VA.ofC (h3 _ _ v hu' hv))⟩
            have := run_sizeB hsz w
            have hp := part_int (P := P) (w := w) (us := us) (off := i.toNat) hu2 hu'
            generalize us[i.toNat] = u at hp ⊢
            have e : (Instr.index T (.agg us) (.int kk i)).run P w = .ok u w := by
              simp [Instr.index, asIntOf, run_underlying' hu, hb.1, hb.2, this, hp]
            simp only [execOp, ho, hi, h1, Sem.run_bind, e, Result.andThen_ok, Sem.run_pure]
          · cases he
        · have : (decide (0 ≤ i) && decide (i < (n : Int))) = false := by
            cases hq : (decide (0 ≤ i) && decide (i < (n : Int)))
            · rfl
            · simp only [Bool.and_eq_true, decide_eq_true_eq] at hq; exact absurd hq hb
          rw [this] at he; cases he
      · cases he
    · rename_i sb ex
      rw [ex] at hx
      have hx : a.eval x = .string sb := hx
      split at he
      · rename_i hT
        have hu : P.underlying T = some .string := by
          unfold isStrT at hT
          split at hT
          · assumption
          · cases hT
        obtain ⟨b, hb, he⟩ := Option.bind_eq_some_iff.1 he
        obtain ⟨q1, q2⟩ := bat_spec hb
        refine ⟨_, he, .pure h (v := .int .u8 b) ?_ (VA.ofC rfl)⟩
        simp [execOp, ho, Instr.index, hi, asIntOf, run_underlying' hu, hx, q1, q2]
      · cases he
    · cases he
  · cases he
theorem ok_makeFunc {fn : Fn} {first caps : Array Operand} (h : SR w0 B Io R ρ Fr st a w) (hs : Sub s st) (ho : o.op = .makeFunc fn first caps) (he : evalOp P env ib s o k = some r) :
    ∃ d, k d = some r ∧ OpOk P w0 B Io Fr ib st a w o d := by
  unfold evalOp at he
  rw [ho] at he
  simp only at he
  split at he
  · rename_i f hfirst hp
    have hf' : first = #[] := by cases first; simp at hfirst; subst hfirst; rfl
    subst hf'
    have key : ∀ l : List AVal, ptrsA l = true → ∀ (i : Nat) x, l[i]? = some x → ∃ id c, x = .ptr id c := by
      intro l
      induction l with
      | nil => intro _ i x hx; simp at hx
      | cons y r ih =>
        intro hy i x hx
        cases y with
        | ptr id c =>
          match i with
          | 0 => simp at hx; exact ⟨id, c, hx.symm⟩
          | i + 1 => exact ih hy i x (by simpa using hx)
        | _ => simp [ptrsA] at hy
    refine ⟨_, he, .pure h (v := .func (.func f) #[] (caps.map a.eval)) (by simp [execOp, ho, Instr.makeFunc]) (VA.ofC ⟨caps.map a.eval, rfl, by simp, fun i u x hu hx => ?_⟩)⟩
    obtain ⟨id, c, rfl⟩ := key _ hp i x hx
    simp only [List.getElem?_map, Option.map_eq_some_iff] at hx
    obtain ⟨q, hq, e⟩ := hx
    simp only [Array.getElem?_map, Option.map_eq_some_iff] at hu
    obtain ⟨q', hq', rfl⟩ := hu
    have hqq : q' = q := by
      have : caps[i]? = some q := by simpa using hq
      rw [this] at hq'; cases hq'; rfl
    subst hqq
    have := h.evs hs q'
    rw [e] at this
    exact this
  · cases he
theorem ok_unOp {op : UnOp} {t : TypeId} {x : Operand} (h : SR w0 B Io R ρ Fr st a w) (hs : Sub s st) (ho : o.op = .unOp op t x) (he : evalOp P env ib s o k = some r) :
    ∃ d, k d = some r ∧ OpOk P w0 B Io Fr ib st a w o d := by
  unfold evalOp at he
  rw [ho] at he
  simp only at he
  have hx := h.evs hs x
  split at he
  · rename_i b e
    rw [e] at hx
    have hx' : a.eval x = .bool b := hx
    exact ⟨_, he, .pure h (v := .bool (!b)) (by simp [execOp, ho, hx', Op.unary]) (VA.ofC rfl)⟩
  · rename_i A n e
    rw [e] at hx
    have hx' : a.eval x = .int A n := hx
    exact ⟨_, he, .pure h (v := .int A (A.wrap (0 - n))) (by simp [execOp, ho, hx', Op.unary, Op.intArith]) (VA.ofC rfl)⟩
  · cases he
theorem ok_nilCheck {x : Operand} (h : SR w0 B Io R ρ Fr st a w) (hs : Sub s st) (ho : o.op = .nilCheck x) (he : evalOp P env ib s o k = some r) :
    ∃ d, k d = some r ∧ OpOk P w0 B Io Fr ib st a w o d := by
  unfold evalOp at he
  rw [ho] at he
  simp only at he
  have hx := h.evs hs x
  split at he
  · rename_i id c e
    rw [e] at hx
    obtain ⟨b, off, h1, h2⟩ := hx
    exact ⟨_, he, .pure h (v := a.eval x) (by simp [execOp, ho, h2]) (VA.ofC ⟨b, off, h1, h2⟩)⟩
  · rename_i id row i c e
    rw [e] at hx
    obtain ⟨S, n, b, off, h1, h2, h3, h4⟩ := hx
    exact ⟨_, he, .pure h (v := a.eval x) (by simp [execOp, ho, h4]) (VA.ofC ⟨S, n, b, off, h1, h2, h3, h4⟩)⟩
  · rename_i cs c e
    rw [e] at hx
    obtain ⟨b, off, h1, h2⟩ := hx
    exact ⟨_, he, .pure h (v := a.eval x) (by simp [execOp, ho, h1]) (VA.ofC ⟨b, off, h1, h2⟩)⟩
  · rename_i ts c e
    rw [e] at hx
    obtain ⟨b, off, h1, h2⟩ := hx
    exact ⟨_, he, .pure h (v := a.eval x) (by simp [execOp, ho, h1]) (VA.ofC ⟨b, off, h1, h2⟩)⟩
  · cases he
theorem ok_extract {x : Operand} {i : Nat} (h : SR w0 B Io R ρ Fr st a w) (hs : Sub s st) (ho : o.op = .extract x i) (he : evalOp P env ib s o k = some r) :
    ∃ d, k d = some r ∧ OpOk P w0 B Io Fr ib st a w o d := by
  unfold evalOp at he
  rw [ho] at he
  simp only at he
  have hx := h.evs hs x
  split at he
  · rename_i vs e
    rw [e] at hx
    split at he
    · rename_i v hv
      obtain ⟨us, h1, h2, h3⟩ := hx
      have hi : i < us.size := by rw [h2]; exact lt_of_get hv
      refine ⟨_, he, .pure h (v := us[i]) ?_ (VA.of1 (h3 i _ v (by simp [hi]) hv))⟩
      simp [execOp, ho, h1, Instr.extract, hi]
    · cases he
  · cases he
theorem slc_sound (h : SR w0 B Io R ρ Fr st a w) (hs : Sub s st) {v : Value} {x : AVal} (hv : VA w0 w R ρ v x) {T : Ty} {l : List T.den} (hl : slc s x = some ⟨T, l⟩) :
    ∃ A cap, v = .slice A l.length cap := by
  unfold slc at hl
  split at hl
  · cases hl
    obtain ⟨A, cap, h1, h2⟩ := hv
    exact ⟨A, cap, (List.cons.inj h1).1⟩
  · rename_i id row win
    split at hl
    · rename_i T c hf
      cases hl
      obtain ⟨S, m, hp, hw⟩ := hv
      obtain ⟨p1, _⟩ := full_place h (hs.full hf) hp
      obtain ⟨A', q1, _⟩ := hw.open (c := c) p1
      exact ⟨A', _, q1⟩
    · cases hl
  · cases hl
theorem ok_len {c : Call} (h : SR w0 B Io R ρ Fr st a w) (hs : Sub s st) (ho : o.op = .call c) (hc : c.callee = .builtin .len) (he : evalOp P env ib s o k = some r) :
    ∃ d, k d = some r ∧ OpOk P w0 B Io Fr ib st a w o d := by
  unfold evalOp at he
  rw [ho] at he
  simp only [hc] at he
  split at he
  · rename_i x T hx ht
    have hv := h.evs hs x
    have hargs : c.args = #[x] := by rw [← Array.toArray_toList (xs := c.args), hx]
    split at he
    · rename_i n hl
      refine ⟨_, he, .pure h (v := .int .i64 n) ?_ (VA.ofC rfl)⟩
      unfold lenA at hl
      split at hl
      · rename_i hty
        have hu : ∃ e, P.underlying T = some (.slice e) := by
          unfold lenTy at hty
          split at hty <;> first | exact ⟨_, by assumption⟩ | cases hty
        obtain ⟨e, hu⟩ := hu
        have hsl : ∃ A cap, a.eval x = .slice A n cap := by
          split at hl
          · rename_i e2
            cases hl
            rw [e2] at hv
            exact ⟨none, 0, hv⟩
          · split at hl
            · rename_i hsl
              cases hl
              exact slc_sound h hs hv hsl
            · cases hl
        obtain ⟨A, cap, hsl⟩ := hsl
        simp [execOp, ho, resolve, hc, invoke, builtin, Builtin.len_, hargs, ht, run_underlying' hu, hsl, goInt]
      · rename_i hty
        have hu : P.underlying T = some .string := by
          unfold lenTy at hty
          split at hty <;> first | assumption | cases hty
        split at hl
        · rename_i s' e2
          cases hl
          rw [e2] at hv
          have hv' : a.eval x = .string s' := hv
          simp [execOp, ho, resolve, hc, invoke, builtin, Builtin.len_, hargs, ht, run_underlying' hu, hv', goInt]
        · cases hl
      · cases hl
    · cases he
  · cases he
theorem ok_min {c : Call} (h : SR w0 B Io R ρ Fr st a w) (hs : Sub s st) (ho : o.op = .call c) (hc : c.callee = .builtin .min) (he : evalOp P env ib s o k = some r) :
    ∃ d, k d = some r ∧ OpOk P w0 B Io Fr ib st a w o d := by
  unfold evalOp at he
  rw [ho] at he
  simp only [hc] at he
  split at he
  · rename_i x y hx
    have hv := h.evs hs x
    have hu := h.evs hs y
    have hargs : c.args = #[x, y] := by rw [← Array.toArray_toList (xs := c.args), hx]
    split at he
    · rename_i A m A' n e1 e2
      rw [e1] at hv; rw [e2] at hu
      have hv' : a.eval x = .int A m := hv
      have hu' : a.eval y = .int A' n := hu
      refine ⟨_, he, .pure h (v := .int A (if n < m then n else m)) ?_ (VA.ofC rfl)⟩
      simp [execOp, ho, resolve, hc, invoke, builtin, Builtin.min_, hargs, hv', hu', Builtin.min2]
    · cases he
  · cases he
theorem ok_max {c : Call} (h : SR w0 B Io R ρ Fr st a w) (hs : Sub s st) (ho : o.op = .call c) (hc : c.callee = .builtin .max) (he : evalOp P env ib s o k = some r) :
    ∃ d, k d = some r ∧ OpOk P w0 B Io Fr ib st a w o d := by
  unfold evalOp at he
  rw [ho] at he
  simp only [hc] at he
  split at he
  · rename_i x y hx
    have hv := h.evs hs x
    have hu := h.evs hs y
    have hargs : c.args = #[x, y] := by rw [← Array.toArray_toList (xs := c.args), hx]
    split at he
    · rename_i A m A' n e1 e2
      rw [e1] at hv; rw [e2] at hu
      have hv' : a.eval x = .int A m := hv
      have hu' : a.eval y = .int A' n := hu
      refine ⟨_, he, .pure h (v := .int A (if n > m then n else m)) ?_ (VA.ofC rfl)⟩
      simp [execOp, ho, resolve, hc, invoke, builtin, Builtin.max_, hargs, hv', hu', Builtin.max2]
    · cases he
  · cases he
end
end Go.OAI
