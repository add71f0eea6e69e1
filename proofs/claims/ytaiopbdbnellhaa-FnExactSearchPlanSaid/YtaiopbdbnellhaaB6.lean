/- One operation, continued: stores and appends. -/
import Derived.Test.YtaiopbdbnellhaaB5
import Derived.Laws.AppendOwn
namespace Go.OAI
set_option linter.unusedVariables false

variable {P : Program} {w0 : W0} {w w' : World} {B : Nat} {Io R : Nat → Prop} {ρ : Nat → Option Pl} {Fr : Nat → Prop} {st s : St} {a : Act}

/-- Cells overwritten from q on. -/
def patch (L : List Value) (q : Nat) (vs : List Value) : List Value := L.take q ++ vs ++ L.drop (q + vs.length)
theorem patch_get {L : List Value} {q : Nat} {vs : List Value} (h : q + vs.length ≤ L.length) (t : Nat) :
    (patch L q vs)[t]? = if q ≤ t ∧ t < q + vs.length then vs[t - q]? else L[t]? := by
  unfold patch
  rw [List.append_assoc]
  by_cases h1 : t < q
  · rw [if_neg (by omega), List.getElem?_append_left (by simp; omega), List.getElem?_take_of_lt h1]
  · rw [List.getElem?_append_right (by simp; omega)]
    have e : (L.take q).length = q := by simp; omega
    rw [e]
    by_cases h2 : t < q + vs.length
    · rw [if_pos (by omega), List.getElem?_append_left (by omega)]
    · rw [if_neg (by omega), List.getElem?_append_right (by omega), List.getElem?_drop]
      congr 1; omega
theorem patch_length {L : List Value} {q : Nat} {vs : List Value} (h : q + vs.length ≤ L.length) : (patch L q vs).length = L.length := by
  unfold patch; simp; omega

theorem setRow_quiet (w : World) (g : Nat) (cs : Array Value) : Quiet w (w.setRow g cs) := ⟨rfl, rfl, fun a => by
  unfold World.frozen? World.setRow
  simp only [Array.getElem?_modify]
  by_cases h : g = a.block
  · simp only [h, if_true]
    cases w.heap[a.block]? with
    | none => rfl
    | some o => cases o <;> rfl
  · simp only [h, if_false]⟩
/-- A store of some cells into a block. -/
theorem run_storeVar' {T : TypeId} {n b off : Nat} {v : Value} {arr : Array Value} {E : TypeId} (hn : sizeB P T = some n) (hv : v.cells.size = n) (h1 : ∀ u ∈ v.cells.toList, u.oneCell' = true)
    (hb : w.heap[b]? = some (.cells arr E (0, 0))) (hl : off + n ≤ arr.size) :
    (storeVar T ⟨b, off, none⟩ v).run P w = .ok () (w.setRow b (patch arr.toList off v.cells.toList).toArray) := by
  have := run_storeCells_at P b off E v.cells.toList 0 arr w hb (by simp [hv]; omega) h1
  simp only [Nat.add_zero] at this
  simp only [storeVar, Sem.run_bind, run_sizeB hn, Result.andThen_ok, hv]
  simpa [patch] using this

theorem SR.blk_lt (h : SR w0 B Io R ρ Fr st a w) {b : Nat} {o : Go.Obj} (hb : w.heap[b]? = some o) : b < w.heap.size := (Array.getElem?_eq_some_iff.1 hb).1

section
variable {Rt : Type} {env : Nat → Option Callee} {ib : Nat} {o : Oper} {k : Delta → Option Rt} {r : Rt}

theorem run_store_op {T : TypeId} {p x : Operand} {b off : Nat} {w' : World} (ho : o.op = .store T p x) (hp : a.eval p = .pointer (some ⟨b, off, none⟩)) (hr : (storeVar T ⟨b, off, none⟩ (a.eval x)).run P w = .ok () w') :
    (execOp a.eval o).run P w = .ok .skip w' := by
  simp [execOp, ho, hp, Instr.storeAt, Instr.sureAddr, hr]

theorem OpOk.stored (h : SR w0 B Io R ρ Fr st a w) {w' : World} (hr : (execOp a.eval o).run P w = .ok .skip w') {id : Nat} {x y : Obj} {p : Pl} (ho : st.ob id = some x) (hp : ρ id = some p)
    (hw : ∀ b, ¬ blkO p b → w'.heap[b]? = w.heap[b]?) (hz : w'.heap.size = w.heap.size) (hy : Same R w w' → OA w' R ρ p y) (hq : Quiet w w' := by exact setRow_quiet _ _ _) : OpOk P w0 B Io Fr ib st a w o ⟨.undef, [(id, some y)]⟩ :=
  .skip hr ⟨R, ρ, by
    have := ((h.chg ho hp hw hz hq hy).undef o.dst undef).weaken (Fr' := fun i => Fr i ∧ ¬ Own ib i) (fun i hi => hi.1)
    rw [app_one]
    have e : ({ st.put o.dst .undef with ob := fun i => if i = id then some y else (st.put o.dst .undef).ob i } : St) = ({ st with ob := fun i => if i = id then some y else st.ob i } : St).put o.dst .undef := by
      cases o.dst with
      | none => rfl
      | some d => simp only [St.put]; unfold St.setTm; by_cases hd : d < st.n <;> simp [hd]
    rw [e]; exact this⟩

theorem cells_one {v : Value} {vs : List AVal} (hv : v.cells.size = vs.length ∧ ∀ (k : Nat) u y, v.cells[k]? = some u → vs[k]? = some y → CA w R ρ u y) : ∀ u ∈ v.cells.toList, u.oneCell' = true := by
  intro u hu
  obtain ⟨k, hk, rfl⟩ := List.getElem_of_mem hu
  have hk' : k < vs.length := by rw [← hv.1]; simpa using hk
  exact (hv.2 k _ _ (by simp at hk; simp [hk]) (List.getElem?_eq_getElem hk')).one

/-- A new element's cells: some of the old ones', some of those stored. -/
theorem elem_new {T : Ty} {us : List Value} {x y : T.den} {vs : List AVal} {v : Value} {c n : Nat} (hrt : RT w R T us x) (hv : v.cells.size = vs.length ∧ ∀ (k : Nat) u y, v.cells[k]? = some u → vs[k]? = some y → CA w R ρ u y)
    (hn : vs.length = n) (hle : c + n ≤ T.cells) (hy : T.unflat1 ((T.flat x).take c ++ vs ++ (T.flat x).drop (c + n)) = some y) : RT w R T (patch us c v.cells.toList) y := by
  obtain ⟨f1, f2⟩ := hrt.flat
  have hvl : v.cells.toList.length = n := by simp [hv.1, hn]
  have hus := hrt.len
  unfold Ty.unflat1 at hy
  split at hy
  · rename_i y' hun
    cases hy
    have hl' : c + v.cells.toList.length ≤ us.length := by rw [hvl, hus]; exact hle
    have hlen : (patch us c v.cells.toList).length = ((T.flat x).take c ++ vs ++ (T.flat x).drop (c + n)).length := by
      rw [patch_length hl']; simp; omega
    obtain ⟨g1, g2, g3⟩ := RT.unflat (w := w) (R := R) (ρ := ρ) (vs := patch us c v.cells.toList) hun hlen (fun j u z hu hz => by
      rw [patch_get hl'] at hu
      rw [List.append_assoc] at hz
      by_cases h1 : j < c
      · rw [if_neg (by omega)] at hu
        rw [List.getElem?_append_left (by simp; omega), List.getElem?_take_of_lt h1] at hz
        exact CA.ofR (f2 j u z hu hz)
      · rw [List.getElem?_append_right (by simp; omega)] at hz
        have e1 : ((T.flat x).take c).length = c := by simp; omega
        rw [e1] at hz
        by_cases h2 : j < c + n
        · rw [if_pos (by omega)] at hu
          rw [List.getElem?_append_left (by omega)] at hz
          exact hv.2 _ u z (by simpa using hu) hz
        · rw [if_neg (by omega)] at hu
          rw [List.getElem?_append_right (by omega), List.getElem?_drop] at hz
          have e2 : c + n + (j - c - vs.length) = j := by omega
          rw [e2] at hz
          exact CA.ofR (f2 j u z hu hz))
    have hl2 : (patch us c v.cells.toList).length ≤ T.cells := by
      have := List.drop_eq_nil_iff.1 g3.symm
      rw [hlen]; exact this
    rwa [List.take_of_length_le hl2] at g1
  · cases hy

/-- A slice's memory behind a store into one element. -/
theorem SlOwn.store {T : Ty} {S : SPl} {l : List T.den} (h : SlOwn w R T S l) (hR : ∀ b, R b → ¬ S.blk b) {b off i c n : Nat} (hA : S.A = some ⟨b, off, none⟩) (hi : i < l.length) {vs : List AVal} {v : Value} {y : T.den}
    (hv : v.cells.size = vs.length ∧ ∀ (k : Nat) u y, v.cells[k]? = some u → vs[k]? = some y → CA w R ρ u y) (hn : vs.length = n) (hle : c + n ≤ T.cells)
    (hy : T.unflat1 ((T.flat (l.getD i T.dflt)).take c ++ vs ++ (T.flat (l.getD i T.dflt)).drop (c + n)) = some y) :
    ∃ arr E, w.heap[b]? = some (.cells arr E (0, 0)) ∧ off + (i * S.st + c) + n ≤ arr.size ∧
      ∀ w', w' = w.setRow b (patch arr.toList (off + (i * S.st + c)) v.cells.toList).toArray → SlOwn w' R T S (l.set i y) := by
  obtain ⟨h1, h2, h3⟩ := h
  have hc0 : S.cap ≠ 0 := by omega
  obtain ⟨b', off', arr, E, e1, e2, e3, e4⟩ := h3 hc0
  rw [hA] at e1; cases e1
  have hvl : v.cells.toList.length = n := by simp [hv.1, hn]
  have hm : i * T.cells + T.cells ≤ S.cap * T.cells := by
    have : (i + 1) * T.cells ≤ S.cap * T.cells := Nat.mul_le_mul_right _ (by omega)
    rwa [Nat.add_mul, Nat.one_mul] at this
  have hfit : off + (i * S.st + c) + n ≤ arr.size := by rw [h1]; omega
  refine ⟨arr, E, e2, hfit, fun w' hw' => ?_⟩
  have hs : Same R w w' := fun b' hb' => by
    rw [hw', setRow_other]
    intro e; subst e
    exact hR _ hb' ⟨hc0, off, hA⟩
  refine ⟨h1, by simpa using h2, fun _ => ⟨b, off, _, E, hA, by rw [hw']; exact setRow_heap w b arr _ E _ e2, ?_, fun j x hx => ?_⟩⟩
  · rw [List.size_toArray, patch_length (by rw [hvl]; simpa using hfit)]; simpa using e3
  · have hj : j < l.length := by have := lt_of_get hx; simpa using this
    have hpg := patch_get (L := arr.toList) (q := off + (i * S.st + c)) (vs := v.cells.toList) (by rw [hvl]; simpa using hfit)
    by_cases hji : j = i
    · subst hji
      have hlj : l[j]? = some (l.getD j T.dflt) := by simp [List.getElem?_eq_getElem hj, List.getD]
      have hx' : x = y := by rw [List.getElem?_set_self hj] at hx; exact (Option.some.inj hx).symm
      subst hx'
      obtain ⟨us, g1, g2⟩ := e4 j _ hlj
      have hus := g1.len
      refine ⟨patch us c v.cells.toList, (elem_new g1 hv hn hle hy).mono hs (fun _ hb => hb), fun t u hu => ?_⟩
      rw [patch_get (by rw [hvl, hus]; exact hle)] at hu
      rw [List.getElem?_toArray, hpg, h1, hvl]
      rw [hvl] at hu
      by_cases h5 : c ≤ t ∧ t < c + n
      · rw [if_pos h5] at hu
        rw [if_pos (by omega), show off + (j * T.cells + t) - (off + (j * T.cells + c)) = t - c by omega]
        exact hu
      · rw [if_neg h5] at hu
        rw [if_neg (by omega)]
        simpa using g2 t u hu
    · rw [List.getElem?_set_ne (Ne.symm hji)] at hx
      obtain ⟨us, g1, g2⟩ := e4 j x hx
      have hus := g1.len
      refine ⟨us, g1.mono hs (fun _ hb => hb), fun t u hu => ?_⟩
      have ht : t < T.cells := by rw [← hus]; exact lt_of_get hu
      rw [List.getElem?_toArray, hpg, h1, hvl, if_neg]
      · simpa using g2 t u hu
      · rcases Nat.lt_or_gt_of_ne hji with hlt | hgt
        · have : (j + 1) * T.cells ≤ i * T.cells := Nat.mul_le_mul_right _ (by omega)
          rw [Nat.add_mul, Nat.one_mul] at this
          omega
        · have : (i + 1) * T.cells ≤ j * T.cells := Nat.mul_le_mul_right _ (by omega)
          rw [Nat.add_mul, Nat.one_mul] at this
          omega

theorem ok_store {T : TypeId} {p x : Operand} (h : SR w0 B Io R ρ Fr st a w) (hs : Sub s st) (ho : o.op = .store T p x) (he : evalOp P env ib s o k = some r) :
    ∃ d, k d = some r ∧ OpOk P w0 B Io Fr ib st a w o d := by
  unfold evalOp at he
  rw [ho] at he
  simp only at he
  split at he
  · cases he
  · rename_i n hn
    split at he
    · cases he
    · rename_i vs hvs
      split at he
      · cases he
      · rename_i hvn
        have hvn := of_decide_eq_true hvn
        have hv := cellsOfV_VA (h.evs hs x) hvs
        have hp := h.evs hs p
        have hvl : (a.eval x).cells.size = n := by rw [hv.1, hvn]
        have hvl' : (a.eval x).cells.toList.length = n := by simp [hvl]
        have hone := cells_one hv
        split at he
        · rename_i id c e
          rw [e] at hp
          split at he
          · rename_i cs hob
            by_cases hle0 : c + n ≤ cs.length ∧ 0 < n
            · obtain ⟨hle, hn0⟩ := hle0
              simp only [hle, hn0, decide_true, Bool.and_self, cond_true] at he
              obtain ⟨b, off, h1, h2⟩ := hp
              have hob' := hs.obj hob
              obtain ⟨q, hq, hoa⟩ := h.ob id _ hob'
              obtain ⟨b', off', arr, E, rfl, e2, e3⟩ := hoa
              rw [h1] at hq; cases hq
              have hfit : off + c + n ≤ arr.size := by
                obtain ⟨u, hu, _⟩ := e3 (c + n - 1) _ (List.getElem?_eq_getElem (by omega))
                have : off + (c + n - 1) < arr.size := (Array.getElem?_eq_some_iff.1 hu).1
                omega
              have hrun := run_storeVar' (P := P) hn hvl hone e2 hfit
              have hpg := patch_get (L := arr.toList) (q := off + c) (vs := (a.eval x).cells.toList) (by rw [hvl']; simpa using hfit)
              refine ⟨_, he, .stored h (run_store_op ho h2 hrun) hob' h1 (fun b' hb' => setRow_other w b b' _ (fun e => hb' e.symm)) (setRow_size _ _ _) (fun hsame => ?_)⟩
              refine ⟨b, off, _, E, rfl, setRow_heap w b arr _ E _ e2, fun j z hz => ?_⟩
              rw [List.append_assoc] at hz
              rw [List.getElem?_toArray, hpg, hvl']
              by_cases a1 : j < c
              · rw [if_neg (by omega)]
                rw [List.getElem?_append_left (by simp; omega), List.getElem?_take_of_lt a1] at hz
                obtain ⟨u, q1, q2⟩ := e3 j z hz
                exact ⟨u, by simpa using q1, q2.mono hsame (fun _ hb => hb) (.refl _)⟩
              · rw [List.getElem?_append_right (by simp; omega)] at hz
                have e1 : (cs.take c).length = c := by simp; omega
                rw [e1] at hz
                by_cases a2 : j < c + n
                · rw [if_pos (by omega), show off + j - (off + c) = j - c by omega]
                  rw [List.getElem?_append_left (by omega)] at hz
                  have hjc : j - c < (a.eval x).cells.size := by omega
                  refine ⟨(a.eval x).cells[j - c], by simp [hjc], (hv.2 (j - c) _ z (by simp [hjc]) hz).mono hsame (fun _ hb => hb) (.refl _)⟩
                · rw [if_neg (by omega)]
                  rw [List.getElem?_append_right (by omega), List.getElem?_drop] at hz
                  rw [show c + n + (j - c - vs.length) = j by omega] at hz
                  obtain ⟨u, q1, q2⟩ := e3 j z hz
                  exact ⟨u, by simpa using q1, q2.mono hsame (fun _ hb => hb) (.refl _)⟩
            · have : (decide (c + n ≤ cs.length) && decide (0 < n)) = false := by
                cases hq : (decide (c + n ≤ cs.length) && decide (0 < n))
                · rfl
                · simp only [Bool.and_eq_true, decide_eq_true_eq] at hq; exact absurd hq hle0
              rw [this] at he; cases he
          · cases he
        · rename_i id row i c e
          rw [e] at hp
          obtain ⟨S, n', b, off, p1, p2, p3, p4⟩ := hp
          split at he
          · rename_i U l hob
            have hob' := hs.obj hob
            obtain ⟨q, hq, hoa⟩ := h.ob id _ hob'
            have hoa0 := hoa
            obtain ⟨S', rfl, hown⟩ := hoa
            split at he
            · split at he
              · rename_i hle
                have hle := of_decide_eq_true hle
                split at he
                · rename_i y hy
                  rw [hq] at p1; simp only [plS] at p1; cases p1
                  obtain ⟨arr, E, g1, g2, g3⟩ := hown.store (fun b' hb' hb'' => (h.own id _ _ b' hob' hq hb'').2.1 hb') p2 p3 hv hvn hle hy
                  have hrun := run_storeVar' (P := P) (off := off + (i * S.st + c)) hn hvl hone g1 g2
                  refine ⟨_, he, .stored h (run_store_op ho p4 hrun) hob' hq (fun b' hb' => setRow_other w b b' _ (fun e => hb' ?_)) (setRow_size _ _ _) (fun hsame => ⟨S, by simp, g3 _ rfl⟩)⟩
                  subst e
                  have := hown.2.1
                  exact ⟨by omega, off, p2⟩
                · cases he
              · cases he
            · cases he
          · rename_i U l hob
            have hob' := hs.obj hob
            obtain ⟨q, hq, hoa⟩ := h.ob id _ hob'
            obtain ⟨S', rows, rfl, m1, m2, m3, m4, m5, m6⟩ := hoa
            split at he
            · rename_i j
              split at he
              · rename_i hle
                have hle := of_decide_eq_true hle
                split at he
                · rename_i y hy
                  rw [hq] at p1; simp only [plS] at p1
                  split at p1
                  · rename_i hj
                    have p1' := Option.some.inj p1
                    obtain ⟨rfl, rfl⟩ : S = (rows j).1 ∧ n' = (rows j).2 := by rw [p1']; exact ⟨rfl, rfl⟩
                    obtain ⟨q1, q2⟩ := m4 j _ (List.getElem?_eq_getElem hj)
                    have ej : l.getD j [] = l[j] := by simp [List.getD, List.getElem?_eq_getElem hj]
                    rw [ej] at hy he
                    rw [q1] at p3
                    have hblk : (rows j).1.blk b := ⟨by have := q2.2.1; omega, off, p2⟩
                    obtain ⟨arr, E, g1, g2, g3⟩ := q2.store (fun b' hb' hb'' => (h.own id _ _ b' hob' hq (Or.inr ⟨j, hj, hb''⟩)).2.1 hb') p2 p3 hv hvn hle hy
                    have hrun := run_storeVar' (P := P) (off := off + (i * (rows j).1.st + c)) hn hvl hone g1 g2
                    refine ⟨_, he, .stored h (run_store_op ho p4 hrun) hob' hq (fun b' hb' => setRow_other w b b' _ (fun e => hb' ?_)) (setRow_size _ _ _) (fun hsame => ⟨S', rows, by simp, m1, by simpa using m2, fun hc => ?_, fun t rw' hrw => ?_, by simpa using m5, by simpa using m6⟩)⟩
                    · subst e; exact Or.inr ⟨j, hj, hblk⟩
                    · obtain ⟨bb, oo, ar, EE, z1, z2, z3, z4⟩ := m3 hc
                      refine ⟨bb, oo, ar, EE, z1, ?_, z3, fun t rr hrr => ?_⟩
                      · rw [setRow_other]
                        · exact z2
                        · intro e; subst e
                          exact m6 j bb hj ⟨hc, oo, z1⟩ hblk
                      · by_cases ht : t = j
                        · subst ht
                          rw [List.getElem?_set_self hj] at hrr
                          cases hrr
                          have := z4 t _ (List.getElem?_eq_getElem hj)
                          simpa using this
                        · rw [List.getElem?_set_ne (Ne.symm ht)] at hrr
                          exact z4 t rr hrr
                    · by_cases ht : t = j
                      · subst ht
                        rw [List.getElem?_set_self hj] at hrw
                        cases hrw
                        exact ⟨by simpa using q1, g3 _ rfl⟩
                      · rw [List.getElem?_set_ne (Ne.symm ht)] at hrw
                        obtain ⟨y1, y2⟩ := m4 t rw' hrw
                        refine ⟨y1, y2.mono hsame (fun _ hb => hb) (fun b' hb' => setRow_other w b b' _ (fun e => ?_))⟩
                        subst e
                        exact m5 t j b' (lt_of_get hrw) hj ht hb' hblk
                  · cases p1
                · cases he
              · cases he
            · cases he
          · cases he
        · cases he
end
end Go.OAI
