/- One operation, continued: append. What is handed over at a call and back: how it lies in memory, apart from any frame. What comes in is laid into objects of the frame. -/
import Derived.Test.YtejiaikhdjanoaaGreatB6
import Derived.RowKit3
namespace Go.OAI
set_option linter.unusedVariables false
variable {P : Program} {w0 : W0} {w w' : World} {B : Nat} {Io R : Nat → Prop} {ρ : Nat → Option Pl} {Fr : Nat → Prop} {st s : St} {a : Act}
def CellsL (w : World) (R : Nat → Prop) (T : Ty) (L : List Value) (l : List T.den) : Prop :=
  L.length = l.length * T.cells ∧ ∀ j x, l[j]? = some x → ∃ us, RT w R T us x ∧ ∀ c u, us[c]? = some u → L[j * T.cells + c]? = some u
theorem CellsL.append {T : Ty} {L1 L2 : List Value} {l1 l2 : List T.den} (h1 : CellsL w R T L1 l1) (h2 : CellsL w R T L2 l2) : CellsL w R T (L1 ++ L2) (l1 ++ l2) := by
  refine ⟨by rw [List.length_append, List.length_append, h1.1, h2.1, Nat.add_mul], fun j x hx => ?_⟩
  by_cases hj : j < l1.length
  · rw [List.getElem?_append_left hj] at hx
    obtain ⟨us, g1, g2⟩ := h1.2 j x hx
    refine ⟨us, g1, fun c u hu => ?_⟩
    have := g2 c u hu
    rw [List.getElem?_append_left (lt_of_get this)]; exact this
  · rw [List.getElem?_append_right (by omega)] at hx
    obtain ⟨us, g1, g2⟩ := h2.2 _ x hx
    refine ⟨us, g1, fun c u hu => ?_⟩
    have := g2 c u hu
    rw [List.getElem?_append_right (by rw [h1.1]; have : l1.length * T.cells ≤ j * T.cells := Nat.mul_le_mul_right _ (by omega); omega), h1.1]
    rw [Nat.sub_mul] at this
    have e : l1.length * T.cells ≤ j * T.cells := Nat.mul_le_mul_right _ (by omega)
    rw [show j * T.cells + c - l1.length * T.cells = j * T.cells - l1.length * T.cells + c by omega]; exact this
theorem CellsL.mono {R' : Nat → Prop} {T : Ty} {L : List Value} {l : List T.den} (hs : Same R w w') (hr : ∀ b, R b → R' b) (h : CellsL w R T L l) : CellsL w' R' T L l :=
  ⟨h.1, fun j x hx => by obtain ⟨us, g1, g2⟩ := h.2 j x hx; exact ⟨us, g1.mono hs hr, g2⟩⟩
theorem CellsL.one {T : Ty} {L : List Value} {l : List T.den} (h : CellsL w R T L l) : ∀ u ∈ L, u.oneCell' = true := by
  intro u hu
  obtain ⟨t, ht, rfl⟩ := List.getElem_of_mem hu
  rw [h.1] at ht
  have h0 : 0 < T.cells := by rcases Nat.eq_zero_or_pos T.cells with e | e; · rw [e] at ht; simp at ht
                              · exact e
  have hj : t / T.cells < l.length := Nat.div_lt_of_lt_mul (by rw [Nat.mul_comm]; exact ht)
  obtain ⟨us, g1, g2⟩ := h.2 _ _ (List.getElem?_eq_getElem hj)
  obtain ⟨f1, f2⟩ := g1.flat
  have hc : t % T.cells < us.length := by rw [g1.len]; exact Nat.mod_lt _ h0
  have := g2 _ _ (List.getElem?_eq_getElem hc)
  rw [Nat.mul_comm, Nat.div_add_mod] at this
  have e := List.getElem?_eq_getElem (l := L) (i := t) (by rw [h.1]; exact ht)
  rw [e] at this
  have := Option.some.inj this
  rw [this]
  exact (CA.ofR (w0 := ⟨w, R, fun _ => none, R⟩) (ρ := fun _ => none) (f2 _ _ _ (List.getElem?_eq_getElem hc) (List.getElem?_eq_getElem (by rw [f1]; exact hc)))).one
theorem SlOwn.ofCells {T : Ty} {S : SPl} {l : List T.den} {L : List Value} {b off : Nat} {arr : Array Value} {E : TypeId} (hst : S.st = T.cells) (hc : l.length ≤ S.cap) (hA : S.A = some ⟨b, off, none⟩)
    (hb : w.heap[b]? = some (.cells arr E (0, 0))) (hl : off + S.cap * T.cells ≤ arr.size) (hL : CellsL w R T L l) (ha : ∀ t, t < L.length → arr[off + t]? = L[t]?) : SlOwn w R T S l :=
  ⟨hst, hc, fun _ => ⟨b, off, arr, E, hA, hb, hl, fun i x hx => by
    obtain ⟨us, g1, g2⟩ := hL.2 i x hx
    refine ⟨us, g1, fun c u hu => ?_⟩
    have := g2 c u hu
    rw [ha _ (lt_of_get this)]; exact this⟩⟩
theorem SlOwn.win {T : Ty} {S : SPl} {l : List T.den} (h : SlOwn w R T S l) (win : Option (Nat × Nat)) (hw : winOff win + (winL win l).length ≤ l.length) (hne : (winL win l).length ≠ 0) :
    ∃ L b off arr E, S.A = some ⟨b, off, none⟩ ∧ w.heap[b]? = some (.cells arr E (0, 0)) ∧ off + S.cap * T.cells ≤ arr.size ∧ CellsL w R T L (winL win l) ∧
      ∀ t, t < L.length → arr[off + winOff win * T.cells + t]? = L[t]? := by
  obtain ⟨h1, h2, h3⟩ := h
  have hc : S.cap ≠ 0 := by omega
  obtain ⟨b, off, arr, E, e1, e2, e3, e4⟩ := h3 hc
  have hget : ∀ j x, (winL win l)[j]? = some x → l[winOff win + j]? = some x := by
    intro j x hx
    cases win with
    | none => simpa [winL, winOff] using hx
    | some p =>
      obtain ⟨o', n'⟩ := p
      simp only [winL, winOff] at hx ⊢
      have hj := lt_of_get hx
      rw [List.getElem?_take_of_lt (by simp at hj; omega), List.getElem?_drop] at hx
      exact hx
  have hsz : (winOff win + (winL win l).length) * T.cells ≤ S.cap * T.cells := Nat.mul_le_mul_right _ (by omega)
  rw [Nat.add_mul] at hsz
  refine ⟨(arr.toList.drop (off + winOff win * T.cells)).take ((winL win l).length * T.cells), b, off, arr, E, e1, e2, e3, ⟨?_, fun j x hx => ?_⟩, fun t ht => ?_⟩
  · simp; omega
  · obtain ⟨us, g1, g2⟩ := e4 _ x (hget j x hx)
    refine ⟨us, g1, fun c u hu => ?_⟩
    have hcl : c < T.cells := by rw [← g1.len]; exact lt_of_get hu
    have hj := lt_of_get hx
    have : (j + 1) * T.cells ≤ (winL win l).length * T.cells := Nat.mul_le_mul_right _ (by omega)
    rw [Nat.add_mul, Nat.one_mul] at this
    rw [List.getElem?_take_of_lt (by omega), List.getElem?_drop]
    have := g2 c u hu
    rw [Nat.add_mul] at this
    simp only [Array.getElem?_toList]
    rw [show off + winOff win * T.cells + (j * T.cells + c) = off + (winOff win * T.cells + j * T.cells + c) by omega]
    exact this
  · have ht' : t < (winL win l).length * T.cells := by simp at ht; omega
    rw [List.getElem?_take_of_lt ht', List.getElem?_drop, Array.getElem?_toList]
section
variable {Rt : Type} {env : Nat → Option Callee} {ib : Nat} {o : Oper} {k : Delta → Option Rt} {r : Rt}
theorem winL_le {α : Type} {S : SPl} {n : Nat} {v : Value} {win : Option (Nat × Nat)} {c : List α} (h : WV S n v win) (hn : n = c.length) : winOff win + (winL win c).length ≤ c.length := by
  obtain ⟨_, _, h2, _⟩ := h.open (c := c) hn
  omega
theorem srcA_sound (h : SR w0 B Io R ρ Fr st a w) (hs : Sub s st) {v : Value} {x : AVal} (hv : VA w0 w R ρ v x) {E : Ty} {m : List E.den} (hm : srcA E s x = some m) :
    ∃ A cap L, v = .slice A m.length cap ∧ CellsL w R E L m ∧ (m.length ≠ 0 → 0 < E.cells → ∃ b off, A = some ⟨b, off, none⟩ ∧ ∀ t u, L[t]? = some u → cellAt w b (off + t) = some u) := by
  have own : ∀ {S : SPl} {T : Ty} {l : List T.den} {n : Nat} {win : Option (Nat × Nat)}, SlOwn w R T S l → n = l.length → WV S n v win →
      ∃ A cap L, v = .slice A (winL win l).length cap ∧ CellsL w R T L (winL win l) ∧ ((winL win l).length ≠ 0 → 0 < T.cells → ∃ b off, A = some ⟨b, off, none⟩ ∧ ∀ t u, L[t]? = some u → cellAt w b (off + t) = some u) := by
    intro S T l n win ho hn hw
    obtain ⟨A', q1, q2, q3⟩ := hw.open (c := l) hn
    by_cases h0 : (winL win l).length = 0
    · exact ⟨A', _, [], q1, ⟨by rw [h0]; simp, fun j x hx => by have := lt_of_get hx; omega⟩, fun h => absurd h0 h⟩
    · obtain ⟨L, b, off, arr, E, e1, e2, e3, e4, e5⟩ := ho.win win (by omega) h0
      refine ⟨A', _, L, q1, e4, fun _ _ => ⟨b, off + winOff win * T.cells, ?_, fun t u hu => ?_⟩⟩
      · rw [q3 (by have := ho.2.1; omega), e1, ho.1]; simp [add_none]
      · rw [cellAt_of e2, e5 t (lt_of_get hu)]; exact hu
  unfold srcA at hm
  split at hm
  · cases hm
    exact ⟨none, 0, [], hv, ⟨by simp, fun j x hx => by simp at hx⟩, fun h => absurd rfl h⟩
  · split at hm
    · rename_i V m' hsl
      split at hm
      · rename_i hg
        subst hg
        cases hm
        show ∃ A cap L, v = .slice A m'.length cap ∧ CellsL w R V L m' ∧ _
        unfold slcF at hsl
        split at hsl
        · cases hsl
          obtain ⟨A, cap, h1, h2, h3, h4⟩ := hv
          have h1' : v = .slice A m'.length cap := (List.cons.inj h1).1
          by_cases h0 : m'.length = 0
          · exact ⟨A, cap, [], h1', ⟨by rw [h0]; simp, fun j x hx => by have := lt_of_get hx; omega⟩, fun h => absurd h0 h⟩
          · by_cases hz : 0 < V.cells
            · obtain ⟨b, off, us0, g1, g2, _⟩ := h4 0 _ (List.getElem?_eq_getElem (by omega))
              obtain ⟨L, l1, l2⟩ := exists_list (n := m'.length * V.cells) (p := fun t u => cellAt w b (off + t) = some u) (fun t ht => by
                have hj : t / V.cells < m'.length := Nat.div_lt_of_lt_mul (by rw [Nat.mul_comm]; exact ht)
                obtain ⟨b', off', us, q1, q2, q3, q4, q5⟩ := h4 _ _ (List.getElem?_eq_getElem hj)
                rw [g1] at q1; cases q1
                have hc : t % V.cells < us.length := by rw [q3]; exact Nat.mod_lt _ hz
                have := q5 _ _ (List.getElem?_eq_getElem hc)
                rw [Nat.mul_comm, Nat.div_add_mod] at this
                exact ⟨_, this⟩)
              refine ⟨A, cap, L, h1', ⟨l1, fun j x hx => ?_⟩, fun _ _ => ⟨b, off, g1, l2⟩⟩
              obtain ⟨b', off', us, q1, q2, q3, q4, q5⟩ := h4 j x hx
              rw [g1] at q1; cases q1
              refine ⟨us, q4, fun c u hu => ?_⟩
              have hcl : c < V.cells := by rw [← q3]; exact lt_of_get hu
              have hj := lt_of_get hx
              have hlt : j * V.cells + c < L.length := by
                have : (j + 1) * V.cells ≤ m'.length * V.cells := Nat.mul_le_mul_right _ (by omega)
                rw [Nat.add_mul, Nat.one_mul] at this
                omega
              have e1 := l2 _ _ (List.getElem?_eq_getElem hlt)
              rw [q5 c u hu] at e1
              rw [List.getElem?_eq_getElem hlt]; exact e1.symm
            · have hz : V.cells = 0 := by omega
              exact ⟨A, cap, [], h1', ⟨by rw [hz]; simp, fun j x hx => by
                obtain ⟨b', off', us, q1, q2, q3, q4, q5⟩ := h4 j x hx
                exact ⟨us, q4, fun c u hu => by have := lt_of_get hu; omega⟩⟩, fun _ h => absurd h (by omega)⟩
        · rename_i id row win _
          obtain ⟨S, n, hp, hw⟩ := hv
          split at hsl
          · rename_i T l hob
            obtain ⟨q, hq, hoa⟩ := h.ob id _ (hs.obj hob)
            obtain ⟨S', rfl, hown⟩ := hoa
            split at hsl
            · cases hsl
              rw [hq] at hp; simp only [plS] at hp; cases hp
              exact own hown rfl hw
            · cases hsl
          · rename_i T l hob
            obtain ⟨q, hq, hoa⟩ := h.ob id _ (hs.obj hob)
            obtain ⟨S', rows, rfl, m1, m2, m3, m4, m5, m6⟩ := hoa
            split at hsl
            · cases hsl
            · rename_i i _
              cases hsl
              rw [hq] at hp; simp only [plS] at hp
              split at hp
              · rename_i hi
                have hp' := Option.some.inj hp
                obtain ⟨rfl, rfl⟩ : S = (rows i).1 ∧ n = (rows i).2 := by rw [hp']; exact ⟨rfl, rfl⟩
                obtain ⟨g1, g2⟩ := m4 i _ (List.getElem?_eq_getElem hi)
                have ei : l.getD i [] = l[i] := by simp [List.getD, List.getElem?_eq_getElem hi]
                rw [ei]
                exact own g2 g1 hw
              · cases hp
          · cases hsl
        · cases hsl
      · cases hm
    · cases hm
theorem ok_convert {T U : TypeId} {x : Operand} (h : SR w0 B Io R ρ Fr st a w) (hs : Sub s st) (ho : o.op = .convert T U x) (he : evalOp P env ib s o k = some r) :
    ∃ d, k d = some r ∧ OpOk P w0 B Io Fr ib st a w o d := by
  unfold evalOp at he
  rw [ho] at he
  simp only at he
  have hx := h.evs hs x
  split at he
  · rename_i k1 kd A n hT hU e
    rw [e] at hx
    have hx' : a.eval x = .int A n := hx
    exact ⟨_, he, .pure h (v := .int kd (kd.wrap n)) (by simp [execOp, ho, hx', convert, run_underlying' hT, run_underlying' hU, Conv.intToInt]) (VA.ofC rfl)⟩
  · rename_i _ e hT hU
    split at he
    · rename_i hE
      split at he
      · rename_i l hl
        obtain ⟨A, cap, L, h1, h2, h3⟩ := srcA_sound h hs hx hl
        refine ⟨_, he, .pure h (v := .string (strOfNums l)) ?_ (VA.ofC rfl)⟩
        have hrun : (convert T U (.slice A l.length cap)).run P w = .ok (.string (strOfNums l)) w := by
          cases A with
          | none =>
            have h0 : l.length = 0 := by
              rcases Nat.eq_zero_or_pos l.length with h0 | h0
              · exact h0
              · obtain ⟨b, off, hA, _⟩ := h3 (by omega) (by simp [Ty.cells])
                cases hA
            have : l = [] := List.eq_nil_of_length_eq_zero h0
            subst this
            exact run_convert_bytes_nil w T e hT hE _ _ U hU
          | some A =>
            have hcells : ∀ (j : Nat) v, (l.map (Value.int .u8))[j]? = some v → w.cell? (A.add j) = some v := fun j v hj => by
              simp only [List.getElem?_map, Option.map_eq_some_iff] at hj
              obtain ⟨n, hn, rfl⟩ := hj
              obtain ⟨b, off, hA, hc⟩ := h3 (by have := lt_of_get hn; omega) (by simp [Ty.cells])
              cases hA
              obtain ⟨us, q1, q2⟩ := h2.2 j n hn
              have q1 : us = [.int .u8 n] := q1
              subst q1
              have := q2 0 (.int .u8 n) rfl
              have := hc _ _ this
              simp only [Ty.cells, Nat.mul_one, Nat.add_zero] at this
              rw [add_none]
              exact this
            have hrun := run_loadCells_list (P := P) w A (l.map (Value.int .u8)) hcells
            rw [List.length_map] at hrun
            rw [run_convert_bytes_string w T U e _ _ cap hT hE hU, run_bytesToString w A _ cap l hrun, foldl_push_bytes]
            simp [strOfNums, ByteArray.empty, ByteArray.emptyWithCapacity]
            rfl
        simp only [execOp, ho, h1, Sem.run_bind, hrun, Result.andThen_ok, Sem.run_pure]
      · cases he
    · cases he
  · cases he
theorem run_firstCells' {w : World} {A : Option Addr} {m cap size : Nat} {L : List Value} (hl : L.length = m * size) (h : L.length ≠ 0 → ∃ b off, A = some ⟨b, off, none⟩ ∧ ∀ t u, L[t]? = some u → cellAt w b (off + t) = some u) :
    (Builtin.firstCells size m (.slice A m cap)).run P w = .ok L.toArray w := by
  cases A with
  | none =>
    have : L = [] := by
      by_cases e : L.length = 0
      · exact List.eq_nil_of_length_eq_zero e
      · obtain ⟨b, off, e1, _⟩ := h e; cases e1
    subst this
    simp [Builtin.firstCells]
  | some a =>
    simp only [Builtin.firstCells]
    rw [← hl]
    exact run_loadCells_list w a L (fun j v hv => by
      obtain ⟨b, off, e1, e2⟩ := h (by have := lt_of_get hv; omega)
      cases e1
      rw [add_none]; exact e2 j v hv)
theorem run_append_room' {t ty e : TypeId} {i : TypeInfo} (ht : P.underlying t = some (.slice e)) (hi : P.info? e = some i) {As Ax : Option Addr} {n cap m cx : Nat} {news : List Value}
    (hnew : ∀ w', w'.heap = w.heap → (Builtin.firstCells i.size m (.slice Ax m cx)).run P w' = .ok news.toArray w') (hroom : n + m ≤ cap) {w' : World}
    (hst : (match As with | some a => storeCells (a.add (n * i.size)) news | none => Pure.pure () : Sem Unit).run P w = .ok () w') :
    (Builtin.append_ #[t, t] ty #[.slice As n cap, .slice Ax m cx]).run P w = .ok (.slice As (n + m) cap) w' := by
  have hf := hnew w rfl
  cases As with
  | none =>
    simp at hst; subst hst
    simp [Builtin.append_, run_underlying ht, sizeOf, typeInfo, hi, Builtin.lenOf, hroom, hf]
  | some a =>
    simp at hst
    simp [Builtin.append_, run_underlying ht, sizeOf, typeInfo, hi, Builtin.lenOf, hroom, hf, hst]
theorem run_append_grow' {t ty e : TypeId} {i : TypeInfo} {z : Value} (ht : P.underlying t = some (.slice e)) (hi : P.info? e = some i) (hz : i.zero = some z) {As Ax : Option Addr} {n cap m cx : Nat} {olds news : List Value}
    (hold : ∀ w', w'.heap = w.heap → (Builtin.firstCells i.size n (.slice As n cap)).run P w' = .ok olds.toArray w')
    (hnew : ∀ w', w'.heap = w.heap → (Builtin.firstCells i.size m (.slice Ax m cx)).run P w' = .ok news.toArray w') (hg : cap < n + m) (h63 : ((n + m : Nat) : Int) ≤ 9223372036854775807)
    (hfit : Builtin.nextslicecap (n + m) cap * i.bytes ≤ 281474976710656) :
    (Builtin.append_ #[t, t] ty #[.slice As n cap, .slice Ax m cx]).run P w =
      .ok (.slice (some ⟨w.heap.size, 0, none⟩) (n + m) (grownCap w (n + m) cap e))
        (w.drew.alloc (.cells (olds.toArray ++ news.toArray ++ Builtin.zeroCells z.cells (grownCap w (n + m) cap e - (n + m))) e)) := by
  have hn : ¬ (n + m ≤ cap) := by omega
  have h63' : ¬ (9223372036854775807 < ((n : Int) + (m : Int))) := by omega
  have h48' : ¬ (281474976710656 < Builtin.nextslicecap (n + m) cap * i.bytes) := by omega
  have hf := hnew w.drew rfl
  have hfo := hold w.drew rfl
  simp [Builtin.append_, run_underlying ht, sizeOf, typeInfo, zeroValue, hi, hz, Builtin.lenOf, hn, h63', h48', Question.forced, hf, hfo, newRow, grownCap]
  simp only [← Array.append_assoc, List.append_toArray]
theorem SR.scratch (h : SR w0 B Io R ρ Fr st a w) {b0 : Nat} (hb : ∀ id o p, st.ob id = some o → ρ id = some p → ¬ blkO p b0) (hR : ¬ R b0) (hB : B ≤ b0 ∨ Io b0)
    (hw : ∀ b, b ≠ b0 → w'.heap[b]? = w.heap[b]?) (hz : w'.heap.size = w.heap.size) (hq : Quiet w w') : SR w0 B Io R ρ Fr st a w' := by
  have hs : Same R w w' := fun b hb' => hw b fun e => hR (e ▸ hb')
  refine { size := h.size, dfr := h.dfr, tm := fun t => (h.tm t).mono hs (fun _ hb => hb) (.refl _), ob := fun id o ho => ?_, sep := h.sep, own := ?_, rlt := ?_, frame := ?_, size0 := ?_, fr := h.fr, r0 := h.r0, r1 := h.r1, q := h.q.trans hq, par := h.par, f0 := h.f0 }
  · obtain ⟨p, h1, h2⟩ := h.ob id o ho
    exact ⟨p, h1, h2.mono hs (fun _ hb => hb) (.refl _) (fun b hb' => hw b fun e => hb id o p ho h1 (e ▸ hb'))⟩
  · intro id o p b h1 h2 h3; rw [hz]; exact h.own id o p b h1 h2 h3
  · intro b hb'; rw [hz]; exact h.rlt b hb'
  · intro b hb' hn
    rw [hw b (fun e => by subst e; exact hB.elim (fun h => by omega) hn)]
    exact h.frame b hb' hn
  · rw [hz]; exact h.size0
theorem app_two (st : St) (d : Option Nat) (x : AVal) (i j : Nat) (o o' : Option Obj) :
    st.app d ⟨x, [(i, o), (j, o')]⟩ = ({ st with ob := fun t => if t = j then o' else if t = i then o else st.ob t } : St).put d x := by
  cases d with
  | none => simp [St.app, obUpd, St.put]
  | some d => simp only [St.app, obUpd, St.put]; unfold St.setTm; by_cases hd : d < st.n <;> simp [hd]
theorem app_one' (st : St) (d : Option Nat) (x : AVal) (i : Nat) (o : Option Obj) :
    st.app d ⟨x, [(i, o)]⟩ = ({ st with ob := fun t => if t = i then o else st.ob t } : St).put d x := by
  cases d with
  | none => simp [St.app, obUpd, St.put]
  | some d => simp only [St.app, obUpd, St.put]; unfold St.setTm; by_cases hd : d < st.n <;> simp [hd]
theorem drew_alloc_quiet (w : World) (c : Array Value) (t : TypeId) : Quiet w (w.drew.alloc (.cells c t)) := ⟨rfl, rfl⟩
theorem drew_alloc_grows (w : World) (o : Go.Obj) : Grows w (w.drew.alloc o) := fun b hb => heap_alloc_old w.drew o b hb
theorem elemZero_spec {T e : TypeId} {zs : List AVal} (hu : P.underlying T = some (.slice e)) (h : elemZero P T = some zs) : zeroB P e = some zs := by
  unfold elemZero at h; rw [hu] at h; exact h
theorem appendA_sound {T : TypeId} {x y : Operand} (h : SR w0 B Io R ρ Fr st a w) (hs : Sub s st) (hf : Fr ib) (hrun : ∀ v w', (Builtin.append_ #[T, T] o.type #[a.eval x, a.eval y]).run P w = .ok v w' → (execOp a.eval o).run P w = .ok (.value v) w')
    (he : appendA P T ib s (ev s x) (ev s y) k = some r) : ∃ d, k d = some r ∧ OpOk P w0 B Io Fr ib st a w o d := by
  unfold appendA at he
  split at he
  · rename_i E zs hE hZ
    split at he
    · cases he
    · rename_i hchk
      simp only [Bool.and_eq_true, decide_eq_true_eq] at hchk
      obtain ⟨hby, hE0, hzl⟩ := hchk
      obtain ⟨e, hu, hz⟩ := elemTyS_spec hE
      obtain ⟨i, z, hi, hv, hrel⟩ := zeroB_rel (elemZero_spec hu hZ)
      have hsz : i.size = E.cells := by simpa [sizeB, hi] using hz
      have hby' : i.bytes ≤ 128 := by simpa [elemBytes, hu, bytesB, hi] using hby
      have hzc : z.cells.size = E.cells := by rw [(hrel w0 w R ρ).1, hzl]
      split at he
      · cases he
      · rename_i m hm
        obtain ⟨Ax, cx, L, hy, hL, hLm⟩ := srcA_sound h hs (h.evs hs y) hm
        have hnew : ∀ w', w'.heap = w.heap → (Builtin.firstCells i.size m.length (.slice Ax m.length cx)).run P w' = .ok L.toArray w' := fun w' hw' =>
          run_firstCells' (by rw [hL.1, hsz]) (fun hne => by
            have hm0 : m.length ≠ 0 := fun e => hne (by rw [hL.1, e]; simp)
            obtain ⟨b, off, e1, e2⟩ := hLm hm0 hE0
            refine ⟨b, off, e1, fun t u hu' => ?_⟩
            have := e2 t u hu'
            unfold cellAt World.cell? at this ⊢
            rw [hw']; exact this)
        -- the new row, where there was no room
        have grow : ∀ {As : Option Addr} {cap : Nat} {L1 : List Value} {l1 : List E.den}, a.eval x = .slice As l1.length cap → CellsL w R E L1 l1 →
            (∀ w', w'.heap = w.heap → (Builtin.firstCells i.size l1.length (.slice As l1.length cap)).run P w' = .ok L1.toArray w') → cap < l1.length + m.length → l1.length + m.length ≤ 1099511627776 →
            ∃ v w', (execOp a.eval o).run P w = .ok (.value v) w' ∧ (Grows w w' ∧ Quiet w w') ∧ ∃ S : SPl, v = .slice S.A (l1 ++ m).length S.cap ∧ SlOwn w' R E S (l1 ++ m) ∧ ∀ b, S.blk b → b = w.heap.size ∧ b < w'.heap.size := by
          intro As cap L1 l1 hx hL1 hold hg hb
          have hfit : Builtin.nextslicecap (l1.length + m.length) cap * i.bytes ≤ 281474976710656 := growslice_fits hg (by
            have : (l1.length + m.length) * i.bytes ≤ 1099511627776 * 128 := Nat.mul_le_mul hb hby'
            omega)
          have hr := run_append_grow' (P := P) (ty := o.type) hu hi hv hold hnew hg (by omega) hfit
          rw [← hx, ← hy] at hr
          have hge := grownCap_ge w (l1.length + m.length) cap e
          have hgr := drew_alloc_grows w (.cells (L1.toArray ++ L.toArray ++ Builtin.zeroCells z.cells (grownCap w (l1.length + m.length) cap e - (l1.length + m.length))) e)
          refine ⟨_, _, hrun _ _ hr, ⟨hgr, drew_alloc_quiet _ _ _⟩, ⟨some ⟨w.heap.size, 0, none⟩, grownCap w (l1.length + m.length) cap e, E.cells⟩, by simp, ?_, fun b hb => ?_⟩
          · refine SlOwn.ofCells rfl (by simpa using hge) rfl (heap_alloc_new w.drew _) ?_ ((hL1.append hL).mono (fun b hb => hgr b (h.rlt b hb)) (fun _ hb => hb)) (fun t ht => ?_)
            · simp only [Array.size_append, List.size_toArray, size_zeroCells, hzc, hL1.1, hL.1, ← Nat.add_mul]
              rw [Nat.zero_add]
              exact Nat.mul_le_mul_right _ (by omega)
            · have ht' : t < (L1.toArray ++ L.toArray).size := by simpa using ht
              rw [Nat.zero_add, Array.getElem?_append_left ht']
              simp
          · obtain ⟨_, off, e1⟩ := hb; cases e1
            exact ⟨rfl, by simp⟩
        split at he
        · rename_i ex
          have hxn := h.evs hs x; rw [ex] at hxn
          have hxn : a.eval x = .slice none 0 0 := hxn
          by_cases hb : m.length ≤ 1099511627776
          · simp only [hb, decide_true, cond_true] at he
            by_cases hm0 : m.length = 0
            · have hr := run_append_room' (P := P) (w := w) (As := none) (n := 0) (cap := 0) (ty := o.type) hu hi hnew (by omega) (w' := w) (by simp)
              rw [← hxn, ← hy] at hr
              refine ⟨_, he, .value (hrun _ _ hr) ⟨R, fun i => if i = ib then some (.sl ⟨none, 0, E.cells⟩ 0) else ρ i, ?_⟩⟩
              rw [app_one']
              have hm' : m = [] := List.eq_nil_of_length_eq_zero hm0
              subst hm'
              refine ((h.new hf (o := .sl E []) (p := .sl ⟨none, 0, E.cells⟩ 0) ⟨_, rfl, rfl, by simp, fun h => absurd rfl h⟩ (fun b hb => absurd rfl hb.1) (fun _ _ _ b _ _ hb => absurd rfl hb.1)).put o.dst (v := .slice none 0 0) (x := .sref ib none none) (VA.ofC ⟨⟨none, 0, E.cells⟩, 0, by simp [plS], rfl⟩)).weaken (fun i hi => own_ne hi)
            · obtain ⟨v, w', h1, h2, S, h3, h4, h5⟩ := grow (As := none) (cap := 0) (L1 := []) (l1 := []) hxn ⟨by simp, fun j x hx => by simp at hx⟩ (fun w' _ => run_firstCells' (by simp) (fun h => absurd rfl h)) (by simp; omega) (by simpa using hb)
              simp only [List.nil_append] at h3 h4
              refine ⟨_, he, .value h1 ⟨R, fun i => if i = ib then some (.sl S m.length) else ρ i, ?_⟩⟩
              rw [app_one']
              refine (((h.grow h2.1 h2.2).new hf (o := .sl E m) (p := .sl S m.length) ⟨S, rfl, h4⟩ (fun b hb => ?_) (fun id' o' p' b g1 g2 g3 g4 => ?_)).put o.dst (v := v) (x := .sref ib none none) (VA.ofC ⟨S, m.length, by simp [plS], h3⟩)).weaken (fun i hi => own_ne hi)
              · obtain ⟨e1, e2⟩ := h5 b hb
                refine ⟨e2, fun hR => ?_, Or.inl ?_⟩
                · have := h.rlt b hR; omega
                · rw [e1]; exact h.size0
              · obtain ⟨e1, _⟩ := h5 b g3
                have := (h.own id' o' p' b g1 g2 g4).1
                omega
          · simp [hb] at he
        · rename_i id win ex
          have hxv := h.evs hs x; rw [ex] at hxv
          obtain ⟨S, n, hp, hw⟩ := hxv
          split at he
          · rename_i U l hob
            have hob' := hs.obj hob
            split at he
            · rename_i hUE
              subst hUE
              show ∃ d, k d = some r ∧ _
              simp only [Ty.castL] at he
              obtain ⟨q, hq, hoa⟩ := h.ob id _ hob'
              obtain ⟨S', rfl, hown⟩ := hoa
              rw [hq] at hp; simp only [plS] at hp; cases hp
              have hwl := winL_le hw (c := l) rfl
              obtain ⟨A', x1, x2, x3⟩ := hw.open (c := l) rfl
              by_cases hb : (winL win l).length + m.length ≤ 1099511627776
              · simp only [hb, decide_true, cond_true] at he
                have hidib : id ≠ ib := fun e => by subst e; rw [h.fr id hf] at hq; cases hq
                have hdel := h.del id
                have hfree : ∀ b, S.blk b → ∀ id' o' p', ({ st with ob := fun i => if i = id then none else st.ob i } : St).ob id' = some o' → ρ id' = some p' → ¬ blkO p' b := by
                  intro b hb' id' o' p' g1 g2 g3
                  by_cases e : id' = id
                  · simp [e] at g1
                  · simp only [e, if_false] at g1
                    exact h.sep id' o' id _ p' _ b e g1 hob' g2 hq g3 hb'
                -- the cells that there are
                have hL1 : ∃ L1, CellsL w R U L1 (winL win l) ∧ (∀ w', w'.heap = w.heap → (Builtin.firstCells i.size (winL win l).length (.slice A' (winL win l).length (S.cap - winOff win))).run P w' = .ok L1.toArray w') ∧
                    (∀ b off arr E', S.A = some ⟨b, off, none⟩ → w.heap[b]? = some (.cells arr E' (0, 0)) → ∀ t, t < L1.length → arr[off + winOff win * U.cells + t]? = L1[t]?) := by
                  by_cases h0 : (winL win l).length = 0
                  · exact ⟨[], ⟨by rw [h0]; simp, fun j x hx => by have := lt_of_get hx; omega⟩, fun w' _ => run_firstCells' (by rw [h0]; simp) (fun h => absurd rfl h), fun _ _ _ _ _ _ t ht => by simp at ht⟩
                  · obtain ⟨L1, b, off, arr, E', e1, e2, e3, e4, e5⟩ := hown.win win hwl h0
                    refine ⟨L1, e4, fun w' hw' => run_firstCells' (by rw [e4.1, hsz]) (fun _ => ⟨b, off + winOff win * U.cells, ?_, fun t u hu' => ?_⟩), fun b' off' arr' E'' g1 g2 t ht => ?_⟩
                    · rw [x3 (by have := hown.2.1; omega), e1, hown.1]; simp [add_none]
                    · have : cellAt w b (off + winOff win * U.cells + t) = some u := by rw [cellAt_of e2, e5 t (lt_of_get hu')]; exact hu'
                      unfold cellAt World.cell? at this ⊢
                      rw [hw']; exact this
                    · rw [e1] at g1; cases g1
                      rw [e2] at g2; cases g2
                      exact e5 t ht
                obtain ⟨L1, hL1c, hold, hL1a⟩ := hL1
                by_cases hroom : (winL win l).length + m.length ≤ S.cap - winOff win
                · -- there is room
                  let S2 : SPl := ⟨A', S.cap - winOff win, U.cells⟩
                  by_cases hm0 : m.length = 0
                  · have hLn : L = [] := List.eq_nil_of_length_eq_zero (by rw [hL.1, hm0]; simp)
                    have hm' : m = [] := List.eq_nil_of_length_eq_zero hm0
                    subst hm'
                    subst hLn
                    have hr := run_append_room' (P := P) (w := w) (As := A') (ty := o.type) hu hi hnew hroom (w' := w) (by cases A' <;> simp [storeCells])
                    rw [← x1, ← hy] at hr
                    refine ⟨_, he, .value (hrun _ _ hr) ⟨R, fun i => if i = ib then some (.sl S2 (winL win l ++ []).length) else ρ i, ?_⟩⟩
                    rw [app_two]
                    refine ((hdel.new hf (o := .sl U (winL win l ++ [])) (p := .sl S2 (winL win l ++ []).length) ⟨S2, rfl, ?_⟩ (fun b hb => ?_) (fun id' o' p' b g1 g2 g3 g4 => ?_)).put o.dst (v := .slice A' ((winL win l).length + ([] : List U.den).length) (S.cap - winOff win)) (x := .sref ib none none) (VA.ofC ⟨S2, (winL win l ++ []).length, by simp [plS], by simp [WV, S2]⟩)).weaken (fun i hi => own_ne hi)
                    · rw [List.append_nil]
                      refine ⟨rfl, by simpa [S2] using hroom, fun hc => ?_⟩
                      have hc' : S.cap ≠ 0 := by simp [S2] at hc; omega
                      obtain ⟨b, off, arr, E', e1, e2, e3, e4⟩ := hown.2.2 hc'
                      have hcells := SlOwn.ofCells (w := w) (R := R) (S := S2) (l := winL win l) (L := L1) (b := b) (off := off + winOff win * U.cells) (arr := arr) (E := E') rfl (by simpa [S2] using hroom)
                        (by simp only [S2]; rw [x3 (by simp [S2] at hc; omega), e1, hown.1]; simp [add_none]) e2 (by
                          have : winOff win * U.cells + (S.cap - winOff win) * U.cells = S.cap * U.cells := by rw [← Nat.add_mul]; congr 1; simp [S2] at hc; omega
                          simp only [S2]; omega) hL1c (hL1a b off arr E' e1 e2)
                      exact hcells.2.2 hc
                    · obtain ⟨hc, off, e1⟩ := hb
                      have hc' : winOff win < S.cap := by simp [S2] at hc; omega
                      have : S.blk b := by
                        obtain ⟨b', off', arr, E', e1', _⟩ := hown.2.2 (by omega)
                        refine ⟨by omega, off', ?_⟩
                        simp only [S2] at e1
                        rw [x3 hc', e1'] at e1
                        simp [add_none] at e1
                        rw [e1', e1.1]
                      exact h.own id _ _ b hob' hq this
                    · obtain ⟨hc, off, e1⟩ := g3
                      have hc' : winOff win < S.cap := by simp [S2] at hc; omega
                      have : S.blk b := by
                        obtain ⟨b', off', arr, E', e1', _⟩ := hown.2.2 (by omega)
                        refine ⟨by omega, off', ?_⟩
                        simp only [S2] at e1
                        rw [x3 hc', e1'] at e1
                        simp [add_none] at e1
                        rw [e1', e1.1]
                      exact hfree b this id' o' p' g1 g2 g4
                  · have hc' : winOff win < S.cap := by omega
                    obtain ⟨b, off, arr, E', e1, e2, e3, e4⟩ := hown.2.2 (by omega)
                    have hA' : A' = some ⟨b, off + winOff win * U.cells, none⟩ := by rw [x3 hc', e1, hown.1]; simp [add_none]
                    have hcap : winOff win * U.cells + (S.cap - winOff win) * U.cells = S.cap * U.cells := by rw [← Nat.add_mul]; congr 1; omega
                    have hmul : ((winL win l).length + m.length) * U.cells ≤ (S.cap - winOff win) * U.cells := Nat.mul_le_mul_right _ hroom
                    rw [Nat.add_mul] at hmul
                    have hq0 : off + winOff win * U.cells + (winL win l).length * U.cells + L.length ≤ arr.size := by rw [hL.1]; omega
                    have hst := run_storeCells_at P b (off + winOff win * U.cells + (winL win l).length * U.cells) E' L 0 arr w e2 (by simpa using hq0) hL.one
                    simp only [Nat.add_zero] at hst
                    have hr := run_append_room' (P := P) (w := w) (As := A') (ty := o.type) hu hi hnew hroom (w' := w.setRow b (patch arr.toList (off + winOff win * U.cells + (winL win l).length * U.cells) L).toArray) (by
                      rw [hA']
                      simp only [add_none, hsz]
                      simpa [patch] using hst)
                    rw [← x1, ← hy] at hr
                    have hpg := patch_get (L := arr.toList) (q := off + winOff win * U.cells + (winL win l).length * U.cells) (vs := L) (by simpa using hq0)
                    have hblk : S.blk b := ⟨by omega, off, e1⟩
                    have hownb := h.own id _ _ b hob' hq hblk
                    have hscr := hdel.scratch (w' := w.setRow b (patch arr.toList (off + winOff win * U.cells + (winL win l).length * U.cells) L).toArray) (b0 := b) (fun id' o' p' g1 g2 => hfree b hblk id' o' p' g1 g2) hownb.2.1 hownb.2.2
                      (fun b' hb' => setRow_other w b b' _ hb') (setRow_size _ _ _) (setRow_quiet _ _ _)
                    have hsame : Same R w (w.setRow b (patch arr.toList (off + winOff win * U.cells + (winL win l).length * U.cells) L).toArray) := fun b' hb' => setRow_other w b b' _ (fun e => hownb.2.1 (e ▸ hb'))
                    refine ⟨_, he, .value (hrun _ _ hr) ⟨R, fun i => if i = ib then some (.sl S2 (winL win l ++ m).length) else ρ i, ?_⟩⟩
                    rw [app_two]
                    refine ((hscr.new hf (o := .sl U (winL win l ++ m)) (p := .sl S2 (winL win l ++ m).length) ⟨S2, rfl, ?_⟩ (fun b' hb' => ?_) (fun id' o' p' b' g1 g2 g3 g4 => ?_)).put o.dst (v := .slice A' ((winL win l).length + m.length) (S.cap - winOff win)) (x := .sref ib none none) (VA.ofC ⟨S2, (winL win l ++ m).length, by simp [plS], by simp [WV, S2]⟩)).weaken (fun i hi => own_ne hi)
                    · refine SlOwn.ofCells (b := b) (off := off + winOff win * U.cells) (L := L1 ++ L) rfl (by simpa [S2] using hroom) hA' (setRow_heap w b arr _ E' _ e2) ?_ ((hL1c.append hL).mono hsame (fun _ hb => hb)) (fun t ht => ?_)
                      · rw [List.size_toArray, patch_length (by simpa using hq0)]
                        simp only [S2, Array.length_toList]; omega
                      · rw [List.getElem?_toArray, hpg]
                        rw [List.length_append, hL1c.1] at ht
                        by_cases ht1 : t < (winL win l).length * U.cells
                        · rw [if_neg (by omega), List.getElem?_append_left (by rw [hL1c.1]; exact ht1)]
                          have := hL1a b off arr E' e1 e2 t (by rw [hL1c.1]; exact ht1)
                          simpa using this
                        · rw [if_pos (by omega), List.getElem?_append_right (by rw [hL1c.1]; omega), hL1c.1]
                          congr 1; omega
                    · obtain ⟨_, off', q1⟩ := hb'
                      simp only [S2] at q1
                      rw [hA'] at q1; cases q1
                      rw [setRow_size]; exact hownb
                    · obtain ⟨_, off', q1⟩ := g3
                      simp only [S2] at q1
                      rw [hA'] at q1; cases q1
                      exact hfree _ hblk id' o' p' g1 g2 g4
                · obtain ⟨v, w', h1, h2, S2, h3, h4, h5⟩ := grow x1 hL1c hold (by omega) hb
                  refine ⟨_, he, .value h1 ⟨R, fun i => if i = ib then some (.sl S2 (winL win l ++ m).length) else ρ i, ?_⟩⟩
                  rw [app_two]
                  refine (((hdel.grow h2.1 h2.2).new hf (o := .sl U (winL win l ++ m)) (p := .sl S2 (winL win l ++ m).length) ⟨S2, rfl, h4⟩ (fun b hb => ?_) (fun id' o' p' b g1 g2 g3 g4 => ?_)).put o.dst (v := v) (x := .sref ib none none) (VA.ofC ⟨S2, _, by simp [plS], h3⟩)).weaken (fun i hi => own_ne hi)
                  · obtain ⟨e1, e2⟩ := h5 b hb
                    refine ⟨e2, fun hR => ?_, Or.inl ?_⟩
                    · have := h.rlt b hR; omega
                    · rw [e1]; exact h.size0
                  · obtain ⟨e1, _⟩ := h5 b g3
                    have := (hdel.own id' o' p' b g1 g2 g4).1
                    omega
              · simp [hb] at he
            · cases he
          · cases he
        · cases he
  · cases he
theorem ok_append {c : Call} (h : SR w0 B Io R ρ Fr st a w) (hs : Sub s st) (hf : Fr ib) (ho : o.op = .call c) (hc : c.callee = .builtin .append) (he : evalOp P env ib s o k = some r) :
    ∃ d, k d = some r ∧ OpOk P w0 B Io Fr ib st a w o d := by
  unfold evalOp at he
  rw [ho] at he
  simp only [hc] at he
  split at he
  · rename_i x y T T' hx ht
    have hargs : c.args = #[x, y] := by rw [← Array.toArray_toList (xs := c.args), hx]
    have htys : c.argTypes = #[T, T'] := by rw [← Array.toArray_toList (xs := c.argTypes), ht]
    split at he
    · rename_i hT
      have hT := of_decide_eq_true hT
      subst hT
      exact appendA_sound h hs hf (fun v w' hr => by simp [execOp, ho, resolve, hc, invoke, builtin, hargs, htys, hr]) he
    · cases he
  · cases he
end
variable {P : Program} {w0 : W0} {gw : W0} {w w' : World} {B : Nat} {Io R R2 : Nat → Prop} {ρ : Nat → Option Pl} {Fr : Nat → Prop} {st s : St} {a : Act}
def CT (w : World) (R : Nat → Prop) (v : Value) (S : Nat → Prop) : AVal → Prop
  | .osl T l => ∃ Sp : SPl, v = .slice Sp.A l.length Sp.cap ∧ SlOwn w R T Sp l ∧ ∀ b, Sp.blk b → S b
  | .omat T l => ∃ Sp rows, v = .slice Sp.A l.length Sp.cap ∧ (∀ w0 : W0, OA w0 w R (fun _ => none) (.mat Sp l.length rows) (.mat T l)) ∧ ∀ b, blkO (.mat Sp l.length rows) b → S b
  | x => RA w R v x
def CTs (w : World) (R : Nat → Prop) (vs : Nat → Option Value) (cs : List AVal) (S : Nat → Prop) : Prop :=
  ∃ Ss : Nat → Nat → Prop, (∀ (i : Nat) x, cs[i]? = some x → ∃ u, vs i = some u ∧ CT w R u (Ss i) x) ∧ (∀ i j b, i ≠ j → Ss i b → Ss j b → False) ∧ ∀ i b, Ss i b → S b
def GLe (gw w0 : W0) : Prop := (∀ v ts c, RP gw v ts c → RP w0 v ts c) ∧ ∀ v f ts, RF gw v f ts → RF w0 v f ts
theorem GLe.refl (w0 : W0) : GLe w0 w0 := ⟨fun _ _ _ h => h, fun _ _ _ h => h⟩
def gnil (w : World) : W0 := ⟨w, fun _ => False, fun _ => none, fun _ => False⟩
theorem GLe.nil (w : World) (w0 : W0) : GLe (gnil w) w0 := ⟨fun v ts c h => by obtain ⟨_, _, _, h, _⟩ := h; exact h.elim, fun v f ts h => by
  obtain ⟨us, h1, h2, h3⟩ := h
  refine ⟨us, h1, h2, fun i u t hu ht => ?_⟩
  have := h3 i u t hu ht
  cases this⟩
def AT (gw : W0) (w : World) (R : Nat → Prop) (v : Value) (S : Nat → Prop) : AVal → Prop
  | .agg cs => ∃ us : Array Value, v = .agg us ∧ us.size = cs.length ∧ CTs w R (fun i => us[i]?) cs S
  | .obox cs => ∃ b off arr E, v = .pointer (some ⟨b, off, none⟩) ∧ w.heap[b]? = some (.cells arr E (0, 0)) ∧ S b ∧ ∃ S', CTs w R (fun i => arr[off + i]?) cs S' ∧ ¬ S' b ∧ ∀ b', S' b' → S b'
  | .undef => True      -- given up
  | .rptr ts c => RP gw v ts c
  | .cfn f ts => RF gw v f ts
  | x => CT w R v S x
theorem ct_ra {v : Value} {S : Nat → Prop} (x : AVal) (h1 : ∀ T l, x ≠ .osl T l) (h2 : ∀ T l, x ≠ .omat T l) : CT w R v S x = RA w R v x := by
  cases x <;> first | rfl | exact absurd rfl (h1 _ _) | exact absurd rfl (h2 _ _)
theorem at_ct {v : Value} {S : Nat → Prop} (x : AVal) (h1 : ∀ cs, x ≠ .agg cs) (h2 : ∀ cs, x ≠ .obox cs) (h3 : x ≠ .undef) (h4 : ∀ ts c, x ≠ .rptr ts c) (h5 : ∀ f ts, x ≠ .cfn f ts) : AT gw w R v S x = CT w R v S x := by
  cases x <;> first | rfl | exact absurd rfl (h1 _) | exact absurd rfl (h2 _) | exact absurd rfl h3 | exact absurd rfl (h4 _ _) | exact absurd rfl (h5 _ _)
theorem RA.ct {v : Value} {S : Nat → Prop} {x : AVal} (h : RA w R v x) : CT w R v S x := by
  cases x <;> first | exact h | (simp only [RA] at h)
theorem CT.mono (hs : Same R w w') (hr : ∀ b, R b → R2 b) {v : Value} {S : Nat → Prop} {x : AVal} (hS : ∀ b, S b → w'.heap[b]? = w.heap[b]?) (h : CT w R v S x) : CT w' R2 v S x := by
  cases x
  case osl =>
    obtain ⟨Sp, h1, h2, h3⟩ := h
    exact ⟨Sp, h1, h2.mono hs hr (fun b hb => hS b (h3 b hb)), h3⟩
  case omat =>
    obtain ⟨Sp, rows, h1, h2, h3⟩ := h
    exact ⟨Sp, rows, h1, fun w0 => (h2 w0).mono hs hr (.refl _) (fun b hb => hS b (h3 b hb)), h3⟩
  all_goals
    rw [ct_ra _ (by simp) (by simp)] at h ⊢
    exact RA.mono hs hr h
theorem CT.sub {v : Value} {S S' : Nat → Prop} {x : AVal} (hS : ∀ b, S b → S' b) (h : CT w R v S x) : CT w R v S' x := by
  cases x <;> first
    | exact h
    | skip
  · obtain ⟨Sp, h1, h2, h3⟩ := h
    exact ⟨Sp, h1, h2, fun b hb => hS b (h3 b hb)⟩
  · obtain ⟨Sp, rows, h1, h2, h3⟩ := h
    exact ⟨Sp, rows, h1, h2, fun b hb => hS b (h3 b hb)⟩
theorem CTs.mono (hs : Same R w w') (hr : ∀ b, R b → R2 b) {vs : Nat → Option Value} {S : Nat → Prop} {cs : List AVal} (hS : ∀ b, S b → w'.heap[b]? = w.heap[b]?) (h : CTs w R vs cs S) : CTs w' R2 vs cs S := by
  obtain ⟨Ss, h1, h2, h3⟩ := h
  refine ⟨Ss, fun i x hx => ?_, h2, h3⟩
  obtain ⟨u, g1, g2⟩ := h1 i x hx
  exact ⟨u, g1, g2.mono hs hr (fun b hb => hS b (h3 i b hb))⟩
theorem AT.mono (hs : Same R w w') (hr : ∀ b, R b → R2 b) {v : Value} {S : Nat → Prop} {x : AVal} (hS : ∀ b, S b → w'.heap[b]? = w.heap[b]?) (h : AT gw w R v S x) : AT gw w' R2 v S x := by
  cases x
  case agg =>
    obtain ⟨us, h1, h2, h3⟩ := h
    exact ⟨us, h1, h2, h3.mono hs hr hS⟩
  case obox =>
    obtain ⟨b, off, arr, E, h1, h2, h3, S', h4, h5, h6⟩ := h
    exact ⟨b, off, arr, E, h1, by rw [hS b h3]; exact h2, h3, S', h4.mono hs hr (fun b' hb' => hS b' (h6 b' hb')), h5, h6⟩
  case undef => exact trivial
  case rptr => exact h
  case cfn => exact h
  all_goals
    rw [at_ct _ (by simp) (by simp) (by simp) (by simp) (by simp)] at h ⊢
    exact CT.mono hs hr hS h
theorem SlOwn.window {T : Ty} {S : SPl} {l : List T.den} {v : Value} {win : Option (Nat × Nat)} {n : Nat} (h : SlOwn w R T S l) (hn : n = l.length) (hw : WV S n v win) :
    ∃ S' : SPl, v = .slice S'.A (winL win l).length S'.cap ∧ SlOwn w R T S' (winL win l) ∧ ∀ b, S'.blk b → S.blk b := by
  obtain ⟨A', q1, q2, q3⟩ := hw.open (c := l) hn
  have hwl := winL_le hw (c := l) hn
  obtain ⟨h1, h2, h3⟩ := h
  refine ⟨⟨A', S.cap - winOff win, S.st⟩, q1, ⟨h1, by show _ ≤ S.cap - winOff win; omega, fun hc => ?_⟩, fun b hb => ?_⟩
  · have hc : S.cap - winOff win ≠ 0 := hc
    obtain ⟨b, off, arr, E, e1, e2, e3, e4⟩ := h3 (by omega)
    have hcap : winOff win * T.cells + (S.cap - winOff win) * T.cells = S.cap * T.cells := by rw [← Nat.add_mul]; congr 1; omega
    refine ⟨b, off + winOff win * T.cells, arr, E, ?_, e2, ?_, fun j x hx => ?_⟩
    · show A' = _
      rw [q3 (by omega), e1, h1]; simp [add_none]
    · show off + winOff win * T.cells + (S.cap - winOff win) * T.cells ≤ arr.size
      omega
    · have hx' : l[winOff win + j]? = some x := by
        cases win with
        | none => simpa [winL, winOff] using hx
        | some p =>
          obtain ⟨o', n'⟩ := p
          simp only [winL, winOff] at hx ⊢
          have hj := lt_of_get hx
          rw [List.getElem?_take_of_lt (by simp at hj; omega), List.getElem?_drop] at hx
          exact hx
      obtain ⟨us, g1, g2⟩ := e4 _ x hx'
      refine ⟨us, g1, fun c u hu => ?_⟩
      have := g2 c u hu
      rw [Nat.add_mul] at this
      rw [show off + winOff win * T.cells + (j * T.cells + c) = off + (winOff win * T.cells + j * T.cells + c) by omega]
      exact this
  · obtain ⟨hc, off, e⟩ := hb
    have hc : S.cap - winOff win ≠ 0 := hc
    have e : A' = _ := e
    obtain ⟨b', off', arr, E, e1, _⟩ := h3 (by omega)
    rw [q3 (by omega), e1] at e
    simp [add_none] at e
    exact ⟨by omega, off', by rw [e1, e.1]⟩
theorem SlOwn.toRT {T : Ty} {S : SPl} {l : List T.den} (h : SlOwn w R T S l) (hr : ∀ b, R b → R2 b) (hb : ∀ b, S.blk b → R2 b) : RT w R2 (.slice T) [.slice S.A l.length S.cap] l := by
  obtain ⟨h1, h2, h3⟩ := h
  refine ⟨S.A, S.cap, rfl, h2, fun hA => ?_, fun i x hx => ?_⟩
  · by_cases hc : S.cap = 0
    · exact hc
    · obtain ⟨b, off, arr, E, e1, _⟩ := h3 hc
      rw [e1] at hA; cases hA
  · have hc : S.cap ≠ 0 := by have := lt_of_get hx; omega
    obtain ⟨b, off, arr, E, e1, e2, e3, e4⟩ := h3 hc
    obtain ⟨us, g1, g2⟩ := e4 i x hx
    exact ⟨b, off, us, e1, hb b ⟨hc, off, e1⟩, g1.len, g1.mono (.refl _ _) hr, fun c u hu => by rw [cellAt_of e2]; exact g2 c u hu⟩
theorem mat_toRT {T : Ty} {S : SPl} {rows : Nat → SPl × Nat} {l : List (List T.den)} (h : OA w0 w R ρ (.mat S l.length rows) (.mat T l)) (hr : ∀ b, R b → R2 b) (hb : ∀ b, blkO (.mat S l.length rows) b → R2 b) {v : Value} {win : Option (Nat × Nat)} (hw : WV S l.length v win) :
    RT w R2 (.slice (.slice T)) [v] (winL win l) := by
  obtain ⟨S', rows', e, m1, m2, m3, m4, m5, m6⟩ := h
  cases e
  obtain ⟨A', q1, q2, q3⟩ := hw.open (c := l) rfl
  refine ⟨A', S.cap - winOff win, by rw [q1], by omega, fun hA => ?_, fun i x hx => ?_⟩
  · by_cases hc : winOff win < S.cap
    · obtain ⟨b, off, arr, E, e1, _⟩ := m3 (by omega)
      rw [q3 hc, e1] at hA; cases hA
    · omega
  · have hx' : l[winOff win + i]? = some x := by
      cases win with
      | none => simpa [winL, winOff] using hx
      | some p =>
        obtain ⟨o', n'⟩ := p
        simp only [winL, winOff] at hx ⊢
        have hj := lt_of_get hx
        rw [List.getElem?_take_of_lt (by simp at hj; omega), List.getElem?_drop] at hx
        exact hx
    have hlt := lt_of_get hx'
    obtain ⟨b, off, arr, E, e1, e2, e3, e4⟩ := m3 (by omega)
    obtain ⟨g1, g2⟩ := m4 _ x hx'
    have hrow := g2.toRT hr (fun b' hb' => hb b' (Or.inr ⟨_, hlt, hb'⟩))
    refine ⟨b, off + winOff win, [.slice (rows (winOff win + i)).1.A x.length (rows (winOff win + i)).1.cap], ?_, hb b (Or.inl ⟨by omega, off, e1⟩), rfl, hrow, fun c u hu => ?_⟩
    · rw [q3 (by omega), e1, m1]; simp [add_none]
    · match c with
      | 0 =>
        simp at hu; subst hu
        rw [cellAt_of e2]
        have := e4 _ x hx'
        rw [show off + winOff win + (i * Ty.cells (.slice T) + 0) = off + (winOff win + i) by simp [Ty.cells]; omega]
        exact this
      | c + 1 => simp at hu
def cellBlk (ρ : Nat → Option Pl) (x : AVal) (b : Nat) : Prop :=
  match x with
  | .sref id row _ => match row with
    | none => ∃ p, ρ id = some p ∧ blkO p b
    | some _ => ∃ S n, plS (ρ id) row = some (S, n) ∧ S.blk b
  | _ => False
theorem resCell_own (h : SR w0 B Io R ρ Fr st a w) {v : Value} {x y : AVal} (hv : CA w0 w R ρ v x) (he : resCell st true x = some y) : CT w R v (cellBlk ρ x) y := by
  cases x <;> simp only [resCell] at he
  all_goals first
    | (cases he; done)
    | (cases he; exact RA.ct hv)
    | skip
  rename_i id row win
  obtain ⟨S, n, hp, hw⟩ := hv
  split at he
  · rename_i T l hob
    obtain ⟨q, hq, hoa⟩ := h.ob id _ hob
    obtain ⟨S', rfl, hown⟩ := hoa
    split at he
    · cases he
      rw [hq] at hp; simp only [plS] at hp; cases hp
      obtain ⟨S2, g1, g2, g3⟩ := hown.window rfl hw
      exact ⟨S2, g1, g2, fun b hb => ⟨_, hq, g3 b hb⟩⟩
    · cases he
  · rename_i T l hob
    obtain ⟨q, hq, hoa⟩ := h.ob id _ hob
    have hoa0 := hoa
    obtain ⟨S', rows, rfl, m1, m2, m3, m4, m5, m6⟩ := hoa
    split at he
    · split at he
      · cases he
        rw [hq] at hp; simp only [plS] at hp; cases hp
        exact ⟨S, rows, hw, fun _ => ⟨S, rows, rfl, m1, m2, m3, m4, m5, m6⟩, fun b hb => ⟨_, hq, hb⟩⟩
      · cases he
    · rename_i i
      cases he
      have hp0 := hp
      rw [hq] at hp; simp only [plS] at hp
      split at hp
      · rename_i hi
        have hp' := Option.some.inj hp
        obtain ⟨rfl, rfl⟩ : S = (rows i).1 ∧ n = (rows i).2 := by rw [hp']; exact ⟨rfl, rfl⟩
        obtain ⟨g1, g2⟩ := m4 i _ (List.getElem?_eq_getElem hi)
        have ei : l.getD i [] = l[i] := by simp [List.getD, List.getElem?_eq_getElem hi]
        rw [ei]
        obtain ⟨S2, q1, q2, q3⟩ := g2.window g1 hw
        exact ⟨S2, q1, q2, fun b hb => ⟨_, _, hp0, q3 b hb⟩⟩
      · cases hp
  · cases he
theorem resCell_ro (h : SR w0 B Io R ρ Fr st a w) {v : Value} {x y : AVal} (hv : CA w0 w R ρ v x) (he : resCell st false x = some y) (hr : ∀ b, R b → R2 b) (hb : ∀ b, cellBlk ρ x b → R2 b) : RA w R2 v y := by
  cases x <;> simp only [resCell] at he
  all_goals first
    | (cases he; done)
    | (cases he; exact RA.mono (.refl _ _) hr hv)
    | skip
  rename_i id row win
  obtain ⟨S, n, hp, hw⟩ := hv
  split at he
  · rename_i T c hf
    cases he
    unfold full at hf
    split at hf
    · rename_i T l hob
      obtain ⟨q, hq, hoa⟩ := h.ob id _ hob
      obtain ⟨S', rfl, hown⟩ := hoa
      split at hf
      · cases hf
        rw [hq] at hp; simp only [plS] at hp; cases hp
        obtain ⟨S2, g1, g2, g3⟩ := hown.window rfl hw
        show RT _ _ _ _ _
        rw [g1]
        exact g2.toRT hr (fun b hb' => hb b ⟨_, hq, g3 b hb'⟩)
      · cases hf
    · rename_i T l hob
      obtain ⟨q, hq, hoa⟩ := h.ob id _ hob
      have hoa0 := hoa
      obtain ⟨S', rows, rfl, m1, m2, m3, m4, m5, m6⟩ := hoa
      split at hf
      · cases hf
        rw [hq] at hp; simp only [plS] at hp; cases hp
        exact mat_toRT hoa0 hr (fun b hb' => hb b ⟨_, hq, hb'⟩) hw
      · rename_i i
        cases hf
        have hp0 := hp
        rw [hq] at hp; simp only [plS] at hp
        split at hp
        · rename_i hi
          have hp' := Option.some.inj hp
          obtain ⟨rfl, rfl⟩ : S = (rows i).1 ∧ n = (rows i).2 := by rw [hp']; exact ⟨rfl, rfl⟩
          obtain ⟨g1, g2⟩ := m4 i _ (List.getElem?_eq_getElem hi)
          have ei : l.getD i [] = l[i] := by simp [List.getD, List.getElem?_eq_getElem hi]
          rw [ei]
          obtain ⟨S2, q1, q2, q3⟩ := g2.window g1 hw
          show RT _ _ _ _ _
          rw [q1]
          exact q2.toRT hr (fun b hb' => hb b ⟨_, _, hp0, q3 b hb'⟩)
        · cases hp
    · cases hf
  · cases he
variable {P : Program} {w0 : W0} {gw : W0} {w w' : World} {B : Nat} {Io R R2 : Nat → Prop} {ρ ρ' : Nat → Option Pl} {Fr : Nat → Prop} {st s : St} {a : Act}
theorem obUpd_append (ob : Nat → Option Obj) : ∀ (xs ys : List (Nat × Option Obj)), obUpd ob (xs ++ ys) = obUpd (obUpd ob xs) ys
  | [], _ => rfl
  | (i, o) :: xs, ys => by simp only [List.cons_append, obUpd]; exact obUpd_append _ xs ys
def St.obs (st : St) (os : List (Nat × Option Obj)) : St := { st with ob := obUpd st.ob os }
theorem obs_append (st : St) (xs ys : List (Nat × Option Obj)) : st.obs (xs ++ ys) = (st.obs xs).obs ys := by
  simp only [St.obs]; rw [obUpd_append]
theorem obs_one (st : St) (i : Nat) (o : Option Obj) : st.obs [(i, o)] = { st with ob := fun j => if j = i then o else st.ob j } := rfl
theorem app_obs (st : St) (d : Option Nat) (x : AVal) (os : List (Nat × Option Obj)) : st.app d ⟨x, os⟩ = (st.obs os).put d x := by
  cases d with
  | none => rfl
  | some d => simp only [St.app, St.put, St.obs]; unfold St.setTm; by_cases hd : d < st.n <;> simp [hd]
def Live (st : St) (ρ : Nat → Option Pl) (b : Nat) : Prop := ∃ id o p, st.ob id = some o ∧ ρ id = some p ∧ blkO p b
theorem SR.dels (h : SR w0 B Io R ρ Fr st a w) (ids : List Nat) : SR w0 B Io R ρ Fr (st.obs (ids.map fun i => (i, none))) a w := by
  induction ids generalizing st with
  | nil => exact h
  | cons i ids ih =>
    have := ih (h.del i)
    exact this
theorem SR.world (h : SR w0 B Io R ρ Fr st a w) {C : Nat → Prop} (hC : ∀ b, C b → ¬ R b ∧ (B ≤ b ∨ Io b) ∧ ¬ Live st ρ b)
    (hw : ∀ b, b < w.heap.size → ¬ C b → w'.heap[b]? = w.heap[b]?) (hz : w.heap.size ≤ w'.heap.size) (hq : Quiet w w') : SR w0 B Io R ρ Fr st a w' := by
  have hs : Same R w w' := fun b hb => hw b (h.rlt b hb) fun hc => (hC b hc).1 hb
  refine { size := h.size, dfr := h.dfr, tm := fun t => (h.tm t).mono hs (fun _ hb => hb) (.refl _), ob := fun id o ho => ?_, sep := h.sep, own := ?_, rlt := ?_, frame := ?_, size0 := Nat.le_trans h.size0 hz, fr := h.fr, r0 := h.r0, r1 := h.r1, q := h.q.trans hq, par := h.par, f0 := h.f0 }
  · obtain ⟨p, h1, h2⟩ := h.ob id o ho
    exact ⟨p, h1, h2.mono hs (fun _ hb => hb) (.refl _) (fun b hb' => hw b (h.own id o p b ho h1 hb').1 fun hc => (hC b hc).2.2 ⟨id, o, p, ho, h1, hb'⟩)⟩
  · intro id o p b h1 h2 h3
    have := h.own id o p b h1 h2 h3
    exact ⟨Nat.lt_of_lt_of_le this.1 hz, this.2⟩
  · intro b hb; exact Nat.lt_of_lt_of_le (h.rlt b hb) hz
  · intro b hb hn
    rw [hw b (Nat.lt_of_lt_of_le hb h.size0) (fun hc => (hC b hc).2.1.elim (fun h => by omega) hn)]
    exact h.frame b hb hn
theorem SR.growR (h : SR w0 B Io R ρ Fr st a w) (hr : ∀ b, R b → R2 b) (h2 : ∀ b, R2 b → b < w.heap.size ∧ ¬ Live st ρ b) (h3 : ∀ b, R2 b → R b ∨ (B ≤ b ∨ Io b)) : SR w0 B Io R2 ρ Fr st a w where
  size := h.size
  dfr := h.dfr
  tm := fun t => (h.tm t).mono (.refl _ _) hr (.refl _)
  ob := fun id o ho => by
    obtain ⟨p, h1, h2⟩ := h.ob id o ho
    exact ⟨p, h1, h2.mono (.refl _ _) hr (.refl _) (fun _ _ => rfl)⟩
  sep := h.sep
  own := fun id o p b h1 h3 h4 => by
    have := h.own id o p b h1 h3 h4
    exact ⟨this.1, fun hb => (h2 b hb).2 ⟨id, o, p, h1, h3, h4⟩, this.2.2⟩
  rlt := fun b hb => (h2 b hb).1
  frame := h.frame
  size0 := h.size0
  r0 := fun b hb => hr b (h.r0 b hb)
  r1 := fun b hb => (h3 b hb).elim (h.r1 b) .inr
  q := h.q
  par := h.par
  f0 := h.f0
  fr := h.fr
theorem SR.renew (h : SR w0 B Io R ρ Fr st a w) {id : Nat} {o : Obj} {p : Pl} (hp : ρ id = some p) (ho : OA w0 w R ρ p o) (hb : ∀ b, blkO p b → b < w.heap.size ∧ ¬ R b ∧ (B ≤ b ∨ Io b))
    (hsep : ∀ id' o' p' b, id' ≠ id → st.ob id' = some o' → ρ id' = some p' → blkO p b → blkO p' b → False) : SR w0 B Io R ρ Fr (st.obs [(id, some o)]) a w where
  size := h.size
  dfr := h.dfr
  tm := h.tm
  ob := fun i o' ho' => by
    simp only [obs_one] at ho'
    by_cases e : i = id
    · subst e; simp only [if_true] at ho'; cases ho'; exact ⟨p, hp, ho⟩
    · simp only [e, if_false] at ho'; exact h.ob i o' ho'
  sep := fun i o1 j o2 p1 p2 b hij h1 h2 g1 g2 b1 b2 => by
    simp only [obs_one] at h1 h2
    by_cases e : i = id
    · subst e
      have e' : ¬ j = i := fun h => hij h.symm
      simp only [e', if_false] at h2
      rw [hp] at g1; cases g1
      exact hsep j o2 p2 b e' h2 g2 b1 b2
    · simp only [e, if_false] at h1
      by_cases e' : j = id
      · subst e'
        rw [hp] at g2; cases g2
        exact hsep i o1 p1 b e h1 g1 b2 b1
      · simp only [e', if_false] at h2
        exact h.sep i o1 j o2 p1 p2 b hij h1 h2 g1 g2 b1 b2
  own := fun i o' q b h1 g1 b1 => by
    simp only [obs_one] at h1
    by_cases e : i = id
    · subst e; rw [hp] at g1; cases g1; exact hb b b1
    · simp only [e, if_false] at h1; exact h.own i o' q b h1 g1 b1
  rlt := h.rlt
  frame := h.frame
  size0 := h.size0
  r0 := h.r0
  r1 := h.r1
  q := h.q
  par := h.par
  f0 := h.f0
  fr := h.fr
structure Inst (w0 : W0) (B : Nat) (Io R : Nat → Prop) (ρ : Nat → Option Pl) (Fr : Nat → Prop) (st : St) (a : Act) (w : World) (i j : Nat) (S : Nat → Prop) (os : List (Nat × Option Obj)) (ρ' : Nat → Option Pl) : Prop where
  le : Leρ ρ ρ'
  ij : i ≤ j
  sr : SR w0 B Io R ρ' (fun t => Fr t ∧ ¬ (i ≤ t ∧ t < j)) (st.obs os) a w
  live : ∀ b, Live (st.obs os) ρ' b → Live st ρ b ∨ S b
  old : ∀ id, ¬ (i ≤ id ∧ id < j) → (st.obs os).ob id = st.ob id ∧ ρ' id = ρ id
theorem Inst.none (h : SR w0 B Io R ρ Fr st a w) (i : Nat) (S : Nat → Prop) : Inst w0 B Io R ρ Fr st a w i i S [] ρ :=
  ⟨.refl _, Nat.le_refl _, h.weaken fun _ hi => hi.1, fun b hb => .inl hb, fun _ _ => ⟨rfl, rfl⟩⟩
theorem Inst.one (h : SR w0 B Io R ρ Fr st a w) {i : Nat} (hf : Fr i) {S : Nat → Prop} (hS : ∀ b, S b → (b < w.heap.size ∧ ¬ R b ∧ (B ≤ b ∨ Io b)) ∧ ¬ Live st ρ b) {o : Obj} {p : Pl} (ho : OA w0 w R (fun t => if t = i then some p else ρ t) p o) (hb : ∀ b, blkO p b → S b) :
    Inst w0 B Io R ρ Fr st a w i (i + 1) S [(i, some o)] (fun t => if t = i then some p else ρ t) where
  le := h.ρmono hf p
  ij := by omega
  sr := (h.new hf ho (fun b hb' => (hS b (hb b hb')).1) (fun id' o' p' b h1 h2 h3 h4 => (hS b (hb b h3)).2 ⟨id', o', p', h1, h2, h4⟩)).weaken fun t ht => ⟨ht.1, fun e => ht.2 (by omega)⟩
  live := fun b ⟨id, o', p', h1, h2, h3⟩ => by
    simp only [obs_one] at h1
    by_cases e : id = i
    · subst e; simp only [if_true] at h2; cases h2; exact .inr (hb b h3)
    · simp only [e, if_false] at h1 h2; exact .inl ⟨id, o', p', h1, h2, h3⟩
  old := fun id hid => by
    have e : ¬ id = i := fun e => hid (by omega)
    simp [obs_one, e]
theorem Inst.trans {i j k : Nat} {S1 S2 : Nat → Prop} {os1 os2 : List (Nat × Option Obj)} {ρ1 ρ2 : Nat → Option Pl} (h1 : Inst w0 B Io R ρ Fr st a w i j S1 os1 ρ1)
    (h2 : Inst w0 B Io R ρ1 (fun t => Fr t ∧ ¬ (i ≤ t ∧ t < j)) (st.obs os1) a w j k S2 os2 ρ2) {S : Nat → Prop} (hS : ∀ b, S1 b ∨ S2 b → S b) : Inst w0 B Io R ρ Fr st a w i k S (os1 ++ os2) ρ2 where
  le := fun id p hp => h2.le id p (h1.le id p hp)
  ij := Nat.le_trans h1.ij h2.ij
  sr := by rw [obs_append]; exact h2.sr.weaken fun t ht => ⟨⟨ht.1, fun e => ht.2 ⟨e.1, Nat.lt_of_lt_of_le e.2 h2.ij⟩⟩, fun e => ht.2 ⟨Nat.le_trans h1.ij e.1, e.2⟩⟩
  live := fun b hb => by
    rw [obs_append] at hb
    rcases h2.live b hb with h | h
    · rcases h1.live b h with h | h
      · exact .inl h
      · exact .inr (hS b (.inl h))
    · exact .inr (hS b (.inr h))
  old := fun id hid => by
    rw [obs_append]
    have a1 := h2.old id fun e => hid ⟨Nat.le_trans h1.ij e.1, e.2⟩
    have a2 := h1.old id fun e => hid ⟨e.1, Nat.lt_of_lt_of_le e.2 h2.ij⟩
    exact ⟨a1.1.trans a2.1, a1.2.trans a2.2⟩
def Fits (R : Nat → Prop) (B : Nat) (Io : Nat → Prop) (st : St) (ρ : Nat → Option Pl) (w : World) (S : Nat → Prop) : Prop :=
  ∀ b, S b → (b < w.heap.size ∧ ¬ R b ∧ (B ≤ b ∨ Io b)) ∧ ¬ Live st ρ b
theorem instCells_le : ∀ (cs : List AVal) (i : Nat), i ≤ (instCells cs i).2.2
  | [], _ => Nat.le_refl _
  | x :: cs, i => by
    have h0 := instCells_le cs i
    have h1 := Nat.le_trans (Nat.le_succ i) (instCells_le cs (i + 1))
    cases x <;> first | exact h0 | exact h1
theorem instCells_one_le (x : AVal) (cs : List AVal) (i : Nat) : (instCells [x] i).2.2 ≤ (instCells (x :: cs) i).2.2 := by
  have h0 := instCells_le cs i
  have h1 := instCells_le cs (i + 1)
  cases x <;> first | exact h0 | exact h1
theorem instArg_le (x : AVal) (i : Nat) : i ≤ (instArg x i).2.2 := by
  cases x <;> first | exact Nat.le_refl _ | exact Nat.le_succ _ | exact instCells_le _ _ | exact Nat.le_trans (Nat.le_succ i) (instCells_le _ (i + 1))
theorem instList_le : ∀ (xs : List AVal) (i : Nat), i ≤ (instList xs i).2.2
  | [], _ => Nat.le_refl _
  | x :: xs, i => by
    simp only [instList]
    exact Nat.le_trans (instArg_le x i) (instList_le xs _)
theorem inst_cell (h : SR w0 B Io R ρ Fr st a w) {i : Nat} {v : Value} {S : Nat → Prop} {x : AVal} (hf : ∀ t, i ≤ t → t < (instCells [x] i).2.2 → Fr t) (hx : CT w R v S x) (hS : Fits R B Io st ρ w S) :
    ∃ y os j ρ', (∀ r, instCells (x :: r) i = (y :: (instCells r j).1, os ++ (instCells r j).2.1, (instCells r j).2.2)) ∧ Inst w0 B Io R ρ Fr st a w i j S os ρ' ∧ CA w0 w R ρ' v y := by
  have plain : (∀ T l, x ≠ .osl T l) → (∀ T l, x ≠ .omat T l) → ∃ y os j ρ', (∀ r, instCells (x :: r) i = (y :: (instCells r j).1, os ++ (instCells r j).2.1, (instCells r j).2.2)) ∧ Inst w0 B Io R ρ Fr st a w i j S os ρ' ∧ CA w0 w R ρ' v y := by
    intro h1 h2
    refine ⟨x, [], i, ρ, fun r => ?_, .none h i S, CA.ofR (by rw [ct_ra x h1 h2] at hx; exact hx)⟩
    cases x <;> first | rfl | exact absurd rfl (h1 _ _) | exact absurd rfl (h2 _ _)
  cases x
  case osl T l =>
    obtain ⟨Sp, h1, h2, h3⟩ := hx
    exact ⟨.sref i none none, [(i, some (.sl T l))], i + 1, _, fun r => rfl, .one h (hf i (Nat.le_refl _) (by simp [instCells])) hS (o := .sl T l) (p := .sl Sp l.length) ⟨Sp, rfl, h2⟩ h3, Sp, l.length, by simp [plS], h1⟩
  case omat T l =>
    obtain ⟨Sp, rows, h1, h2, h3⟩ := hx
    exact ⟨.sref i none none, [(i, some (.mat T l))], i + 1, _, fun r => rfl, .one h (hf i (Nat.le_refl _) (by simp [instCells])) hS (o := .mat T l) (p := .mat Sp l.length rows) ((h2 w0).mono (.refl _ _) (fun _ hb => hb) (fun _ _ e => by cases e) (fun _ _ => rfl)) h3, Sp, l.length, by simp [plS], h1⟩
  all_goals exact plain (by simp) (by simp)
theorem CTs.tail {vs : Nat → Option Value} {x : AVal} {cs : List AVal} {S : Nat → Prop} (h : CTs w R vs (x :: cs) S) :
    ∃ u S0 S1, vs 0 = some u ∧ CT w R u S0 x ∧ CTs w R (fun i => vs (i + 1)) cs S1 ∧ (∀ b, S0 b → S1 b → False) ∧ ∀ b, S0 b ∨ S1 b → S b := by
  obtain ⟨Ss, h1, h2, h3⟩ := h
  obtain ⟨u, g1, g2⟩ := h1 0 x rfl
  refine ⟨u, Ss 0, fun b => ∃ i, Ss (i + 1) b, g1, g2, ⟨fun i => Ss (i + 1), fun i y hy => h1 (i + 1) y (by simpa using hy), fun i j b hij => h2 (i + 1) (j + 1) b (by omega), fun i b hb => ⟨i, hb⟩⟩, fun b hb ⟨i, hi⟩ => h2 0 (i + 1) b (by omega) hb hi, ?_⟩
  rintro b (hb | ⟨i, hi⟩)
  · exact h3 0 b hb
  · exact h3 (i + 1) b hi
theorem Fits.next {S0 S1 : Nat → Prop} {i j : Nat} {os : List (Nat × Option Obj)} (hi : Inst w0 B Io R ρ Fr st a w i j S0 os ρ') (h1 : Fits R B Io st ρ w S1) (hd : ∀ b, S0 b → S1 b → False) : Fits R B Io (st.obs os) ρ' w S1 := fun b hb =>
  ⟨(h1 b hb).1, fun hl => (hi.live b hl).elim (h1 b hb).2 fun h => hd b h hb⟩
theorem inst_cells : ∀ {cs : List AVal} {ρ : Nat → Option Pl} {Fr : Nat → Prop} {st : St} {i : Nat} {vs : Nat → Option Value} {S : Nat → Prop}, SR w0 B Io R ρ Fr st a w → (∀ t, i ≤ t → t < (instCells cs i).2.2 → Fr t) → CTs w R vs cs S → Fits R B Io st ρ w S →
    ∃ ρ', Inst w0 B Io R ρ Fr st a w i (instCells cs i).2.2 S (instCells cs i).2.1 ρ' ∧ (instCells cs i).1.length = cs.length ∧ ∀ (t : Nat) y, (instCells cs i).1[t]? = some y → ∃ u, vs t = some u ∧ CA w0 w R ρ' u y
  | [], ρ, Fr, st, i, vs, S, h, hf, hc, hS => ⟨ρ, .none h i S, rfl, fun t y hy => by simp [instCells] at hy⟩
  | x :: cs, ρ, Fr, st, i, vs, S, h, hf, hc, hS => by
    obtain ⟨u, S0, S1, g1, g2, g3, g4, g5⟩ := hc.tail
    obtain ⟨y, os, j, ρ1, e1, e2, e3⟩ := inst_cell h (fun t h1 h2 => hf t h1 (Nat.lt_of_lt_of_le h2 (instCells_one_le x cs i))) g2 (fun b hb => hS b (g5 b (.inl hb)))
    have hij := e2.ij
    obtain ⟨ρ2, f1, f2, f3⟩ := inst_cells (cs := cs) (i := j) e2.sr (fun t ht ht' => ⟨hf t (by omega) (by rw [e1 cs]; exact ht'), fun e => by omega⟩) g3 (Fits.next e2 (fun b hb => hS b (g5 b (.inr hb))) g4)
    rw [e1 cs]
    refine ⟨ρ2, e2.trans f1 g5, by simp [f2], fun t z hz => ?_⟩
    match t with
    | 0 => simp at hz; subst hz; exact ⟨u, g1, e3.mono (.refl _ _) (fun _ hb => hb) f1.le⟩
    | t + 1 => exact f3 t z (by simpa using hz)
theorem inst_arg {x : AVal} {i : Nat} {v : Value} {S : Nat → Prop} (h : SR w0 B Io R ρ Fr st a w) (hf : ∀ t, i ≤ t → t < (instArg x i).2.2 → Fr t) (hg : GLe gw w0) (hx : AT gw w R v S x) (hS : Fits R B Io st ρ w S) :
    ∃ ρ', Inst w0 B Io R ρ Fr st a w i (instArg x i).2.2 S (instArg x i).2.1 ρ' ∧ VA1 w0 w R ρ' v (instArg x i).1 := by
  cases x
  case agg cs =>
    obtain ⟨us, h1, h2, h3⟩ := hx
    obtain ⟨ρ', g1, g2, g3⟩ := inst_cells h hf h3 hS
    refine ⟨ρ', g1, us, h1, by rw [h2]; exact g2.symm, fun t u y hu hy => ?_⟩
    obtain ⟨u', e1, e2⟩ := g3 t y hy
    rw [hu] at e1; cases e1; exact e2
  case obox cs =>
    obtain ⟨b, off, arr, E, h1, h2, h3, S', h4, h5, h6⟩ := hx
    obtain ⟨ρ1, g1, g2, g3⟩ := inst_cells (i := i + 1) h (fun t ht ht' => hf t (by omega) ht') h4 (fun b' hb' => hS b' (h6 b' hb'))
    have hle := instCells_le cs (i + 1)
    have hfi : Fr i := hf i (Nat.le_refl _) (by show i < (instCells cs (i + 1)).2.2; omega)
    have hlt : ¬ (i + 1 ≤ i ∧ i < (instCells cs (i + 1)).2.2) := by omega
    have hbox := Inst.one (i := i) (S := fun b' => b' = b) g1.sr ⟨hfi, hlt⟩ (fun b' hb' => by
      subst hb'
      exact ⟨(hS b' h3).1, fun hl => (g1.live b' hl).elim (hS b' h3).2 h5⟩) (o := .box (instCells cs (i + 1)).1) (p := .box b off) ⟨b, off, arr, E, rfl, h2, fun t y hy => by
        obtain ⟨u, e1, e2⟩ := g3 t y hy
        exact ⟨u, e1, e2.mono (.refl _ _) (fun _ hb => hb) (g1.sr.ρmono ⟨hfi, hlt⟩ _)⟩⟩ (fun b' hb' => hb'.symm)
    have hij := g1.ij
    refine ⟨_, ⟨fun id p hp => hbox.le id p (g1.le id p hp), by show i ≤ (instCells cs (i + 1)).2.2; omega, ?_, fun b' hb' => ?_, fun id hid => ?_⟩, b, off, by simp, by simpa using h1⟩
    · show SR _ _ _ _ _ _ (st.obs ((instCells cs (i + 1)).2.1 ++ [(i, some (.box (instCells cs (i + 1)).1))])) _ _
      rw [obs_append]
      exact hbox.sr.weaken fun t ht => ⟨⟨ht.1, fun e => ht.2 ⟨by omega, e.2⟩⟩, fun e => ht.2 ⟨e.1, show t < (instCells cs (i + 1)).2.2 by omega⟩⟩
    · have hb' : Live (st.obs ((instCells cs (i + 1)).2.1 ++ [(i, some (.box (instCells cs (i + 1)).1))])) _ b' := hb'
      rw [obs_append] at hb'
      rcases hbox.live b' hb' with h | h
      · rcases g1.live b' h with h | h
        · exact .inl h
        · exact .inr (h6 b' h)
      · subst h; exact .inr h3
    · have hid : ¬ (i ≤ id ∧ id < (instCells cs (i + 1)).2.2) := hid
      show (st.obs ((instCells cs (i + 1)).2.1 ++ [(i, some (.box (instCells cs (i + 1)).1))])).ob id = _ ∧ _
      rw [obs_append]
      have a1 := hbox.old id fun e => hid (by omega)
      have a2 := g1.old id fun e => hid ⟨by omega, e.2⟩
      exact ⟨a1.1.trans a2.1, a1.2.trans a2.2⟩
  case osl T l =>
    obtain ⟨y, os, j, ρ', e1, e2, e3⟩ := inst_cell h (x := .osl T l) hf hx hS
    have := e1 []
    simp only [instCells, Prod.mk.injEq, List.cons.injEq] at this
    obtain ⟨⟨rfl, _⟩, h2, h3⟩ := this
    simp at h2
    subst h2; subst h3
    exact ⟨ρ', e2, VA1.ofC e3⟩
  case omat T l =>
    obtain ⟨y, os, j, ρ', e1, e2, e3⟩ := inst_cell h (x := .omat T l) hf hx hS
    have := e1 []
    simp only [instCells, Prod.mk.injEq, List.cons.injEq] at this
    obtain ⟨⟨rfl, _⟩, h2, h3⟩ := this
    simp at h2
    subst h2; subst h3
    exact ⟨ρ', e2, VA1.ofC e3⟩
  case undef => exact ⟨ρ, .none h i S, trivial⟩
  case rptr ts c => exact ⟨ρ, .none h i S, hg.1 _ _ _ hx⟩
  case cfn f ts => exact ⟨ρ, .none h i S, hg.2 _ _ _ hx⟩
  all_goals exact ⟨ρ, .none h i S, VA1.ofC (CA.ofR hx)⟩
def ALs (gw : W0) (w : World) (R : Nat → Prop) (L : List (Value × AVal)) (C : Nat → Prop) : Prop :=
  ∃ Ss : Nat → Nat → Prop, (∀ (i : Nat) p, L[i]? = some p → AT gw w R p.1 (Ss i) p.2) ∧ (∀ i j b, i ≠ j → Ss i b → Ss j b → False) ∧ ∀ i b, Ss i b → C b
theorem ALs.tail {p : Value × AVal} {L : List (Value × AVal)} {C : Nat → Prop} (h : ALs gw w R (p :: L) C) :
    ∃ S0 S1, AT gw w R p.1 S0 p.2 ∧ ALs gw w R L S1 ∧ (∀ b, S0 b → S1 b → False) ∧ ∀ b, S0 b ∨ S1 b → C b := by
  obtain ⟨Ss, h1, h2, h3⟩ := h
  refine ⟨Ss 0, fun b => ∃ i, Ss (i + 1) b, h1 0 p rfl, ⟨fun i => Ss (i + 1), fun i y hy => h1 (i + 1) y (by simpa using hy), fun i j b hij => h2 (i + 1) (j + 1) b (by omega), fun i b hb => ⟨i, hb⟩⟩, fun b hb ⟨i, hi⟩ => h2 0 (i + 1) b (by omega) hb hi, ?_⟩
  rintro b (hb | ⟨i, hi⟩)
  · exact h3 0 b hb
  · exact h3 (i + 1) b hi
theorem inst_list : ∀ {L : List (Value × AVal)} {ρ : Nat → Option Pl} {Fr : Nat → Prop} {st : St} {i : Nat} {C : Nat → Prop}, SR w0 B Io R ρ Fr st a w → (∀ t, i ≤ t → t < (instList (L.map (·.2)) i).2.2 → Fr t) → GLe gw w0 → ALs gw w R L C → Fits R B Io st ρ w C →
    ∃ ρ', Inst w0 B Io R ρ Fr st a w i (instList (L.map (·.2)) i).2.2 C (instList (L.map (·.2)) i).2.1 ρ' ∧ (instList (L.map (·.2)) i).1.length = L.length ∧ ∀ (t : Nat) p y, L[t]? = some p → (instList (L.map (·.2)) i).1[t]? = some y → VA1 w0 w R ρ' p.1 y
  | [], ρ, Fr, st, i, C, h, hf, hg, hc, hS => ⟨ρ, .none h i C, rfl, fun t p y hp => by simp at hp⟩
  | p :: L, ρ, Fr, st, i, C, h, hf, hg, hc, hS => by
    obtain ⟨S0, S1, g2, g3, g4, g5⟩ := hc.tail
    obtain ⟨ρ1, e2, e3⟩ := inst_arg h (fun t h1 h2 => hf t h1 (Nat.lt_of_lt_of_le h2 (instList_le _ _))) hg g2 (fun b hb => hS b (g5 b (.inl hb)))
    have hij := e2.ij
    obtain ⟨ρ2, f1, f2, f3⟩ := inst_list (L := L) (i := (instArg p.2 i).2.2) e2.sr (fun t ht ht' => ⟨hf t (Nat.le_trans hij ht) ht', fun e => Nat.lt_irrefl _ (Nat.lt_of_le_of_lt ht e.2)⟩) hg g3 (Fits.next e2 (fun b hb => hS b (g5 b (.inr hb))) g4)
    refine ⟨ρ2, e2.trans f1 g5, by simp [instList, f2], fun t q z hq hz => ?_⟩
    simp only [List.map_cons, instList] at hz
    match t with
    | 0 => simp at hq hz; subst hq; subst hz; exact e3.mono (.refl _ _) (fun _ hb => hb) f1.le
    | t + 1 => exact f3 t q z (by simpa using hq) (by simpa using hz)
end Go.OAI
