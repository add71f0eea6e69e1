/- One operation, continued: reading. -/
import Derived.Test.YtaiopbdbnellhaaB2
namespace Go.OAI
set_option linter.unusedVariables false

variable {P : Program} {w0 : W0} {w : World} {B : Nat} {Io R : Nat → Prop} {ρ : Nat → Option Pl} {Fr : Nat → Prop} {st s : St} {a : Act}

theorem cellAt_of {w : World} {b : Nat} {arr : Array Value} {E : TypeId} {f : Nat × Nat} (h : w.heap[b]? = some (.cells arr E f)) (o : Nat) : cellAt w b o = arr[o]? := by
  simp [cellAt, World.cell?, h]

theorem lt_of_get {α : Type} {l : List α} {i : Nat} {x : α} (h : l[i]? = some x) : i < l.length := by
  rcases Nat.lt_or_ge i l.length with h' | h'
  · exact h'
  · simp [List.getElem?_eq_none h'] at h

theorem Sub.elemCells (hs : Sub s st) {id : Nat} {row : Option Nat} {i : Nat} {cs : List AVal} (h : elemCells s id row i = some cs) : elemCells st id row i = some cs := by
  unfold Go.OAI.elemCells at *
  cases e : s.ob id with
  | none => rw [e] at h; cases h
  | some o => rw [hs.obj e]; rw [e] at h; exact h
theorem Sub.full (hs : Sub s st) {id : Nat} {row : Option Nat} {x : SL} (h : full s id row = some x) : full st id row = some x := by
  unfold Go.OAI.full at *
  cases e : s.ob id with
  | none => rw [e] at h; cases h
  | some o => rw [hs.obj e]; rw [e] at h; exact h

/-- The cells of a slice of the frame's own. -/
theorem SlOwn.elem {T : Ty} {S : SPl} {l : List T.den} (h : SlOwn w R T S l) {b off : Nat} (hA : S.A = some ⟨b, off, none⟩) {i : Nat} (hi : i < l.length) (d : T.den) (k : Nat) (x : AVal)
    (hx : (T.flat (l.getD i d))[k]? = some x) : ∃ u, cellAt w b (off + i * S.st + k) = some u ∧ RA w R u x := by
  obtain ⟨h1, h2, h3⟩ := h
  obtain ⟨b', off', arr, E, e1, e2, e3, e4⟩ := h3 (by omega)
  rw [hA] at e1; cases e1
  have hl : l[i]? = some (l.getD i d) := by simp [List.getElem?_eq_getElem hi, List.getD]
  obtain ⟨us, g1, g2⟩ := e4 i _ hl
  obtain ⟨f1, f2⟩ := g1.flat
  have hk : k < us.length := by rw [← f1]; exact lt_of_get hx
  refine ⟨us[k], ?_, f2 k _ x (List.getElem?_eq_getElem hk) hx⟩
  rw [cellAt_of e2, h1, Nat.add_assoc]
  exact g2 k _ (List.getElem?_eq_getElem hk)

theorem SR.elem (h : SR w0 B Io R ρ Fr st a w) {id : Nat} {row : Option Nat} {i : Nat} {cs : List AVal} {S : SPl} {n b off : Nat} (he : elemCells st id row i = some cs)
    (hp : plS (ρ id) row = some (S, n)) (hA : S.A = some ⟨b, off, none⟩) (hi : i < n) (k : Nat) (x : AVal) (hx : cs[k]? = some x) :
    ∃ u, cellAt w b (off + i * S.st + k) = some u ∧ CA w R ρ u x := by
  unfold elemCells at he
  split at he
  · rename_i T l ho
    obtain ⟨p, hp', hoa⟩ := h.ob id _ ho
    obtain ⟨S', rfl, hown⟩ := hoa
    split at he
    · cases he
      rw [hp'] at hp; simp only [plS] at hp; cases hp
      obtain ⟨u, h1, h2⟩ := hown.elem hA hi T.dflt k x hx
      exact ⟨u, h1, CA.ofR h2⟩
    · cases he
  · rename_i T l ho
    obtain ⟨p, hp', hoa⟩ := h.ob id _ ho
    obtain ⟨S', rows, rfl, h1, h2, h3, h4, h5, h6⟩ := hoa
    split at he
    · cases he
      have hp0 := hp
      rw [hp'] at hp; simp only [plS] at hp; cases hp
      obtain ⟨b', off', arr, E, e1, e2, e3, e4⟩ := h3 (by omega)
      rw [hA] at e1; cases e1
      match k with
      | 0 =>
        simp at hx; subst hx
        have hr := e4 i _ (List.getElem?_eq_getElem hi)
        refine ⟨_, by rw [cellAt_of e2, h1]; simpa using hr, (rows i).1, (rows i).2, by rw [hp']; simp [plS, hi], ?_⟩
        have := (h4 i _ (List.getElem?_eq_getElem hi)).1
        simp only [WV, this]
      | k + 1 => simp at hx
    · rename_i j
      cases he
      rw [hp'] at hp; simp only [plS] at hp
      split at hp
      · rename_i hj
        have hp' := Option.some.inj hp
        obtain ⟨rfl, rfl⟩ : S = (rows j).1 ∧ n = (rows j).2 := by rw [hp']; exact ⟨rfl, rfl⟩
        obtain ⟨g1, g2⟩ := h4 j _ (List.getElem?_eq_getElem hj)
        have e : l.getD j [] = l[j] := by simp [List.getD, List.getElem?_eq_getElem hj]
        rw [e] at hx
        rw [g1] at hi
        obtain ⟨u, q1, q2⟩ := g2.elem hA hi T.dflt k x hx
        exact ⟨u, q1, CA.ofR q2⟩
      · cases hp
  · cases he

section
variable {Rt : Type} {env : Nat → Option Callee} {ib : Nat} {o : Oper} {k : Delta → Option Rt} {r : Rt}

theorem run_loadAt' {T : TypeId} {A : Addr} {u : Value} (h : (loadVar T A).run P w = .ok u w) : (Instr.loadAt T (.pointer (some A))).run P w = .ok u w := by
  simp [Instr.loadAt, Instr.sureAddr, h]

theorem ok_load {T : TypeId} {p : Operand} (h : SR w0 B Io R ρ Fr st a w) (hs : Sub s st) (ho : o.op = .load T p) (he : evalOp P env ib s o k = some r) :
    ∃ d, k d = some r ∧ OpOk P w0 B Io Fr ib st a w o d := by
  unfold evalOp at he
  rw [ho] at he
  simp only at he
  split at he
  · rename_i g n hg hn
    have hp := h.evs hs p
    have fin : ∀ {cs : List AVal} {c b off : Nat} {v : AVal}, a.eval p = .pointer (some ⟨b, off + c, none⟩) → takeV g n c cs = some v →
        (∀ k x, cs[k]? = some x → ∃ u, cellAt w b (off + k) = some u ∧ CA w R ρ u x) → OpOk P w0 B Io Fr ib st a w o ⟨v, []⟩ := by
      intro cs c b off v hv ht hc
      obtain ⟨u, hr, hu⟩ := run_loadVar' hg hn ht hc
      exact .pure h (v := u) (by simp [execOp, ho, hv, run_loadAt' hr]) hu
    split at he
    · rename_i cs c e
      rw [e] at hp
      split at he
      · rename_i v ht
        obtain ⟨b, off, h1, h2, h3⟩ := hp
        exact ⟨_, he, fin h1 ht fun k x hx => by obtain ⟨u, q1, q2⟩ := h3 k x hx; exact ⟨u, q1, CA.ofR q2⟩⟩
      · cases he
    · rename_i id c e
      rw [e] at hp
      split at he
      · rename_i cs hob
        split at he
        · rename_i v ht
          obtain ⟨b, off, h1, h2⟩ := hp
          obtain ⟨q, hq, hoa⟩ := h.ob id _ (hs.obj hob)
          obtain ⟨b', off', arr, E, rfl, e2, e3⟩ := hoa
          rw [h1] at hq; cases hq
          exact ⟨_, he, fin h2 ht fun k x hx => by rw [cellAt_of e2]; exact e3 k x hx⟩
        · cases he
      · cases he
    · rename_i id row i c e
      rw [e] at hp
      split at he
      · rename_i cs hec
        split at he
        · rename_i v ht
          obtain ⟨S, n', b, off, h1, h2, h3, h4⟩ := hp
          exact ⟨_, he, fin (off := off + i * S.st) (by rw [h4]; simp [Nat.add_assoc]) ht fun k x hx => h.elem (hs.elemCells hec) h1 h2 h3 k x hx⟩
        · cases he
      · cases he
    · cases he
  · cases he

theorem run_fieldAt {T : TypeId} {f off : Nat} {t : TypeId} {n b o : Nat} (hf : fieldB P T f = some (off, t)) (hn : sizeB P t = some (n + 1)) :
    (Instr.fieldAt T (.pointer (some ⟨b, o, none⟩)) f).run P w = .ok (.pointer (some ⟨b, o + off, none⟩)) w := by
  unfold fieldB at hf
  split at hf
  · rename_i fs hu
    split at hf
    · rename_i fd hfd
      cases hf
      simp [Instr.fieldAt, run_underlying' hu, hfd, Instr.sureAddr, fieldPlace, run_sizeB hn, add_none]
    · cases hf
  · cases hf

theorem ok_fieldAddr {T : TypeId} {p : Operand} {f : Nat} (h : SR w0 B Io R ρ Fr st a w) (hs : Sub s st) (ho : o.op = .fieldAddr T p f) (he : evalOp P env ib s o k = some r) :
    ∃ d, k d = some r ∧ OpOk P w0 B Io Fr ib st a w o d := by
  unfold evalOp at he
  rw [ho] at he
  simp only at he
  split at he
  · cases he
  · rename_i off t hf
    split at he
    · rename_i n hn
      have hp := h.evs hs p
      split at he
      · rename_i cs c e
        rw [e] at hp
        obtain ⟨b, o', h1, h2, h3⟩ := hp
        exact ⟨_, he, .pure h (v := .pointer (some ⟨b, o' + c + off, none⟩)) (by simp [execOp, ho, h1, run_fieldAt hf hn]) (VA.ofC ⟨b, o', by simp [Nat.add_assoc], h2, h3⟩)⟩
      · rename_i id c e
        rw [e] at hp
        obtain ⟨b, o', h1, h2⟩ := hp
        exact ⟨_, he, .pure h (v := .pointer (some ⟨b, o' + c + off, none⟩)) (by simp [execOp, ho, h2, run_fieldAt hf hn]) (VA.ofC ⟨b, o', h1, by simp [Nat.add_assoc]⟩)⟩
      · rename_i id row i c e
        rw [e] at hp
        obtain ⟨S, n', b, o', h1, h2, h3, h4⟩ := hp
        exact ⟨_, he, .pure h (v := .pointer (some ⟨b, o' + (i * S.st + c) + off, none⟩)) (by simp [execOp, ho, h4, run_fieldAt hf hn]) (VA.ofC ⟨S, n', b, o', h1, h2, h3, by simp [Nat.add_assoc]⟩)⟩
      · cases he
    · cases he

theorem ok_field {T : TypeId} {x : Operand} {f : Nat} (h : SR w0 B Io R ρ Fr st a w) (hs : Sub s st) (ho : o.op = .field T x f) (he : evalOp P env ib s o k = some r) :
    ∃ d, k d = some r ∧ OpOk P w0 B Io Fr ib st a w o d := by
  unfold evalOp at he
  rw [ho] at he
  simp only at he
  split at he
  · cases he
  · rename_i off t hf
    split at he
    · rename_i g n hg hn
      split at he
      · rename_i cs e
        split at he
        · rename_i v ht
          have hp := h.evs hs x
          rw [e] at hp
          obtain ⟨us, h1, h2, h3⟩ := hp
          unfold fieldB at hf
          split at hf
          · rename_i fs hu
            split at hf
            · rename_i fd hfd
              cases hf
              unfold takeV at ht
              cases g with
              | false =>
                simp only [cond_false] at ht
                have hlt : fd.offset < us.size := by rw [h2]; exact lt_of_get ht
                refine ⟨_, he, .pure h (v := us[fd.offset]) ?_ (VA.ofC (h3 fd.offset _ v (by simp [hlt]) ht))⟩
                simp [execOp, ho, h1, Instr.field, run_underlying' hu, hfd, asAgg, part, run_isAggB hg, hlt]
              | true =>
                simp only [cond_true] at ht
                by_cases hl : fd.offset + n ≤ cs.length
                · simp only [hl, decide_true, cond_true] at ht
                  cases ht
                  refine ⟨_, he, .pure h (v := .agg (us.extract fd.offset (fd.offset + n))) ?_ ?_⟩
                  · simp [execOp, ho, h1, Instr.field, run_underlying' hu, hfd, asAgg, part, run_isAggB hg, run_sizeB hn]
                  · refine ⟨_, rfl, by simp; omega, fun i u y hu' hy => ?_⟩
                    have hi : i < n := by have := lt_of_get hy; simp at this; omega
                    rw [List.getElem?_take_of_lt hi, List.getElem?_drop] at hy
                    refine h3 (fd.offset + i) u y ?_ hy
                    rw [Array.getElem?_extract] at hu'
                    split at hu'
                    · exact hu'
                    · cases hu'
                · simp [hl] at ht
            · cases hf
          · cases hf
        · cases he
      · cases he
    · cases he

theorem lat_some {α : Type} {l : List α} {i : Int} {x : α} (h : lat l i = some x) : 0 ≤ i ∧ l[i.toNat]? = some x := by
  unfold lat at h
  by_cases hi : 0 ≤ i
  · simp [hi] at h; exact ⟨hi, h⟩
  · simp [hi] at h

theorem Sub.slcLen (hs : Sub s st) : True := trivial
theorem run_indexAt_slice {T : TypeId} {A : Option Addr} {len cap n : Nat} {kk : IntKind} {i : Int} {b off : Nat} (hz : elemSz P T = some n) (hA : A = some ⟨b, off, none⟩) (h0 : 0 ≤ i) (h1 : i < len) :
    (Instr.indexAt T (.slice A len cap) (.int kk i)).run P w = .ok (.pointer (some ⟨b, off + i.toNat * n, none⟩)) w := by
  unfold elemSz at hz
  split at hz
  · rename_i e hu
    subst hA
    simp [Instr.indexAt, asIntOf, run_underlying' hu, h0, h1, run_sizeB hz, add_none]
  · cases hz

theorem full_place (h : SR w0 B Io R ρ Fr st a w) {id : Nat} {row : Option Nat} {U : Ty} {c : List U.den} (hf : full st id row = some ⟨U, c⟩) {S : SPl} {n : Nat} (hp : plS (ρ id) row = some (S, n)) :
    n = c.length ∧ S.st = U.cells ∧ n ≤ S.cap ∧ (S.cap ≠ 0 → ∃ b off, S.A = some ⟨b, off, none⟩) := by
  unfold full at hf
  split at hf
  · rename_i T l ho
    obtain ⟨p, hp', hoa⟩ := h.ob id _ ho
    obtain ⟨S', rfl, h1, h2, h3⟩ := hoa
    split at hf
    · cases hf
      rw [hp'] at hp; simp only [plS] at hp; cases hp
      exact ⟨rfl, h1, h2, fun hc => by obtain ⟨b, off, _, _, e, _⟩ := h3 hc; exact ⟨b, off, e⟩⟩
    · cases hf
  · rename_i T l ho
    obtain ⟨p, hp', hoa⟩ := h.ob id _ ho
    obtain ⟨S', rows, rfl, h1, h2, h3, h4, h5, h6⟩ := hoa
    split at hf
    · cases hf
      rw [hp'] at hp; simp only [plS] at hp; cases hp
      exact ⟨rfl, h1, h2, fun hc => by obtain ⟨b, off, _, _, e, _⟩ := h3 hc; exact ⟨b, off, e⟩⟩
    · rename_i j
      cases hf
      rw [hp'] at hp; simp only [plS] at hp
      split at hp
      · rename_i hj
        have hp' := Option.some.inj hp
        obtain ⟨rfl, rfl⟩ : S = (rows j).1 ∧ n = (rows j).2 := by rw [hp']; exact ⟨rfl, rfl⟩
        obtain ⟨g1, g2, g3, g4⟩ := h4 j _ (List.getElem?_eq_getElem hj)
        have e : l.getD j [] = l[j] := by simp [List.getD, List.getElem?_eq_getElem hj]
        rw [e]
        exact ⟨g1, g2, by rw [g1]; exact g3, fun hc => by obtain ⟨b, off, _, _, e, _⟩ := g4 hc; exact ⟨b, off, e⟩⟩
      · cases hp
  · cases hf

/-- A window's value: its length, and where it begins. -/
theorem WV.open {S : SPl} {n : Nat} {v : Value} {win : Option (Nat × Nat)} {α : Type} {c : List α} (h : WV S n v win) (hn : n = c.length) :
    ∃ A', v = .slice A' (winL win c).length (S.cap - winOff win) ∧ winOff win + (winL win c).length ≤ n ∧ (winOff win < S.cap → A' = S.A.map (·.add (winOff win * S.st))) := by
  cases win with
  | none =>
    simp only [WV] at h
    refine ⟨S.A, by simp [winL, winOff, h, hn], by simp [winL, winOff, hn], fun _ => ?_⟩
    cases S.A <;> simp [winOff, Addr.add]
  | some p =>
    obtain ⟨o', m⟩ := p
    obtain ⟨h1, A', h2, h3⟩ := h
    have e : (winL (some (o', m)) c).length = m := by simp [winL]; omega
    refine ⟨A', by rw [e]; exact h2, by rw [e]; exact h1, h3⟩

theorem ok_indexAddr {T : TypeId} {x ix : Operand} (h : SR w0 B Io R ρ Fr st a w) (hs : Sub s st) (ho : o.op = .indexAddr T x ix) (he : evalOp P env ib s o k = some r) :
    ∃ d, k d = some r ∧ OpOk P w0 B Io Fr ib st a w o d := by
  unfold evalOp at he
  rw [ho] at he
  simp only at he
  split at he
  · cases he
  · rename_i n hz
    split at he
    · rename_i kk i ei
      have hi := h.evs hs ix; rw [ei] at hi
      have hi' : a.eval ix = .int kk i := hi
      have hx := h.evs hs x
      split at he
      · rename_i U l e
        rw [e] at hx
        split at he
        · rename_i hn
          have hn : n = U.cells := of_decide_eq_true hn
          cases hl : lat l i with
          | none => rw [hl] at he; cases he
          | some y =>
            rw [hl] at he
            obtain ⟨i0, hy⟩ := lat_some hl
            obtain ⟨A, cap, h1, h2, h3, h4⟩ := hx
            obtain ⟨b, off, us, g1, g2, g3, g4, g5⟩ := h4 _ _ hy
            have h1' : a.eval x = .slice A l.length cap := List.cons.inj h1 |>.1
            have hlt := lt_of_get hy
            have i1 : i < (l.length : Int) := by omega
            refine ⟨_, he, .pure h (v := .pointer (some ⟨b, off + i.toNat * n, none⟩)) ?_ (VA.ofC ⟨b, off + i.toNat * n, by simp, g2, fun c z hc => ?_⟩)⟩
            · simp [execOp, ho, h1', hi', run_indexAt_slice hz g1 i0 i1]
            · obtain ⟨f1, f2⟩ := g4.flat
              have hc' : c < us.length := by rw [← f1]; exact lt_of_get hc
              refine ⟨us[c], ?_, f2 c _ z (List.getElem?_eq_getElem hc') hc⟩
              rw [hn, Nat.add_assoc]
              exact g5 c _ (List.getElem?_eq_getElem hc')
        · cases he
      · rename_i id row win e
        rw [e] at hx
        split at he
        · rename_i U c hf
          split at he
          · rename_i hn
            have hn : n = U.cells := of_decide_eq_true hn
            obtain ⟨S, m, hp, hw⟩ := hx
            obtain ⟨p1, p2, p3, p4⟩ := full_place h (hs.full hf) hp
            obtain ⟨A', q1, q2, q3⟩ := hw.open (c := c) p1
            by_cases hb : 0 ≤ i ∧ i < (winL win c).length
            · obtain ⟨i0, i1⟩ := hb
              simp only [i0, i1, decide_true, Bool.and_self, cond_true] at he
              obtain ⟨b, off, e1⟩ := p4 (by omega)
              have hA' : A' = some ⟨b, off + winOff win * S.st, none⟩ := by rw [q3 (by omega), e1]; simp [add_none]
              refine ⟨_, he, .pure h (v := .pointer (some ⟨b, off + winOff win * S.st + i.toNat * n, none⟩)) ?_ (VA.ofC ⟨S, m, b, off, hp, e1, by omega, ?_⟩)⟩
              · simp [execOp, ho, q1, hi', run_indexAt_slice hz hA' i0 i1]
              · rw [hn, ← p2, Nat.add_mul]; simp [Nat.add_assoc]
            · have : (decide (0 ≤ i) && decide (i < (winL win c).length)) = false := by
                simp only [Bool.and_eq_false_iff, decide_eq_false_iff_not]
                by_cases h0 : 0 ≤ i
                · exact Or.inr fun h1 => hb ⟨h0, h1⟩
                · exact Or.inl h0
              rw [this] at he; cases he
          · cases he
        · cases he
      · cases he
    · cases he

theorem run_eqGuard_ints {op : BinOp} {t : TypeId} {x y : Operand} {u v : Value} (h : (∀ cs, u ≠ .agg cs) ∧ u ≠ .nilIface) : (eqGuard op t x y u v).run P w = .ok () w := by
  unfold eqGuard
  cases op <;> simp
  all_goals (cases u <;> first | rfl | exact absurd rfl h.2 | exact absurd rfl (h.1 _) | (cases v <;> rfl))

theorem run_equal_bool {t : TypeId} (hu : P.underlying t = some .bool) (p q : Bool) : (Op.equal t (.bool p) (.bool q)).run P w = .ok (p == q) w := by
  obtain ⟨d, hd⟩ : ∃ d, Op.maxDepth = d + 1 := ⟨Op.maxDepth - 1, by decide⟩
  unfold Op.equal
  rw [hd]
  unfold Op.equalIn
  simp only [Sem.run_bind, run_underlying' hu, Result.andThen_ok]
  rfl
theorem run_eql_bool {t : TypeId} (hu : P.underlying t = some .bool) (p q : Bool) : (binOp .eql t (.bool p) (.bool q)).run P w = .ok (.bool (p == q)) w := by
  show ((do pure (Value.bool (← Op.equal t (.bool p) (.bool q)))) : Sem Value).run P w = _
  rw [Sem.run_bind, run_equal_bool hu]
  rfl
theorem run_neq_bool {t : TypeId} (hu : P.underlying t = some .bool) (p q : Bool) : (binOp .neq t (.bool p) (.bool q)).run P w = .ok (.bool (!(p == q))) w := by
  show ((do pure (Value.bool (!(← Op.equal t (.bool p) (.bool q))))) : Sem Value).run P w = _
  rw [Sem.run_bind, run_equal_bool hu]
  rfl

theorem binA_sound {op : BinOp} {t : TypeId} {x y : AVal} {kk : AVal → Option Rt} (he : binA op (isBoolT P t) x y kk = some r) {u v : Value} (hx : VA w R ρ u x) (hy : VA w R ρ v y) :
    ∃ z q, kk z = some r ∧ (binOp op t u v).run P w = .ok q w ∧ VA w R ρ q z ∧ ((∀ cs, u ≠ .agg cs) ∧ u ≠ .nilIface) := by
  unfold binA at he
  split at he
  · rename_i A m B' n
    have hx' : u = .int A m := hx
    have hy' : v = .int B' n := hy
    subst hx' hy'
    split at he
    · cases he
    · rename_i hAB
      have hAB : A = B' := of_decide_eq_true hAB
      subst hAB
      cases op <;> simp only at he
      case add => exact ⟨_, .int A (A.wrap (m + n)), he, by simp [binOp, Op.intArith], VA.ofC rfl, by simp, by simp⟩
      case sub => exact ⟨_, .int A (A.wrap (m - n)), he, by simp [binOp, Op.intArith], VA.ofC rfl, by simp, by simp⟩
      case mul => exact ⟨_, .int A (A.wrap (m * n)), he, by simp [binOp, Op.intArith], VA.ofC rfl, by simp, by simp⟩
      case quo =>
        by_cases hz : n = 0
        · simp [hz] at he
        · simp only [hz, decide_false, cond_false] at he
          exact ⟨_, .int A (A.wrap (m.tdiv n)), he, by simp [binOp, Op.intDiv, hz], VA.ofC rfl, by simp, by simp⟩
      case rem =>
        by_cases hz : n = 0
        · simp [hz] at he
        · simp only [hz, decide_false, cond_false] at he
          exact ⟨_, .int A (m.tmod n), he, by simp [binOp, Op.intDiv, hz], VA.ofC rfl, by simp, by simp⟩
      case eql => exact ⟨_, .bool (m == n), he, by simp [binOp, Op.intCmp], VA.ofC rfl, by simp, by simp⟩
      case neq => exact ⟨_, .bool (m != n), he, by simp [binOp, Op.intCmp], VA.ofC rfl, by simp, by simp⟩
      case lss => exact ⟨_, .bool (decide (m < n)), he, by simp [binOp, Op.intCmp], VA.ofC rfl, by simp, by simp⟩
      case leq => exact ⟨_, .bool (decide (m ≤ n)), he, by simp [binOp, Op.intCmp], VA.ofC rfl, by simp, by simp⟩
      case gtr => exact ⟨_, .bool (decide (m > n)), he, by simp [binOp, Op.intCmp], VA.ofC rfl, by simp, by simp⟩
      case geq => exact ⟨_, .bool (decide (m ≥ n)), he, by simp [binOp, Op.intCmp], VA.ofC rfl, by simp, by simp⟩
      all_goals cases he
  · rename_i p q
    have hx' : u = .bool p := hx
    have hy' : v = .bool q := hy
    subst hx' hy'
    split at he
    · rename_i _ _ _ htb
      have hu : P.underlying t = some .bool := by unfold isBoolT at htb; split at htb <;> first | assumption | cases htb
      exact ⟨_, .bool (p == q), he, run_eql_bool hu p q, VA.ofC rfl, by simp, by simp⟩
    · rename_i _ _ _ htb
      have hu : P.underlying t = some .bool := by unfold isBoolT at htb; split at htb <;> first | assumption | cases htb
      exact ⟨_, .bool (!(p == q)), he, run_neq_bool hu p q, VA.ofC rfl, by simp, by simp⟩
    · cases he
  · cases he

theorem ok_binOp {op : BinOp} {t t' : TypeId} {x y : Operand} (h : SR w0 B Io R ρ Fr st a w) (hs : Sub s st) (ho : o.op = .binOp op t x y t') (he : evalOp P env ib s o k = some r) :
    ∃ d, k d = some r ∧ OpOk P w0 B Io Fr ib st a w o d := by
  unfold evalOp at he
  rw [ho] at he
  simp only at he
  obtain ⟨z, q, h1, h2, h3, h4⟩ := binA_sound (P := P) he (h.evs hs x) (h.evs hs y)
  exact ⟨_, h1, .pure h (v := q) (by simp [execOp, ho, run_eqGuard_ints h4, h2]) h3⟩
end
end Go.OAI
