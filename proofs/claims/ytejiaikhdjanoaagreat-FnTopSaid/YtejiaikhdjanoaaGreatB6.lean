/- One operation, continued: slices cut, structs and slices built, slices made. One operation, continued: stores and appends. -/
import Derived.Test.YtejiaikhdjanoaaGreatB4
import Derived.Laws.MakeOwn
import Derived.Laws.AppendOwn
namespace Go.OAI
set_option linter.unusedVariables false
variable {P : Program} {w0 : W0} {w : World} {B : Nat} {Io R : Nat → Prop} {ρ : Nat → Option Pl} {Fr : Nat → Prop} {st s : St} {a : Act}
theorem foldl_set (off : Nat) : ∀ (l : List Value) (k : Nat) (cells : Array Value) (t : Nat),
    ((l.zipIdx k).foldl (fun (cs : Array Value) (p : Value × Nat) => cs.setIfInBounds (off + p.2) p.1) cells)[t]? =
      if off + k ≤ t ∧ t < off + k + l.length ∧ t < cells.size then l[t - off - k]? else cells[t]?
  | [], k, cells, t => by simp; intros; omega
  | x :: l, k, cells, t => by
    simp only [List.zipIdx_cons, List.foldl_cons]
    rw [foldl_set off l (k + 1)]
    simp only [Array.size_setIfInBounds, List.length_cons, Array.getElem?_setIfInBounds]
    by_cases h1 : off + (k + 1) ≤ t ∧ t < off + (k + 1) + l.length ∧ t < cells.size
    · have e : t - off - k = (t - off - (k + 1)) + 1 := by omega
      rw [if_pos h1, if_pos (by omega), e, List.getElem?_cons_succ]
    · rw [if_neg h1]
      by_cases h2 : off + k = t
      · simp only [h2, if_true]
        by_cases h3 : t < cells.size
        · have e : t - off - k = 0 := by omega
          rw [if_pos h3, if_pos (by omega), e]; rfl
        · rw [if_neg h3, if_neg (by omega)]
          simp [Array.getElem?_eq_none (Nat.le_of_not_lt h3)]
      · rw [if_neg h2, if_neg (by omega)]
theorem foldl_size (off : Nat) : ∀ (l : List (Value × Nat)) (cells : Array Value), (l.foldl (fun (cs : Array Value) (p : Value × Nat) => cs.setIfInBounds (off + p.2) p.1) cells).size = cells.size
  | [], _ => rfl
  | x :: l, cells => by simp only [List.foldl_cons]; rw [foldl_size off l]; simp
def layAt (cells : Array Value) (off : Nat) (v : Value) : Array Value := v.cells.zipIdx.foldl (fun cs (c, j) => cs.setIfInBounds (off + j) c) cells
theorem layAt_get (cells : Array Value) (off : Nat) (v : Value) (t : Nat) : (layAt cells off v)[t]? = if off ≤ t ∧ t < off + v.cells.size ∧ t < cells.size then v.cells[t - off]? else cells[t]? := by
  have := foldl_set off v.cells.toList 0 cells t
  unfold layAt
  rw [← Array.foldl_toList, Array.toList_zipIdx]
  simpa using this
theorem layAt_size (cells : Array Value) (off : Nat) (v : Value) : (layAt cells off v).size = cells.size := by
  unfold layAt
  rw [← Array.foldl_toList, Array.toList_zipIdx]
  exact foldl_size off _ cells
theorem fill_cons (place : Nat → Option (Nat × Nat)) (cells : Array Value) (i : Nat) (v : Value) (rest : List (Nat × Value)) (off size : Nat) (hp : place i = some (off, size)) (h1 : v.cells.size = size) (h2 : off + size ≤ cells.size) :
    Instr.fill place cells ((i, v) :: rest) = Instr.fill place (layAt cells off v) rest := by
  simp only [Instr.fill, hp]
  rw [if_neg]
  · rfl
  · simp [h1]; omega
section
variable {Rt : Type} {env : Nat → Option Callee} {ib : Nat} {o : Oper} {k : Delta → Option Rt} {r : Rt}
def RelC (w0 : W0) (w : World) (R : Nat → Prop) (ρ : Nat → Option Pl) (cells : Array Value) (cs : List AVal) : Prop :=
  cells.size = cs.length ∧ ∀ (i : Nat) u x, cells[i]? = some u → cs[i]? = some x → CA w0 w R ρ u x
theorem RelC.lay {cells : Array Value} {cs : List AVal} (h : RelC w0 w R ρ cells cs) {v : Value} {vs : List AVal} (hv : RelC w0 w R ρ v.cells vs) {off n : Nat} (h1 : vs.length = n) (h2 : off + n ≤ cs.length) :
    RelC w0 w R ρ (layAt cells off v) (cs.take off ++ vs ++ cs.drop (off + n)) := by
  obtain ⟨z, hc⟩ := h
  obtain ⟨zv, hcv⟩ := hv
  refine ⟨by rw [layAt_size, z]; simp; omega, fun i u x hu hx => ?_⟩
  rw [layAt_get] at hu
  rw [List.append_assoc] at hx
  by_cases a1 : i < off
  · rw [if_neg (by omega)] at hu
    rw [List.getElem?_append_left (by simp; omega), List.getElem?_take_of_lt a1] at hx
    exact hc i u x hu hx
  · rw [List.getElem?_append_right (by simp; omega)] at hx
    have e1 : (cs.take off).length = off := by simp; omega
    rw [e1] at hx
    by_cases a2 : i < off + n
    · rw [if_pos (by omega)] at hu
      rw [List.getElem?_append_left (by omega)] at hx
      exact hcv _ u x hu hx
    · rw [if_neg (by omega)] at hu
      rw [List.getElem?_append_right (by omega), List.getElem?_drop] at hx
      have e2 : off + n + (i - off - vs.length) = i := by omega
      rw [e2] at hx
      exact hc i u x hu hx
theorem zeroB_rel {T : TypeId} {zs : List AVal} (h : zeroB P T = some zs) : ∃ i v, P.info? T = some i ∧ i.zero = some v ∧ ∀ (w0 : W0) (w : World) (R : Nat → Prop) (ρ : Nat → Option Pl), RelC w0 w R ρ v.cells zs := by
  unfold zeroB at h
  split at h
  · rename_i i hi
    split at h
    · rename_i v hv
      split at h
      · rename_i hone
        cases h
        refine ⟨i, v, hi, hv, fun w0 w R ρ => ⟨by simp, fun j u y hu hy => ?_⟩⟩
        simp only [List.getElem?_map] at hy
        have hu' : v.cells.toList[j]? = some u := by simpa using hu
        rw [hu'] at hy
        cases hy
        exact ofVal_CA (List.all_eq_true.1 hone u (List.mem_of_getElem? hu'))
      · cases h
    · cases h
  · cases h
theorem fill_struct {t : TypeId} {fs : Array Field} (hu : P.underlying t = some (.struct fs)) (h : SR w0 B Io R ρ Fr st a w) (hs : Sub s st) (places : Array (Nat × Nat))
    (hpl : ∀ (i : Nat) f, fs[i]? = some f → ∀ n, sizeB P f.type = some n → places[i]? = some (f.offset, n)) : ∀ (ps : List (Nat × Operand)) (cells : Array Value) (cs cs' : List AVal), RelC w0 w R ρ cells cs → buildF P t s ps cs = some cs' →
    ∃ cells', Instr.fill (places[·]?) cells (ps.map fun p => (p.1, a.eval p.2)) = some cells' ∧ RelC w0 w R ρ cells' cs'
  | [], cells, cs, cs', hr, hb => by cases hb; exact ⟨cells, rfl, hr⟩
  | (i, x) :: ps, cells, cs, cs', hr, hb => by
    simp only [buildF] at hb
    split at hb
    · rename_i off ft vs hf hv
      split at hb
      · rename_i n hn
        split at hb
        · rename_i h1 h2
          have h1 := of_decide_eq_true h1
          have h2 := of_decide_eq_true h2
          have hfi : ∃ f, fs[i]? = some f ∧ f.offset = off ∧ f.type = ft := by
            unfold fieldB at hf
            rw [hu] at hf
            simp only at hf
            split at hf
            · rename_i f hf'; cases hf; exact ⟨f, hf', rfl, rfl⟩
            · cases hf
          obtain ⟨f, hf1, rfl, rfl⟩ := hfi
          have hv' : RelC w0 w R ρ (a.eval x).cells vs := cellsOfV_VA (h.evs hs x) hv
          obtain ⟨cells', g1, g2⟩ := fill_struct hu h hs places hpl ps (layAt cells f.offset (a.eval x)) _ cs' (hr.lay hv' h1 h2) hb
          refine ⟨cells', ?_, g2⟩
          rw [List.map_cons, fill_cons _ _ _ _ _ f.offset n (hpl i f hf1 n hn) (by rw [hv'.1, h1]) (by rw [hr.1]; exact h2)]
          exact g1
        · cases hb
      · cases hb
    · cases hb
theorem run_places (w : World) : ∀ (fs : List Field), fs.all (fun f => (sizeB P f.type).isSome) = true →
    ∃ places : List (Nat × Nat), (fs.mapM fun f => (do pure (f.offset, ← sizeOf f.type) : Sem (Nat × Nat))).run P w = .ok places w ∧ ∀ (i : Nat) f, fs[i]? = some f → ∀ n, sizeB P f.type = some n → places[i]? = some (f.offset, n)
  | [], _ => ⟨[], by simp, fun i f hf => by simp at hf⟩
  | f :: fs, h => by
    simp only [List.all_cons, Bool.and_eq_true] at h
    obtain ⟨n, hn⟩ := Option.isSome_iff_exists.1 h.1
    obtain ⟨places, h1, h2⟩ := run_places w fs h.2
    refine ⟨(f.offset, n) :: places, ?_, fun i g hg m hm => ?_⟩
    · rw [List.mapM_cons]
      simp only [Sem.run_bind, run_sizeB hn, Result.andThen_ok, Sem.run_pure, h1]
    · match i with
      | 0 => simp at hg; subst hg; rw [hn] at hm; cases hm; rfl
      | i + 1 => simpa using h2 i g (by simpa using hg) m hm
theorem ok_build {T : TypeId} {ps : Array (Nat × Operand)} (h : SR w0 B Io R ρ Fr st a w) (hs : Sub s st) (ho : o.op = .build T ps) (he : evalOp P env ib s o k = some r) :
    ∃ d, k d = some r ∧ OpOk P w0 B Io Fr ib st a w o d := by
  unfold evalOp at he
  rw [ho] at he
  simp only at he
  split at he
  · cases he
  · rename_i zs hz hst
    split at he
    · rename_i q har hps
      obtain ⟨i, v, hi, hv, hrel⟩ := zeroB_rel hz
      obtain ⟨g1, g2⟩ := hrel w0 w R ρ
      unfold arrB at har
      split at har
      · rename_i n e hu
        split at har
        · rename_i sz hsz
          have hps' : ps = #[] := by cases ps; simp at hps; subst hps; rfl
          subst hps'
          refine ⟨_, he, .pure h (v := .agg v.cells) ?_ ⟨v.cells, rfl, g1, g2⟩⟩
          simp [execOp, ho, Instr.build, Sem.run_bind, zeroValue, typeInfo, run_program, Result.andThen_ok, hi, hv, Sem.run_pure, run_underlying' hu, run_sizeB hsz, Instr.fill]
        · cases har
      · cases har
    · cases he
  · rename_i zs hz hst
    unfold structOk at hst
    split at hst
    · rename_i fs hu
      split at he
      · rename_i cs hb
        obtain ⟨i, v, hi, hv, hrel⟩ := zeroB_rel hz
        obtain ⟨places, hp1, hp2⟩ := run_places (P := P) w fs.toList hst
        have hp1' : (fs.mapM fun f => (do pure (f.offset, ← sizeOf f.type) : Sem (Nat × Nat))).run P w = .ok places.toArray w := by
          rw [Array.mapM_eq_mapM_toList, Sem.run_map, hp1]; rfl
        obtain ⟨cells', g1, g2⟩ := fill_struct hu h hs places.toArray (fun i f hf n hn => by simpa using hp2 i f (by simpa using hf) n hn) ps.toList v.cells zs cs (hrel w0 w R ρ) hb
        refine ⟨_, he, .pure h (v := .agg cells') ?_ ⟨cells', rfl, g2.1, g2.2⟩⟩
        simp only [execOp, ho, Instr.build, Sem.run_bind, zeroValue, typeInfo, run_program, Result.andThen_ok, hi, hv, Sem.run_pure, run_underlying' hu, hp1', Array.toList_map, g1]
      · cases he
    · cases hst
theorem fill_row (size : Nat) : ∀ (ps : List (Nat × Value)) (m : Nat) (cells : Array Value), (∀ (j : Nat) p, ps[j]? = some p → p.1 = m + j ∧ p.2.cells.size = size) → (m + ps.length) * size ≤ cells.size →
    ∃ cells', Instr.fill (fun i => some (i * size, size)) cells ps = some cells' ∧ cells'.size = cells.size ∧ (∀ t, t < m * size → cells'[t]? = cells[t]?) ∧
      ∀ (j c : Nat) p u, ps[j]? = some p → p.2.cells[c]? = some u → cells'[(m + j) * size + c]? = some u
  | [], m, cells, _, _ => ⟨cells, rfl, rfl, fun _ _ => rfl, fun j c p u hp => by simp at hp⟩
  | (i, v) :: ps, m, cells, h, hl => by
    obtain ⟨e1, e2⟩ := h 0 _ rfl
    simp only [Nat.add_zero] at e1 e2
    subst e1
    have hm : i * size + size ≤ cells.size := by
      have : (i + 1) * size ≤ (i + (ps.length + 1)) * size := Nat.mul_le_mul_right _ (by omega)
      rw [Nat.add_mul] at this
      simp at hl; omega
    obtain ⟨cells', g1, g2, g3, g4⟩ := fill_row size ps (i + 1) (layAt cells (i * size) v) (fun j p hp => by
      have := h (j + 1) p (by simpa using hp)
      exact ⟨by omega, this.2⟩) (by rw [layAt_size]; simp at hl; rw [show i + 1 + ps.length = i + (ps.length + 1) by omega]; exact hl)
    refine ⟨cells', by rw [fill_cons _ _ _ _ _ (i * size) size rfl e2 hm]; exact g1, by rw [g2, layAt_size], fun t ht => ?_, fun j c p u hp hu => ?_⟩
    · rw [g3 t (by rw [Nat.add_mul]; omega), layAt_get, if_neg (by omega)]
    · match j with
      | 0 =>
        simp at hp; subst hp
        have hc : c < v.cells.size := by
          rcases Nat.lt_or_ge c v.cells.size with h | h
          · exact h
          · simp [Array.getElem?_eq_none h] at hu
        rw [g3 _ (by simp only [Nat.add_zero]; rw [Nat.add_mul]; omega), layAt_get, if_pos (by simp only [Nat.add_zero]; omega)]
        simp only [Nat.add_zero]
        rw [show i * size + c - i * size = c by omega]
        exact hu
      | j + 1 =>
        have := g4 j c p u (by simpa using hp) hu
        rw [show i + (j + 1) = i + 1 + j by omega]; exact this
theorem buildL_spec {E : Ty} (h : SR w0 B Io R ρ Fr st a w) (hs : Sub s st) : ∀ (ps : List (Nat × Operand)) (l : List E.den), buildL E s ps = some l →
    l.length = ps.length ∧ ∀ (j : Nat) p x, ps[j]? = some p → l[j]? = some x → RT w R E (a.eval p.2).cells.toList x
  | [], l, hb => by cases hb; exact ⟨rfl, fun j p x hp => by simp at hp⟩
  | p :: ps, l, hb => by
    simp only [buildL] at hb
    split at hb
    · rename_i vs hv
      split at hb
      · rename_i y hy
        split at hb
        · rename_i l' hl'
          cases hb
          obtain ⟨g1, g2⟩ := buildL_spec h hs ps l' hl'
          refine ⟨by simp [g1], fun j q x hq hx => ?_⟩
          match j with
          | 0 =>
            simp at hq hx; subst hq; subst hx
            obtain ⟨z1, z2⟩ := cellsOfV_VA (h.evs hs p.2) hv
            unfold Ty.unflat1 at hy
            split at hy
            · rename_i x' hu
              cases hy
              have := RT.unflat (ρ := ρ) (vs := (a.eval p.2).cells.toList) hu (by simpa using z1) (fun c u y hu hy => z2 c u y (by simpa using hu) hy)
              obtain ⟨q1, q2, q3⟩ := this
              have hlen : (a.eval p.2).cells.toList.length ≤ E.cells := by
                have : vs.drop E.cells = [] := q3.symm
                have := List.drop_eq_nil_iff.1 this
                simp only [Array.length_toList]; omega
              rwa [List.take_of_length_le hlen] at q1
            · cases hy
          | j + 1 => exact g2 j q x (by simpa using hq) (by simpa using hx)
        · cases hb
      · cases hb
    · cases hb
theorem elemTyS_spec {T : TypeId} {E : Ty} (h : elemTyS P T = some E) : ∃ e, P.underlying T = some (.slice e) ∧ sizeB P e = some E.cells := by
  unfold elemTyS at h
  split at h
  · rename_i E' n h1 h2
    split at h
    · rename_i hn
      cases h
      have hn := of_decide_eq_true hn
      unfold elemSz at h2
      split at h2
      · rename_i e hu
        exact ⟨e, hu, by rw [h2, hn]⟩
      · cases h2
    · cases h
  · cases h
theorem bld_cases (E : Ty) (l : List E.den) : (∃ U, E = .slice U ∧ l.length = 0 ∧ bldObj E l = .mat U []) ∨ bldObj E l = .sl E l := by
  cases E with
  | slice U => cases l with
    | nil => exact .inl ⟨U, rfl, rfl, rfl⟩
    | cons x r => exact .inr rfl
  | _ => exact .inr rfl
theorem ok_buildSlice {T : TypeId} {len : Nat} {ps : Array (Nat × Operand)} (h : SR w0 B Io R ρ Fr st a w) (hs : Sub s st) (hf : Fr ib) (ho : o.op = .buildSlice T len ps) (he : evalOp P env ib s o k = some r) :
    ∃ ob, k ⟨.sref ib none none, [(ib, some ob)]⟩ = some r ∧ OpOk P w0 B Io Fr ib st a w o ⟨.sref ib none none, [(ib, some ob)]⟩ := by
  unfold evalOp at he
  rw [ho] at he
  simp only at he
  split at he
  · rename_i E zs hE hZ
    split at he
    · rename_i hsz hrange
      have hsz := of_decide_eq_true hsz
      have hrange := of_decide_eq_true hrange
      split at he
      · rename_i l hl
        obtain ⟨e, hu, hz⟩ := elemTyS_spec hE
        have hZ' : zeroB P e = some zs := by unfold elemZero at hZ; rw [hu] at hZ; exact hZ
        obtain ⟨i, v, hi, hv, hrel⟩ := zeroB_rel hZ'
        obtain ⟨l1, l2⟩ := buildL_spec h hs ps.toList l hl
        have hlen : ps.toList.length = len := by have := congrArg List.length hrange; simpa using this
        have hidx : ∀ (j : Nat) p, ps.toList[j]? = some p → p.1 = j := fun j p hp => by
          have e1 : (ps.toList.map (·.1))[j]? = some p.1 := by rw [List.getElem?_map, hp]; rfl
          have hj : j < len := by rw [← hlen]; exact lt_of_get hp
          rw [hrange, List.getElem?_range hj] at e1
          cases e1; rfl
        obtain ⟨z, hz1, hz2⟩ : ∃ z : Array Value, (len * E.cells = 0 → z = #[]) ∧ (len * E.cells ≠ 0 → z = v.cells) := by
          by_cases h0 : len * E.cells = 0
          · exact ⟨#[], fun _ => rfl, fun h => absurd h0 h⟩
          · exact ⟨v.cells, fun h => absurd h h0, fun _ => rfl⟩
        have hcs : ∀ (j : Nat) p, ps.toList[j]? = some p → (a.eval p.2).cells.size = E.cells := fun j p hp => by
          have hj : j < l.length := by rw [l1]; exact lt_of_get hp
          have := (l2 j p _ hp (List.getElem?_eq_getElem hj)).len
          simpa using this
        obtain ⟨cells', f1, f2, f3, f4⟩ := fill_row E.cells (ps.toList.map fun p => (p.1, a.eval p.2)) 0 ((Array.range (len * E.cells)).map (z[· % z.size]!)) (fun j p hp => by
          rw [List.getElem?_map] at hp
          cases e1 : ps.toList[j]? with
          | none => rw [e1] at hp; cases hp
          | some q =>
            rw [e1] at hp; cases hp
            exact ⟨by simpa using hidx j q e1, hcs j q e1⟩) (by simp [← hlen])
        have hrun : (execOp a.eval o).run P w = .ok (.value (.slice (some ⟨w.heap.size, 0, none⟩) len len)) (pushW w (.cells cells' e)) := by
          have hnot : ¬ (len * E.cells > 2 ^ 24) := by omega
          by_cases h0 : len * E.cells = 0
          · have hz1 := hz1 h0
            subst hz1
            simp only [execOp, ho, Instr.buildSlice, Sem.run_bind, run_underlying' hu, Result.andThen_ok, run_sizeB hz, if_neg hnot, if_pos h0, Array.toList_map, f1, Sem.run_pure]
            rfl
          · have hz2 := hz2 h0
            subst hz2
            simp only [execOp, ho, Instr.buildSlice, Sem.run_bind, run_underlying' hu, Result.andThen_ok, run_sizeB hz, if_neg hnot, if_neg h0, zeroValue, typeInfo, run_program, hi, hv, Array.toList_map, f1, Sem.run_pure]
            rfl
        rcases bld_cases E l with ⟨U, rfl, hl0, hb⟩ | hb
        · rw [hb] at he
          have hlen0 : len = 0 := by omega
          subst hlen0
          let S : SPl := ⟨some ⟨w.heap.size, 0, none⟩, 0, 1⟩
          refine ⟨_, he, .made h hf (p := .mat S 0 (fun _ => (⟨none, 0, U.cells⟩, 0))) hrun ⟨S, fun _ => (⟨none, 0, U.cells⟩, 0), rfl, rfl, Nat.zero_le _, fun hc => absurd rfl hc, fun j r hr => by simp at hr, fun i j b h1 => by simp at h1, fun i b h1 => by simp at h1⟩ (fun b hb => ?_) ?_⟩
          · rcases hb with ⟨_, off, e1⟩ | ⟨i, _, h1, _⟩
            · cases e1; rfl
            · exact absurd rfl h1
          · exact VA.ofC ⟨S, 0, by simp [plS], rfl⟩
        rw [hb] at he
        refine ⟨_, he, .made h hf (p := .sl ⟨some ⟨w.heap.size, 0, none⟩, len, E.cells⟩ len) hrun ⟨⟨some ⟨w.heap.size, 0, none⟩, len, E.cells⟩, by rw [l1, hlen], rfl, by rw [l1, hlen]; exact Nat.le_refl _, fun hc => ?_⟩ (fun b hb => ?_) ?_⟩
        · refine ⟨w.heap.size, 0, cells', e, rfl, pushW_last w _, by simp [f2], fun j x hx => ?_⟩
          have hj : j < ps.toList.length := by rw [← l1]; exact lt_of_get hx
          have hp := List.getElem?_eq_getElem hj
          refine ⟨_, (l2 j _ x hp hx).mono (fun b hb => pushW_grows w _ b (h.rlt b hb)) (fun _ hb => hb), fun c u hu' => ?_⟩
          have := f4 j c (ps.toList[j].1, a.eval ps.toList[j].2) u (by rw [List.getElem?_map, hp]; rfl) (by simpa using hu')
          simpa using this
        · obtain ⟨_, off, e1⟩ := hb; cases e1; rfl
        · exact VA.ofC ⟨⟨some ⟨w.heap.size, 0, none⟩, len, E.cells⟩, len, by simp [plS], rfl⟩
      · cases he
    · cases he
  · cases he
theorem ok_makeSlice {T : TypeId} {x y : Operand} (h : SR w0 B Io R ρ Fr st a w) (hs : Sub s st) (hf : Fr ib) (ho : o.op = .makeSlice T x y) (he : evalOp P env ib s o k = some r) :
    ∃ d, k d = some r ∧ OpOk P w0 B Io Fr ib st a w o d := by
  unfold evalOp at he
  rw [ho] at he
  simp only at he
  split at he
  · rename_i E zs hE hZ
    obtain ⟨e, hu, hz⟩ := elemTyS_spec hE
    have hZ' : zeroB P e = some zs := by unfold elemZero at hZ; rw [hu] at hZ; exact hZ
    obtain ⟨i, v, hi, hv, hrel⟩ := zeroB_rel hZ'
    split at he
    · rename_i hby
      have hby := of_decide_eq_true hby
      have hby' : i.bytes ≤ 256 := by simpa [elemBytes, hu, bytesB, hi] using hby
      have hsz : i.size = E.cells := by simpa [sizeB, hi] using hz
      split at he
      · rename_i k1 n k2 m e1 e2
        have hx := h.evs hs x; rw [e1] at hx
        have hx' : a.eval x = .int k1 n := hx
        have hy := h.evs hs y; rw [e2] at hy
        have hy' : a.eval y = .int k2 m := hy
        split at he
        · rename_i ob hob
          by_cases hb : 0 ≤ n ∧ n ≤ m ∧ m ≤ 1099511627776
          · obtain ⟨b0, b1, b2⟩ := hb
            simp only [b0, b1, b2, decide_true, Bool.and_self, cond_true] at he
            have hrun := run_make (P := P) w T e i v hu hi hv k1 k2 n m b0 b1 (by
              have hm0 : 0 ≤ m := by omega
              have : (i.bytes : Int) * m ≤ 256 * m := Int.mul_le_mul_of_nonneg_right (by omega) hm0
              omega) (by omega)
            have hnm : n.toNat ≤ m.toNat := by omega
            have hrunE : (execOp a.eval o).run P w = .ok (.value (.slice (some ⟨w.heap.size, 0, none⟩) n.toNat m.toNat)) (pushW w (.cells (madeCells v.cells (m.toNat * E.cells)) e)) := by
              simp only [execOp, ho, hx', hy', Sem.run_bind, hrun, Result.andThen_ok, Sem.run_pure, hsz]
              rfl
            have hget : ∀ t, t < m.toNat * E.cells → E.cells = v.cells.size → (madeCells v.cells (m.toNat * E.cells))[t]? = v.cells[t % E.cells]? := by
              intro t ht hvs
              have hE0 : 0 < E.cells := by
                rcases Nat.eq_zero_or_pos E.cells with h0 | h0
                · rw [h0] at ht; simp at ht
                · exact h0
              have hmod : t % E.cells < v.cells.size := by rw [← hvs]; exact Nat.mod_lt _ hE0
              simp only [madeCells]
              rw [Array.getElem?_map, Array.getElem?_range, if_pos ht]
              simp only [Option.map_some, ← hvs]
              rw [getElem!_pos v.cells _ hmod, Array.getElem?_eq_getElem hmod]
            let S : SPl := ⟨some ⟨w.heap.size, 0, none⟩, m.toNat, E.cells⟩
            have hval : ∀ ρ', ρ' ib = some (.sl S n.toNat) ∨ (∃ rows, ρ' ib = some (.mat S n.toNat rows)) → VA w0 (pushW w (.cells (madeCells v.cells (m.toNat * E.cells)) e)) R ρ' (.slice (some ⟨w.heap.size, 0, none⟩) n.toNat m.toNat) (.sref ib none none) := by
              intro ρ' hρ'
              refine VA.ofC ⟨S, n.toNat, ?_, rfl⟩
              rcases hρ' with h1 | ⟨rows, h1⟩ <;> rw [h1] <;> rfl
            unfold makeObj at hob
            split at hob
            · rename_i U
              split at hob
              · cases hob
                have hvc : v.cells = #[.slice none 0 0] := by
                  obtain ⟨q1, q2⟩ := hrel w0 w R ρ
                  have hs1 : v.cells.size = 1 := by simpa using q1
                  have : CA w0 w R ρ v.cells[0] .nils := q2 0 _ _ (by simp [hs1]) rfl
                  apply Array.ext
                  · simpa using hs1
                  · intro j h1 h2
                    have : j = 0 := by omega
                    subst this
                    simpa [CA, RA] using this
                refine ⟨_, he, .made h hf (p := .mat S n.toNat (fun _ => (⟨none, 0, U.cells⟩, 0))) hrunE ⟨S, fun _ => (⟨none, 0, U.cells⟩, 0), by simp, rfl, by simpa [S] using hnm, fun hc => ?_, fun j r hr => ?_, fun i j b h1 h2 h3 h4 h5 => ?_, fun i b h1 h2 h3 => ?_⟩ (fun b hb => ?_) (hval _ (.inr ⟨fun _ => (⟨none, 0, U.cells⟩, 0), by simp⟩))⟩
                · refine ⟨w.heap.size, 0, _, e, rfl, pushW_last w _, by rw [size_madeCells]; show 0 + m.toNat ≤ m.toNat * 1; omega, fun j r hr => ?_⟩
                  have hj : j < n.toNat := by have := lt_of_get hr; simpa using this
                  have hr' : r = [] := by
                    have := List.mem_of_getElem? hr
                    exact (List.mem_replicate.1 this).2
                  subst hr'
                  rw [hget (0 + j) (by simp [Ty.cells]; omega) (by simp [hvc, Ty.cells]), hvc]
                  simp [Ty.cells, Nat.mod_one]
                · have hr' : r = [] := by
                    have := List.mem_of_getElem? hr
                    exact (List.mem_replicate.1 this).2
                  subst hr'
                  exact ⟨rfl, rfl, by simp, fun hc => absurd rfl hc⟩
                · exact absurd rfl h4.1
                · exact absurd rfl h3.1
                · rcases hb with ⟨_, off, e1⟩ | ⟨i, _, h1, _⟩
                  · cases e1; rfl
                  · exact absurd rfl h1
              · cases hob
            · split at hob
              · rename_i y' hy''
                cases hob
                have hrt : RT w R E v.cells.toList y' := by
                  obtain ⟨q1, q2⟩ := hrel w0 w R ρ
                  unfold Ty.unflat1 at hy''
                  split at hy''
                  · rename_i hun
                    cases hy''
                    obtain ⟨g1, g2, g3⟩ := RT.unflat (ρ := ρ) (vs := v.cells.toList) hun (by simpa using q1) (fun c u y hu hy => q2 c u y (by simpa using hu) hy)
                    have hlen : v.cells.toList.length ≤ E.cells := by
                      have := List.drop_eq_nil_iff.1 g3.symm
                      simp only [Array.length_toList]; omega
                    rwa [List.take_of_length_le hlen] at g1
                  · cases hy''
                have hvs : E.cells = v.cells.size := by have := hrt.len; simpa using this.symm
                refine ⟨_, he, .made h hf (p := .sl S n.toNat) hrunE ⟨S, by simp, rfl, by simpa [S] using hnm, fun hc => ?_⟩ (fun b hb => ?_) (hval _ (.inl (by simp)))⟩
                · refine ⟨w.heap.size, 0, _, e, rfl, pushW_last w _, by simp [S, size_madeCells], fun j x hx => ?_⟩
                  have hj : j < n.toNat := by have := lt_of_get hx; simpa using this
                  have hx' : x = y' := by
                    have := List.mem_of_getElem? hx
                    exact (List.mem_replicate.1 this).2
                  subst hx'
                  refine ⟨v.cells.toList, hrt.mono (fun b hb => pushW_grows w _ b (h.rlt b hb)) (fun _ hb => hb), fun c u hu' => ?_⟩
                  have hc : c < E.cells := by rw [hvs]; have := lt_of_get hu'; simpa using this
                  have hlt : 0 + (j * E.cells + c) < m.toNat * E.cells := by
                    have : (j + 1) * E.cells ≤ m.toNat * E.cells := Nat.mul_le_mul_right _ (by omega)
                    rw [Nat.add_mul] at this
                    omega
                  rw [hget _ hlt hvs]
                  rw [show (0 + (j * E.cells + c)) % E.cells = c by rw [Nat.zero_add, Nat.mul_comm, Nat.mul_add_mod]; exact Nat.mod_eq_of_lt hc]
                  simpa using hu'
                · obtain ⟨_, off, e1⟩ := hb; cases e1; rfl
              · cases hob
          · have : (decide (0 ≤ n) && (decide (n ≤ m) && decide (m ≤ 1099511627776))) = false := by
              rcases Bool.eq_false_or_eq_true (decide (0 ≤ n) && (decide (n ≤ m) && decide (m ≤ 1099511627776))) with h | h
              · simp at h; exact absurd ⟨h.1, h.2.1, h.2.2⟩ hb
              · exact h
            rw [this] at he; cases he
        · cases he
      · cases he
    · cases he
  · cases he
theorem elemSz_spec {T : TypeId} {n : Nat} (h : elemSz P T = some n) : ∃ e, P.underlying T = some (.slice e) ∧ sizeB P e = some n := by
  unfold elemSz at h
  split at h
  · rename_i e hu; exact ⟨e, hu, h⟩
  · cases h
theorem run_sliceBound {kk : IntKind} {i : Int} {y : Nat} {code : BoundsCode} (h0 : 0 ≤ i) (h1 : i ≤ y) (w : World) : (Instr.sliceBound (.int kk i) y code).run P w = .ok i.toNat w := by
  simp [Instr.sliceBound, asIntOf, h0, h1]
theorem run_sliceAt {T : TypeId} {sz : Nat} (hz : elemSz P T = some sz) {A : Option Addr} {len cap : Nat} {lo hi : Option Value} {l h' : Int}
    (hlo : lo = none ∧ l = 0 ∨ ∃ kk, lo = some (.int kk l)) (hhi : hi = none ∧ h' = len ∨ ∃ kk, hi = some (.int kk h')) (h0 : 0 ≤ l) (h1 : l ≤ h') (h2 : h' ≤ len) (h3 : len ≤ cap) (w : World) :
    (Instr.sliceAt T (.slice A len cap) lo hi none).run P w = .ok (.slice (if cap = l.toNat then A else A.map (·.add (l.toNat * sz))) (h'.toNat - l.toNat) (cap - l.toNat)) w := by
  obtain ⟨e, hu, hs⟩ := elemSz_spec hz
  have hb1 : ∀ code, (Instr.sliceBound (.int .i64 0) 0 code).run P w = .ok 0 w := fun code => by simp [Instr.sliceBound, asIntOf]
  have eh : (h'.toNat : Int) = h' := by omega
  rcases hhi with ⟨rfl, rfl⟩ | ⟨kh, rfl⟩
  · rcases hlo with ⟨rfl, rfl⟩ | ⟨kl, rfl⟩
    · simp [Instr.sliceAt, Instr.slice, Instr.sliceBounds, run_underlying' hu, run_sizeB hs]
    · simp [Instr.sliceAt, Instr.slice, Instr.sliceBounds, run_underlying' hu, run_sizeB hs, run_sliceBound (P := P) h0 h1]
  · have hb : ∀ code, (Instr.sliceBound (.int kh h') cap code).run P w = .ok h'.toNat w := fun code => run_sliceBound (by omega) (by omega) w
    rcases hlo with ⟨rfl, rfl⟩ | ⟨kl, rfl⟩
    · simp [Instr.sliceAt, Instr.slice, Instr.sliceBounds, run_underlying' hu, run_sizeB hs, hb]
    · have hc : ∀ code, (Instr.sliceBound (.int kl l) h'.toNat code).run P w = .ok l.toNat w := fun code => run_sliceBound h0 (by omega) w
      simp [Instr.sliceAt, Instr.slice, Instr.sliceBounds, run_underlying' hu, run_sizeB hs, hb, hc]
theorem run_sliceStr {T : TypeId} (hu : P.underlying T = some .string) {s : ByteArray} {lo hi : Option Value} {l h' : Int}
    (hlo : lo = none ∧ l = 0 ∨ ∃ kk, lo = some (.int kk l)) (hhi : hi = none ∧ h' = s.size ∨ ∃ kk, hi = some (.int kk h')) (h0 : 0 ≤ l) (h1 : l ≤ h') (h2 : h' ≤ s.size) :
    (Instr.sliceAt T (.string s) lo hi none).run P w = .ok (.string (s.extract l.toNat h'.toNat)) w := by
  have eh : (h'.toNat : Int) = h' := by omega
  rcases hhi with ⟨rfl, rfl⟩ | ⟨kh, rfl⟩
  · rcases hlo with ⟨rfl, rfl⟩ | ⟨kl, rfl⟩
    · simp [Instr.sliceAt, Instr.slice, Instr.sliceBounds, run_underlying' hu]
    · simp [Instr.sliceAt, Instr.slice, Instr.sliceBounds, run_underlying' hu, run_sliceBound (P := P) h0 h1]
  · have hb : ∀ code, (Instr.sliceBound (.int kh h') s.size code).run P w = .ok h'.toNat w := fun code => run_sliceBound (by omega) (by omega) w
    rcases hlo with ⟨rfl, rfl⟩ | ⟨kl, rfl⟩
    · simp [Instr.sliceAt, Instr.slice, Instr.sliceBounds, run_underlying' hu, hb]
    · have hc : ∀ code, (Instr.sliceBound (.int kl l) h'.toNat code).run P w = .ok l.toNat w := fun code => run_sliceBound h0 (by omega) w
      simp [Instr.sliceAt, Instr.slice, Instr.sliceBounds, run_underlying' hu, hb, hc]
theorem loOf_spec (h : SR w0 B Io R ρ Fr st a w) (hs : Sub s st) {x : Option Operand} {l : Int} (he : loOf s x = some l) : (x.map a.eval = none ∧ l = 0) ∨ ∃ kk, x.map a.eval = some (.int kk l) := by
  unfold loOf at he
  split at he
  · cases he; exact .inl ⟨rfl, rfl⟩
  · rename_i e
    split at he
    · rename_i kk i e1
      have := h.evs hs e; rw [e1] at this
      have this : a.eval e = .int kk i := this
      cases he
      exact .inr ⟨kk, by simp [this]⟩
    · cases he
theorem hiOf_spec (h : SR w0 B Io R ρ Fr st a w) (hs : Sub s st) {x : Option Operand} {o : Option Int} (he : hiOf s x = some o) (n : Int) :
    (x.map a.eval = none ∧ o.getD n = n) ∨ ∃ kk, x.map a.eval = some (.int kk (o.getD n)) := by
  unfold hiOf at he
  split at he
  · cases he; exact .inl ⟨rfl, rfl⟩
  · rename_i e
    split at he
    · rename_i kk i e1
      have := h.evs hs e; rw [e1] at this
      have this : a.eval e = .int kk i := this
      cases he
      exact .inr ⟨kk, by simp [this]⟩
    · cases he
theorem ok_slice {T : TypeId} {x : Operand} {lo hi mx : Option Operand} (h : SR w0 B Io R ρ Fr st a w) (hs : Sub s st) (ho : o.op = .slice T x lo hi mx) (he : evalOp P env ib s o k = some r) :
    ∃ d, k d = some r ∧ OpOk P w0 B Io Fr ib st a w o d := by
  unfold evalOp at he
  rw [ho] at he
  simp only at he
  split at he
  · rename_i sz hz
    split at he
    · rename_i l hh hlo hhi
      have hx := h.evs hs x
      have hlo' := loOf_spec h hs hlo
      split at he
      · rename_i id row win e
        rw [e] at hx
        split at he
        · rename_i U c hf
          split at he
          · cases he
          · rename_i hn
            have hn : sz = U.cells := of_decide_eq_true hn
            obtain ⟨S, m, hp, hw⟩ := hx
            obtain ⟨p1, p2, p3, p4⟩ := full_place h (hs.full hf) hp
            obtain ⟨A', q1, q2, q3⟩ := hw.open (c := c) p1
            have hhi' := hiOf_spec h hs hhi ((winL win c).length : Int)
            by_cases hb : 0 ≤ l ∧ l ≤ hh.getD ((winL win c).length : Int) ∧ hh.getD ((winL win c).length : Int) ≤ ((winL win c).length : Int)
            · obtain ⟨b0, b1, b2⟩ := hb
              simp only [b0, b1, b2, decide_true, Bool.and_self, cond_true] at he
              have hrun := run_sliceAt (P := P) hz (A := A') (cap := S.cap - winOff win) hlo' hhi' b0 b1 b2 (by omega) w
              refine ⟨_, he, .pure h (v := .slice (if S.cap - winOff win = l.toNat then A' else A'.map (·.add (l.toNat * sz))) ((hh.getD ((winL win c).length : Int)).toNat - l.toNat) (S.cap - winOff win - l.toNat))
                (by simp only [execOp, ho, q1, Option.map_none, Sem.run_bind, hrun, Result.andThen_ok, Sem.run_pure]) (VA.ofC ⟨S, m, hp, ?_, _, by rw [Nat.sub_sub], fun hlt => ?_⟩)⟩
              · omega
              · obtain ⟨b, off, e1⟩ := p4 (by omega)
                rw [if_neg (by omega), q3 (by omega), e1, p2, hn]
                simp [add_none, Nat.add_mul, Nat.add_assoc]
            · have : (decide (0 ≤ l) && (decide (l ≤ hh.getD ((winL win c).length : Int)) && decide (hh.getD ((winL win c).length : Int) ≤ ((winL win c).length : Int)))) = false := by
                cases hq : (decide (0 ≤ l) && (decide (l ≤ hh.getD ((winL win c).length : Int)) && decide (hh.getD ((winL win c).length : Int) ≤ ((winL win c).length : Int))))
                · rfl
                · simp only [Bool.and_eq_true, decide_eq_true_eq] at hq; exact absurd hq hb
              rw [this] at he; cases he
        · cases he
      · rename_i U c e
        rw [e] at hx
        split at he
        · cases he
        · rename_i hn
          have hn : sz = U.cells := of_decide_eq_true hn
          obtain ⟨A, cap, h1, h2, h3, h4⟩ := hx
          have h1' : a.eval x = .slice A c.length cap := (List.cons.inj h1).1
          have hhi' := hiOf_spec h hs hhi (c.length : Int)
          by_cases hb : 0 ≤ l ∧ l ≤ hh.getD (c.length : Int) ∧ hh.getD (c.length : Int) ≤ (c.length : Int)
          · obtain ⟨b0, b1, b2⟩ := hb
            simp only [b0, b1, b2, decide_true, Bool.and_self, cond_true] at he
            have hrun := run_sliceAt (P := P) hz (A := A) (cap := cap) hlo' hhi' b0 b1 b2 h2 w
            have hlen : ((c.drop l.toNat).take ((hh.getD (c.length : Int)).toNat - l.toNat)).length = (hh.getD (c.length : Int)).toNat - l.toNat := by simp; omega
            refine ⟨_, he, .pure h (v := .slice (if cap = l.toNat then A else A.map (·.add (l.toNat * sz))) ((hh.getD (c.length : Int)).toNat - l.toNat) (cap - l.toNat))
              (by simp only [execOp, ho, h1', Option.map_none, Sem.run_bind, hrun, Result.andThen_ok, Sem.run_pure]) (VA.ofC ⟨_, _, by rw [hlen], by rw [hlen]; omega, fun hA => ?_, fun i y hy => ?_⟩)⟩
            · split at hA
              · have := h3 hA; omega
              · have : A = none := by cases A <;> simp_all
                have := h3 this; omega
            · have hi : i < (hh.getD (c.length : Int)).toNat - l.toNat := by rw [← hlen]; exact lt_of_get hy
              rw [List.getElem?_take_of_lt hi, List.getElem?_drop] at hy
              obtain ⟨b, off, us, g1, g2, g3, g4, g5⟩ := h4 _ _ hy
              refine ⟨b, off + l.toNat * sz, us, ?_, g2, g3, g4, fun c' u hu => ?_⟩
              · rw [if_neg (by omega), g1]; simp [add_none]
              · have := g5 c' u hu
                rw [Nat.add_mul] at this
                rw [hn, Nat.add_assoc, ← Nat.add_assoc (l.toNat * U.cells)]; exact this
          · have : (decide (0 ≤ l) && (decide (l ≤ hh.getD (c.length : Int)) && decide (hh.getD (c.length : Int) ≤ (c.length : Int)))) = false := by
              cases hq : (decide (0 ≤ l) && (decide (l ≤ hh.getD (c.length : Int)) && decide (hh.getD (c.length : Int) ≤ (c.length : Int))))
              · rfl
              · simp only [Bool.and_eq_true, decide_eq_true_eq] at hq; exact absurd hq hb
            rw [this] at he; cases he
      · cases he
    · cases he
  · split at he
    · rename_i l hh hT hlo hhi
      have hu : P.underlying T = some .string := by
        unfold isStrT at hT
        split at hT
        · assumption
        · cases hT
      have hx := h.evs hs x
      have hlo' := loOf_spec h hs hlo
      split at he
      · rename_i sb e
        rw [e] at hx
        have hx : a.eval x = .string sb := hx
        have hhi' := hiOf_spec h hs hhi (sb.size : Int)
        by_cases hb : 0 ≤ l ∧ l ≤ hh.getD (sb.size : Int) ∧ hh.getD (sb.size : Int) ≤ (sb.size : Int)
        · obtain ⟨b0, b1, b2⟩ := hb
          simp only [b0, b1, b2, decide_true, Bool.and_self, cond_true] at he
          refine ⟨_, he, .pure h (v := .string (sb.extract l.toNat (hh.getD (sb.size : Int)).toNat)) ?_ (VA.ofC rfl)⟩
          have hrun := run_sliceStr (P := P) (w := w) hu hlo' hhi' b0 b1 b2
          simp only [execOp, ho, hx, Option.map_none, Sem.run_bind, hrun, Result.andThen_ok, Sem.run_pure]
        · have : (decide (0 ≤ l) && (decide (l ≤ hh.getD (sb.size : Int)) && decide (hh.getD (sb.size : Int) ≤ (sb.size : Int)))) = false := by
            cases hq : (decide (0 ≤ l) && (decide (l ≤ hh.getD (sb.size : Int)) && decide (hh.getD (sb.size : Int) ≤ (sb.size : Int))))
            · rfl
            · simp only [Bool.and_eq_true, decide_eq_true_eq] at hq; exact absurd hq hb
          rw [this] at he; cases he
      · cases he
    · cases he
  · cases he
end
variable {P : Program} {w0 : W0} {w w' : World} {B : Nat} {Io R : Nat → Prop} {ρ : Nat → Option Pl} {Fr : Nat → Prop} {st s : St} {a : Act}
def patch (L : List Value) (q : Nat) (vs : List Value) : List Value := L.take q ++ vs ++ L.drop (q + vs.length)
theorem patch_get {L : List Value} {q : Nat} {vs : List Value} (h : q + vs.length ≤ L.length) (t : Nat) :
    (patch L q vs)[t]? = if q ≤ t ∧ t < q + vs.length then vs[t - q]? else L[t]? := by
  unfold patch
  rw [List.append_assoc]
  by_cases h1 : t < q
  · rw [if_neg (by omega), List.getElem?_append_left (by simp; omega), List.getElem?_take_of_lt h1]
  · rw [List.getElem?_append_right (by simp; omega)]
    have e : (L.take q).length = q := by simp; omega
    rw [e]
    by_cases h2 : t < q + vs.length
    · rw [if_pos (by omega), List.getElem?_append_left (by omega)]
    · rw [if_neg (by omega), List.getElem?_append_right (by omega), List.getElem?_drop]
      congr 1; omega
theorem patch_length {L : List Value} {q : Nat} {vs : List Value} (h : q + vs.length ≤ L.length) : (patch L q vs).length = L.length := by
  unfold patch; simp; omega
theorem setRow_quiet (w : World) (g : Nat) (cs : Array Value) : Quiet w (w.setRow g cs) := ⟨rfl, rfl⟩
theorem run_storeVar' {T : TypeId} {n b off : Nat} {v : Value} {arr : Array Value} {E : TypeId} (hn : sizeB P T = some n) (hv : v.cells.size = n) (h1 : ∀ u ∈ v.cells.toList, u.oneCell' = true)
    (hb : w.heap[b]? = some (.cells arr E (0, 0))) (hl : off + n ≤ arr.size) :
    (storeVar T ⟨b, off, none⟩ v).run P w = .ok () (w.setRow b (patch arr.toList off v.cells.toList).toArray) := by
  have := run_storeCells_at P b off E v.cells.toList 0 arr w hb (by simp [hv]; omega) h1
  simp only [Nat.add_zero] at this
  simp only [storeVar, Sem.run_bind, run_sizeB hn, Result.andThen_ok, hv]
  simpa [patch] using this
theorem CA.fill {id : Nat} {S : SPl} {n h0 : Nat} {rows rows' : Nat → SPl × Nat} {ρ' : Nat → Option Pl} {v : Value} {x : AVal} (hx : CA w0 w R ρ v x) (hs : Same R w w') (hρ : ∀ j, j ≠ id → ρ' j = ρ j)
    (h1 : ρ id = some (.matH S n rows h0)) (h2 : ρ' id = some (.mat S n rows')) : CA w0 w' R ρ' v x := by
  have hpl : ∀ j row y, plS (ρ j) row = some y → plS (ρ' j) row = some y := fun j row y hy => by
    by_cases e : j = id
    · subst e
      rw [h1] at hy
      cases row with
      | none => rw [h2]; exact hy
      | some r => simp [plS] at hy
    · rw [hρ j e]; exact hy
  have hbx : ∀ j b off, ρ j = some (.box b off) → ρ' j = some (.box b off) := fun j b off hy => by
    by_cases e : j = id
    · subst e; rw [h1] at hy; cases hy
    · rw [hρ j e]; exact hy
  cases x
  case sref j row win =>
    obtain ⟨S', n', g1, g2⟩ := hx
    exact ⟨S', n', hpl _ _ _ g1, g2⟩
  case ptr j c =>
    obtain ⟨b, off, g1, g2⟩ := hx
    exact ⟨b, off, hbx _ _ _ g1, g2⟩
  case eptr j row i c =>
    obtain ⟨S', n', b, off, g1, g2⟩ := hx
    exact ⟨S', n', b, off, hpl _ _ _ g1, g2⟩
  case vptr cs c =>
    obtain ⟨b, off, g1, g2, g3⟩ := hx
    refine ⟨b, off, g1, g2, fun k y hy => ?_⟩
    obtain ⟨u, q1, q2⟩ := g3 k y hy
    exact ⟨u, by rw [hs.cellAt g2]; exact q1, q2.mono hs (fun _ hb => hb)⟩
  case sl T l => exact RA.mono (a := .sl T l) hs (fun _ hb => hb) hx
  case fn f caps =>
    obtain ⟨us, g1, g2, g3⟩ := hx
    refine ⟨us, g1, g2, fun i u y hu hy => ?_⟩
    have hp := g3 i u y hu hy
    cases y with
    | ptr j c =>
      obtain ⟨b, off, q1, q2⟩ := hp
      exact ⟨b, off, hbx _ _ _ q1, q2⟩
    | _ => exact hp.elim
  all_goals exact hx
theorem VA1.toC {v : Value} {x : AVal} (h1 : ∀ cs, x ≠ .agg cs) (h3 : x ≠ .undef) (hx : VA1 w0 w R ρ v x) : CA w0 w R ρ v x := by
  cases x <;> first | exact hx | exact absurd rfl (h1 _) | exact absurd rfl h3
theorem VA.to1 {v : Value} {x : AVal} (h1 : ∀ cs, x ≠ .tup cs) (hx : VA w0 w R ρ v x) : VA1 w0 w R ρ v x := by
  cases x <;> first | exact hx | exact absurd rfl (h1 _)
theorem VA1.fill {id : Nat} {S : SPl} {n h0 : Nat} {rows rows' : Nat → SPl × Nat} {ρ' : Nat → Option Pl} {v : Value} {x : AVal} (hx : VA1 w0 w R ρ v x) (hs : Same R w w') (hρ : ∀ j, j ≠ id → ρ' j = ρ j)
    (h1 : ρ id = some (.matH S n rows h0)) (h2 : ρ' id = some (.mat S n rows')) : VA1 w0 w' R ρ' v x := by
  cases x
  case agg cs =>
    obtain ⟨us, g1, g2, g3⟩ := hx
    exact ⟨us, g1, g2, fun i u y hu hy => (g3 i u y hu hy).fill hs hρ h1 h2⟩
  case undef => exact trivial
  all_goals exact VA1.ofC (CA.fill (VA1.toC (by simp) (by simp) hx) hs hρ h1 h2)
theorem VA.fill {id : Nat} {S : SPl} {n h0 : Nat} {rows rows' : Nat → SPl × Nat} {ρ' : Nat → Option Pl} {v : Value} {x : AVal} (hx : VA w0 w R ρ v x) (hs : Same R w w') (hρ : ∀ j, j ≠ id → ρ' j = ρ j)
    (h1 : ρ id = some (.matH S n rows h0)) (h2 : ρ' id = some (.mat S n rows')) : VA w0 w' R ρ' v x := by
  cases x
  case tup xs =>
    obtain ⟨us, g1, g2, g3⟩ := hx
    exact ⟨us, g1, g2, fun i u y hu hy => (g3 i u y hu hy).fill hs hρ h1 h2⟩
  all_goals exact VA.of1 (VA1.fill (VA.to1 (by simp) hx) hs hρ h1 h2)
theorem SR.fillH (h : SR w0 B Io R ρ Fr st a w) {id id2 i o0 : Nat} {T : Ty} {l : List (List T.den)} {m : List T.den} (hob : st.ob id = some (.matH T l i o0)) (hil : i < l.length) (hob2 : st.ob id2 = some (.sl T m)) (hne : id2 ≠ id)
    {S S2 : SPl} {rows : Nat → SPl × Nat} (hq : ρ id = some (.matH S l.length rows i)) (hq2 : ρ id2 = some (.sl S2 m.length)) {b off : Nat} {arr : Array Value} {E : TypeId} (hSA : S.A = some ⟨b, off, none⟩) (hheap : w.heap[b]? = some (.cells arr E (0, 0))) :
    SR w0 B Io R (fun j => if j = id then some (.mat S l.length fun j => if j = i then (S2, m.length) else rows j) else ρ j) Fr
      { st with ob := fun j => if j = id2 then none else if j = id then some (.mat T (l.set i m)) else st.ob j } a (w.setRow b (patch arr.toList (off + i) [.slice S2.A m.length S2.cap]).toArray) := by
  obtain ⟨q, hq', S1, rows1, rfl, m1, m2, m3, m4, m5, m6, m7⟩ := h.ob id _ hob
  rw [hq] at hq'; cases hq'
  have hc : S.cap ≠ 0 := by omega
  obtain ⟨b', off', arr', E', e1, e2, e3, e4⟩ := m3 hc
  rw [hSA] at e1; cases e1
  rw [hheap] at e2; cases e2
  obtain ⟨q2, hq2', S2', rfl, x2⟩ := h.ob id2 _ hob2
  rw [hq2] at hq2'
  obtain rfl : S2' = S2 := by cases hq2'; rfl
  have hSb : S.blk b := ⟨hc, off, hSA⟩
  have hother : ∀ b', ¬ S.blk b' → (w.setRow b (patch arr.toList (off + i) [.slice S2'.A m.length S2'.cap]).toArray).heap[b']? = w.heap[b']? := fun b' hb' => setRow_other w b b' _ (fun e => hb' (e ▸ hSb))
  have hR : Same R w (w.setRow b (patch arr.toList (off + i) [.slice S2'.A m.length S2'.cap]).toArray) := fun b' hb' => hother b' fun hs => (h.own id _ _ b' hob hq (Or.inl hs)).2.1 hb'
  let rows' : Nat → SPl × Nat := fun j => if j = i then (S2', m.length) else rows j
  let ρ' : Nat → Option Pl := fun j => if j = id then some (.mat S l.length rows') else ρ j
  have hρ : ∀ j, j ≠ id → ρ' j = ρ j := fun j hj => by simp [ρ', hj]
  have h2 : ρ' id = some (.mat S l.length rows') := by simp [ρ']
  have hpg := patch_get (L := arr.toList) (q := off + i) (vs := [.slice S2'.A m.length S2'.cap]) (by simp; omega)
  have hS2 : ∀ b, S2'.blk b → S.blk b → False := fun b hb hb' => h.sep id2 _ id _ _ _ b hne hob2 hob hq2 hq hb (Or.inl hb')
  have hS3 : ∀ b t, t < l.length → t ≠ i → S2'.blk b → (rows t).1.blk b → False := fun b t ht hti hb hb' => h.sep id2 _ id _ _ _ b hne hob2 hob hq2 hq hb (Or.inr ⟨t, ht, hti, hb'⟩)
  have hold : ∀ {j : Nat} {o : Obj}, (if j = id2 then none else if j = id then some (.mat T (l.set i m)) else st.ob j) = some o → j ≠ id2 ∧ ((j = id ∧ o = .mat T (l.set i m)) ∨ (j ≠ id ∧ st.ob j = some o)) := fun {j o} hj => by
    by_cases c1 : j = id2
    · simp [c1] at hj
    · by_cases c2 : j = id
      · simp only [c1, c2, if_false, if_true] at hj
        rw [if_neg (by rw [← c2]; exact c1)] at hj
        cases hj
        exact ⟨c1, .inl ⟨c2, rfl⟩⟩
      · simp only [c1, c2, if_false] at hj
        exact ⟨c1, .inr ⟨c2, hj⟩⟩
  have hblk : ∀ b, blkO (.mat S l.length rows') b → blkO (.matH S l.length rows i) b ∨ S2'.blk b := fun b hb => by
    rcases hb with hb | ⟨t, ht, hb⟩
    · exact .inl (.inl hb)
    · by_cases e : t = i
      · simp only [rows', e, if_true] at hb; exact .inr hb
      · simp only [rows', e, if_false] at hb; exact .inl (.inr ⟨t, ht, e, hb⟩)
  refine { size := h.size, dfr := h.dfr, tm := fun t => (h.tm t).fill hR hρ hq h2, ob := ?_, sep := ?_, own := ?_, rlt := ?_, frame := ?_, size0 := ?_, fr := ?_, r0 := h.r0, r1 := h.r1, q := h.q.trans (setRow_quiet _ _ _), par := h.par, f0 := h.f0 }
  · intro j o1 ho1
    obtain ⟨c1, ⟨rfl, rfl⟩ | ⟨c2, c3⟩⟩ := hold ho1
    · refine ⟨_, h2, S, rows', by simp, m1, by simpa using m2, fun _ => ⟨b, off, _, E, hSA, setRow_heap w b arr _ E _ hheap, by simp only [List.size_toArray]; rw [patch_length (by simp; omega)]; simpa using e3, fun t rr hrr => ?_⟩, fun t rr hrr => ?_, fun t1 t2 b' h1 h2 h3 h4 h5 => ?_, fun t b' h1 h2 h3 => ?_⟩
      · rw [List.getElem?_toArray, hpg]
        by_cases ht : t = i
        · subst ht
          rw [List.getElem?_set_self hil] at hrr
          cases hrr
          rw [if_pos (by simp)]
          simp [rows']
        · rw [List.getElem?_set_ne (Ne.symm ht)] at hrr
          rw [if_neg (by simp; omega)]
          have := e4 t rr hrr
          simp only [rows', ht, if_false]
          simpa using this
      · by_cases ht : t = i
        · subst ht
          rw [List.getElem?_set_self hil] at hrr
          cases hrr
          have er : rows' t = (S2', m.length) := by simp [rows']
          rw [er]
          exact ⟨rfl, x2.mono hR (fun _ hb => hb) fun b' hb' => hother b' fun hs => hS2 b' hb' hs⟩
        · rw [List.getElem?_set_ne (Ne.symm ht)] at hrr
          simp only [rows', ht, if_false]
          obtain ⟨y1, y2⟩ := m4 t rr hrr ht
          exact ⟨y1, y2.mono hR (fun _ hb => hb) fun b' hb' => hother b' fun hs => m6 t b' (lt_of_get hrr) ht hs hb'⟩
      · simp only [List.length_set] at h1 h2
        by_cases a1 : t1 = i
        · have a2 : t2 ≠ i := fun e => h3 (by rw [a1, e])
          simp only [rows', a1, if_true] at h4
          simp only [rows', a2, if_false] at h5
          exact hS3 b' t2 h2 a2 h4 h5
        · simp only [rows', a1, if_false] at h4
          by_cases a2 : t2 = i
          · simp only [rows', a2, if_true] at h5
            exact hS3 b' t1 h1 a1 h5 h4
          · simp only [rows', a2, if_false] at h5
            exact m5 t1 t2 b' h1 h2 a1 a2 h3 h4 h5
      · simp only [List.length_set] at h1
        by_cases a1 : t = i
        · simp only [rows', a1, if_true] at h3
          exact hS2 b' h3 h2
        · simp only [rows', a1, if_false] at h3
          exact m6 t b' h1 a1 h2 h3
    · obtain ⟨q, g1, g2⟩ := h.ob j o1 c3
      refine ⟨q, by show ρ' j = _; rw [hρ j c2]; exact g1, ?_⟩
      have hbl : ∀ b', blkO q b' → (w.setRow b (patch arr.toList (off + i) [.slice S2'.A m.length S2'.cap]).toArray).heap[b']? = w.heap[b']? := fun b' hb' => hother b' fun hs => h.sep j o1 id _ q _ b' c2 c3 hob g1 hq hb' (Or.inl hs)
      cases o1 with
      | box cs =>
        obtain ⟨b1, off1, arr1, E1, rfl, f2, f3⟩ := g2
        refine ⟨b1, off1, arr1, E1, rfl, by rw [hbl b1 rfl]; exact f2, fun k x hx => ?_⟩
        obtain ⟨u, q1, q2⟩ := f3 k x hx
        exact ⟨u, q1, q2.fill hR hρ hq h2⟩
      | sl T' l' => exact OA.mono (ρ := ρ) (ρ' := ρ) hR (fun _ hb => hb) (.refl ρ) hbl (o := .sl T' l') g2
      | mat T' l' => exact OA.mono (ρ := ρ) (ρ' := ρ) hR (fun _ hb => hb) (.refl ρ) hbl (o := .mat T' l') g2
      | matH T' l' h' o' =>
        obtain ⟨S3, rows3, g3, g4, g5, g6, g7, g8, g9, g10⟩ := OA.mono (ρ := ρ) (ρ' := ρ) hR (fun _ hb => hb) (.refl ρ) hbl (o := .matH T' l' h' o') g2
        refine ⟨S3, rows3, g3, g4, g5, g6, g7, g8, g9, fun r hr => ?_⟩
        have := g10 r hr
        have e : o' ≠ id := fun e => by rw [e, hq] at this; cases this
        show ρ' o' = _
        rw [hρ o' e]; exact this
  · intro j o1 j' o1' p p' b1 hjj hj hj' hp0 hp0' hb hb'
    obtain ⟨c1, d1⟩ := hold hj
    obtain ⟨c1', d1'⟩ := hold hj'
    have hp : ρ' j = some p := hp0
    have hp' : ρ' j' = some p' := hp0'
    clear hp0 hp0'
    rcases d1 with ⟨rfl, rfl⟩ | ⟨c2, c3⟩
    · rcases d1' with ⟨rfl, rfl⟩ | ⟨c2', c3'⟩
      · exact hjj rfl
      · rw [h2] at hp; cases hp
        rw [hρ j' c2'] at hp'
        rcases hblk b1 hb with hb | hb
        · exact h.sep _ _ j' _ _ _ b1 hjj hob c3' hq hp' hb hb'
        · exact h.sep id2 _ j' _ _ _ b1 (Ne.symm c1') hob2 c3' hq2 hp' hb hb'
    · rw [hρ j c2] at hp
      rcases d1' with ⟨rfl, rfl⟩ | ⟨c2', c3'⟩
      · rw [h2] at hp'; cases hp'
        rcases hblk b1 hb' with hb' | hb'
        · exact h.sep j _ _ _ _ _ b1 hjj c3 hob hp hq hb hb'
        · exact h.sep j _ id2 _ _ _ b1 c1 c3 hob2 hp hq2 hb hb'
      · rw [hρ j' c2'] at hp'
        exact h.sep j _ j' _ _ _ b1 hjj c3 c3' hp hp' hb hb'
  · intro j o1 p b1 hj hp hb
    rw [setRow_size]
    obtain ⟨c1, d1⟩ := hold hj
    have hp : ρ' j = some p := hp
    rcases d1 with ⟨rfl, rfl⟩ | ⟨c2, c3⟩
    · rw [h2] at hp; cases hp
      rcases hblk b1 hb with hb | hb
      · exact h.own _ _ _ b1 hob hq hb
      · exact h.own id2 _ _ b1 hob2 hq2 hb
    · rw [hρ j c2] at hp
      exact h.own j _ _ b1 c3 hp hb
  · intro b1 hb; rw [setRow_size]; exact h.rlt b1 hb
  · intro b1 hb hn
    rw [hother b1 fun hs => ?_]
    · exact h.frame b1 hb hn
    · rcases (h.own id _ _ b1 hob hq (Or.inl hs)).2.2 with q | q
      · omega
      · exact hn q
  · rw [setRow_size]; exact h.size0
  · intro j hj
    have := h.fr j hj
    have e : j ≠ id := fun e => by rw [e, hq] at this; cases this
    show ρ' j = none
    rw [hρ j e]; exact this
section
variable {Rt : Type} {env : Nat → Option Callee} {ib : Nat} {o : Oper} {k : Delta → Option Rt} {r : Rt}
theorem run_store_op {T : TypeId} {p x : Operand} {b off : Nat} {w' : World} (ho : o.op = .store T p x) (hp : a.eval p = .pointer (some ⟨b, off, none⟩)) (hr : (storeVar T ⟨b, off, none⟩ (a.eval x)).run P w = .ok () w') :
    (execOp a.eval o).run P w = .ok .skip w' := by
  simp [execOp, ho, hp, Instr.storeAt, Instr.sureAddr, hr]
theorem OpOk.stored (h : SR w0 B Io R ρ Fr st a w) {w' : World} (hr : (execOp a.eval o).run P w = .ok .skip w') {id : Nat} {x y : Obj} {p : Pl} (ho : st.ob id = some x) (hp : ρ id = some p)
    (hw : ∀ b, ¬ blkO p b → w'.heap[b]? = w.heap[b]?) (hz : w'.heap.size = w.heap.size) (hy : Same R w w' → OA w0 w' R ρ p y) (hq : Quiet w w' := by exact setRow_quiet _ _ _) : OpOk P w0 B Io Fr ib st a w o ⟨.undef, [(id, some y)]⟩ :=
  .skip hr ⟨R, ρ, by
    have := ((h.chg ho hp hw hz hq hy).undef o.dst undef).weaken (Fr' := fun i => Fr i ∧ ¬ Own ib i) (fun i hi => hi.1)
    rw [app_one]
    have e : ({ st.put o.dst .undef with ob := fun i => if i = id then some y else (st.put o.dst .undef).ob i } : St) = ({ st with ob := fun i => if i = id then some y else st.ob i } : St).put o.dst .undef := by
      cases o.dst with
      | none => rfl
      | some d => simp only [St.put]; unfold St.setTm; by_cases hd : d < st.n <;> simp [hd]
    rw [e]; exact this⟩
theorem cells_one {v : Value} {vs : List AVal} (hv : v.cells.size = vs.length ∧ ∀ (k : Nat) u y, v.cells[k]? = some u → vs[k]? = some y → CA w0 w R ρ u y) : ∀ u ∈ v.cells.toList, u.oneCell' = true := by
  intro u hu
  obtain ⟨k, hk, rfl⟩ := List.getElem_of_mem hu
  have hk' : k < vs.length := by rw [← hv.1]; simpa using hk
  exact (hv.2 k _ _ (by simp at hk; simp [hk]) (List.getElem?_eq_getElem hk')).one
theorem elem_new {T : Ty} {us : List Value} {x y : T.den} {vs : List AVal} {v : Value} {c n : Nat} (hrt : RT w R T us x) (hv : v.cells.size = vs.length ∧ ∀ (k : Nat) u y, v.cells[k]? = some u → vs[k]? = some y → CA w0 w R ρ u y)
    (hn : vs.length = n) (hle : c + n ≤ T.cells) (hy : T.unflat1 ((T.flat x).take c ++ vs ++ (T.flat x).drop (c + n)) = some y) : RT w R T (patch us c v.cells.toList) y := by
  obtain ⟨f1, f2⟩ := hrt.flat
  have hvl : v.cells.toList.length = n := by simp [hv.1, hn]
  have hus := hrt.len
  unfold Ty.unflat1 at hy
  split at hy
  · rename_i y' hun
    cases hy
    have hl' : c + v.cells.toList.length ≤ us.length := by rw [hvl, hus]; exact hle
    have hlen : (patch us c v.cells.toList).length = ((T.flat x).take c ++ vs ++ (T.flat x).drop (c + n)).length := by
      rw [patch_length hl']; simp; omega
    obtain ⟨g1, g2, g3⟩ := RT.unflat (w0 := w0) (w := w) (R := R) (ρ := ρ) (vs := patch us c v.cells.toList) hun hlen (fun j u z hu hz => by
      rw [patch_get hl'] at hu
      rw [List.append_assoc] at hz
      by_cases h1 : j < c
      · rw [if_neg (by omega)] at hu
        rw [List.getElem?_append_left (by simp; omega), List.getElem?_take_of_lt h1] at hz
        exact CA.ofR (f2 j u z hu hz)
      · rw [List.getElem?_append_right (by simp; omega)] at hz
        have e1 : ((T.flat x).take c).length = c := by simp; omega
        rw [e1] at hz
        by_cases h2 : j < c + n
        · rw [if_pos (by omega)] at hu
          rw [List.getElem?_append_left (by omega)] at hz
          exact hv.2 _ u z (by simpa using hu) hz
        · rw [if_neg (by omega)] at hu
          rw [List.getElem?_append_right (by omega), List.getElem?_drop] at hz
          have e2 : c + n + (j - c - vs.length) = j := by omega
          rw [e2] at hz
          exact CA.ofR (f2 j u z hu hz))
    have hl2 : (patch us c v.cells.toList).length ≤ T.cells := by
      have := List.drop_eq_nil_iff.1 g3.symm
      rw [hlen]; exact this
    rwa [List.take_of_length_le hl2] at g1
  · cases hy
theorem SlOwn.store {T : Ty} {S : SPl} {l : List T.den} (h : SlOwn w R T S l) (hR : ∀ b, R b → ¬ S.blk b) {b off i c n : Nat} (hA : S.A = some ⟨b, off, none⟩) (hi : i < l.length) {vs : List AVal} {v : Value} {y : T.den}
    (hv : v.cells.size = vs.length ∧ ∀ (k : Nat) u y, v.cells[k]? = some u → vs[k]? = some y → CA w0 w R ρ u y) (hn : vs.length = n) (hle : c + n ≤ T.cells)
    (hy : T.unflat1 ((T.flat (l.getD i T.dflt)).take c ++ vs ++ (T.flat (l.getD i T.dflt)).drop (c + n)) = some y) :
    ∃ arr E, w.heap[b]? = some (.cells arr E (0, 0)) ∧ off + (i * S.st + c) + n ≤ arr.size ∧
      ∀ w', w' = w.setRow b (patch arr.toList (off + (i * S.st + c)) v.cells.toList).toArray → SlOwn w' R T S (l.set i y) := by
  obtain ⟨h1, h2, h3⟩ := h
  have hc0 : S.cap ≠ 0 := by omega
  obtain ⟨b', off', arr, E, e1, e2, e3, e4⟩ := h3 hc0
  rw [hA] at e1; cases e1
  have hvl : v.cells.toList.length = n := by simp [hv.1, hn]
  have hm : i * T.cells + T.cells ≤ S.cap * T.cells := by
    have : (i + 1) * T.cells ≤ S.cap * T.cells := Nat.mul_le_mul_right _ (by omega)
    rwa [Nat.add_mul, Nat.one_mul] at this
  have hfit : off + (i * S.st + c) + n ≤ arr.size := by rw [h1]; omega
  refine ⟨arr, E, e2, hfit, fun w' hw' => ?_⟩
  have hs : Same R w w' := fun b' hb' => by
    rw [hw', setRow_other]
    intro e; subst e
    exact hR _ hb' ⟨hc0, off, hA⟩
  refine ⟨h1, by simpa using h2, fun _ => ⟨b, off, _, E, hA, by rw [hw']; exact setRow_heap w b arr _ E _ e2, ?_, fun j x hx => ?_⟩⟩
  · rw [List.size_toArray, patch_length (by rw [hvl]; simpa using hfit)]; simpa using e3
  · have hj : j < l.length := by have := lt_of_get hx; simpa using this
    have hpg := patch_get (L := arr.toList) (q := off + (i * S.st + c)) (vs := v.cells.toList) (by rw [hvl]; simpa using hfit)
    by_cases hji : j = i
    · subst hji
      have hlj : l[j]? = some (l.getD j T.dflt) := by simp [List.getElem?_eq_getElem hj, List.getD]
      have hx' : x = y := by rw [List.getElem?_set_self hj] at hx; exact (Option.some.inj hx).symm
      subst hx'
      obtain ⟨us, g1, g2⟩ := e4 j _ hlj
      have hus := g1.len
      refine ⟨patch us c v.cells.toList, (elem_new g1 hv hn hle hy).mono hs (fun _ hb => hb), fun t u hu => ?_⟩
      rw [patch_get (by rw [hvl, hus]; exact hle)] at hu
      rw [List.getElem?_toArray, hpg, h1, hvl]
      rw [hvl] at hu
      by_cases h5 : c ≤ t ∧ t < c + n
      · rw [if_pos h5] at hu
        rw [if_pos (by omega), show off + (j * T.cells + t) - (off + (j * T.cells + c)) = t - c by omega]
        exact hu
      · rw [if_neg h5] at hu
        rw [if_neg (by omega)]
        simpa using g2 t u hu
    · rw [List.getElem?_set_ne (Ne.symm hji)] at hx
      obtain ⟨us, g1, g2⟩ := e4 j x hx
      have hus := g1.len
      refine ⟨us, g1.mono hs (fun _ hb => hb), fun t u hu => ?_⟩
      have ht : t < T.cells := by rw [← hus]; exact lt_of_get hu
      rw [List.getElem?_toArray, hpg, h1, hvl, if_neg]
      · simpa using g2 t u hu
      · rcases Nat.lt_or_gt_of_ne hji with hlt | hgt
        · have : (j + 1) * T.cells ≤ i * T.cells := Nat.mul_le_mul_right _ (by omega)
          rw [Nat.add_mul, Nat.one_mul] at this
          omega
        · have : (i + 1) * T.cells ≤ j * T.cells := Nat.mul_le_mul_right _ (by omega)
          rw [Nat.add_mul, Nat.one_mul] at this
          omega
theorem ok_store {T : TypeId} {p x : Operand} (h : SR w0 B Io R ρ Fr st a w) (hs : Sub s st) (ho : o.op = .store T p x) (he : evalOp P env ib s o k = some r) :
    ∃ d, k d = some r ∧ OpOk P w0 B Io Fr ib st a w o d := by
  unfold evalOp at he
  rw [ho] at he
  simp only at he
  split at he
  · cases he
  · rename_i n hn
    split at he
    · cases he
    · rename_i vs hvs
      split at he
      · cases he
      · rename_i hvn
        have hvn := of_decide_eq_true hvn
        have hv := cellsOfV_VA (h.evs hs x) hvs
        have hp := h.evs hs p
        have hvl : (a.eval x).cells.size = n := by rw [hv.1, hvn]
        have hvl' : (a.eval x).cells.toList.length = n := by simp [hvl]
        have hone := cells_one hv
        split at he
        · rename_i id c e
          rw [e] at hp
          split at he
          · rename_i cs hob
            by_cases hle0 : c + n ≤ cs.length ∧ 0 < n
            · obtain ⟨hle, hn0⟩ := hle0
              simp only [hle, hn0, decide_true, Bool.and_self, cond_true] at he
              obtain ⟨b, off, h1, h2⟩ := hp
              have hob' := hs.obj hob
              obtain ⟨q, hq, hoa⟩ := h.ob id _ hob'
              obtain ⟨b', off', arr, E, rfl, e2, e3⟩ := hoa
              rw [h1] at hq; cases hq
              have hfit : off + c + n ≤ arr.size := by
                obtain ⟨u, hu, _⟩ := e3 (c + n - 1) _ (List.getElem?_eq_getElem (by omega))
                have : off + (c + n - 1) < arr.size := (Array.getElem?_eq_some_iff.1 hu).1
                omega
              have hrun := run_storeVar' (P := P) hn hvl hone e2 hfit
              have hpg := patch_get (L := arr.toList) (q := off + c) (vs := (a.eval x).cells.toList) (by rw [hvl']; simpa using hfit)
              refine ⟨_, he, .stored h (run_store_op ho h2 hrun) hob' h1 (fun b' hb' => setRow_other w b b' _ (fun e => hb' e.symm)) (setRow_size _ _ _) (fun hsame => ?_)⟩
              refine ⟨b, off, _, E, rfl, setRow_heap w b arr _ E _ e2, fun j z hz => ?_⟩
              rw [List.append_assoc] at hz
              rw [List.getElem?_toArray, hpg, hvl']
              by_cases a1 : j < c
              · rw [if_neg (by omega)]
                rw [List.getElem?_append_left (by simp; omega), List.getElem?_take_of_lt a1] at hz
                obtain ⟨u, q1, q2⟩ := e3 j z hz
                exact ⟨u, by simpa using q1, q2.mono hsame (fun _ hb => hb) (.refl _)⟩
              · rw [List.getElem?_append_right (by simp; omega)] at hz
                have e1 : (cs.take c).length = c := by simp; omega
                rw [e1] at hz
                by_cases a2 : j < c + n
                · rw [if_pos (by omega), show off + j - (off + c) = j - c by omega]
                  rw [List.getElem?_append_left (by omega)] at hz
                  have hjc : j - c < (a.eval x).cells.size := by omega
                  refine ⟨(a.eval x).cells[j - c], by simp [hjc], (hv.2 (j - c) _ z (by simp [hjc]) hz).mono hsame (fun _ hb => hb) (.refl _)⟩
                · rw [if_neg (by omega)]
                  rw [List.getElem?_append_right (by omega), List.getElem?_drop] at hz
                  rw [show c + n + (j - c - vs.length) = j by omega] at hz
                  obtain ⟨u, q1, q2⟩ := e3 j z hz
                  exact ⟨u, by simpa using q1, q2.mono hsame (fun _ hb => hb) (.refl _)⟩
            · have : (decide (c + n ≤ cs.length) && decide (0 < n)) = false := by
                cases hq : (decide (c + n ≤ cs.length) && decide (0 < n))
                · rfl
                · simp only [Bool.and_eq_true, decide_eq_true_eq] at hq; exact absurd hq hle0
              rw [this] at he; cases he
          · cases he
        · rename_i id row i c e
          rw [e] at hp
          obtain ⟨S, n', b, off, p1, p2, p3, p4⟩ := hp
          split at he
          · rename_i U l hob
            have hob' := hs.obj hob
            obtain ⟨q, hq, hoa⟩ := h.ob id _ hob'
            have hoa0 := hoa
            obtain ⟨S', rfl, hown⟩ := hoa
            split at he
            · split at he
              · rename_i hle
                have hle := of_decide_eq_true hle
                split at he
                · rename_i y hy
                  rw [hq] at p1; simp only [plS] at p1; cases p1
                  obtain ⟨arr, E, g1, g2, g3⟩ := hown.store (fun b' hb' hb'' => (h.own id _ _ b' hob' hq hb'').2.1 hb') p2 p3 hv hvn hle hy
                  have hrun := run_storeVar' (P := P) (off := off + (i * S.st + c)) hn hvl hone g1 g2
                  refine ⟨_, he, .stored h (run_store_op ho p4 hrun) hob' hq (fun b' hb' => setRow_other w b b' _ (fun e => hb' ?_)) (setRow_size _ _ _) (fun hsame => ⟨S, by simp, g3 _ rfl⟩)⟩
                  subst e
                  have := hown.2.1
                  exact ⟨by omega, off, p2⟩
                · cases he
              · cases he
            · cases he
          · rename_i U l hob
            have hob' := hs.obj hob
            obtain ⟨q, hq, hoa⟩ := h.ob id _ hob'
            obtain ⟨S', rows, rfl, m1, m2, m3, m4, m5, m6⟩ := hoa
            split at he
            · rename_i j
              split at he
              · rename_i hle
                have hle := of_decide_eq_true hle
                split at he
                · rename_i y hy
                  rw [hq] at p1; simp only [plS] at p1
                  split at p1
                  · rename_i hj
                    have p1' := Option.some.inj p1
                    obtain ⟨rfl, rfl⟩ : S = (rows j).1 ∧ n' = (rows j).2 := by rw [p1']; exact ⟨rfl, rfl⟩
                    obtain ⟨q1, q2⟩ := m4 j _ (List.getElem?_eq_getElem hj)
                    have ej : l.getD j [] = l[j] := by simp [List.getD, List.getElem?_eq_getElem hj]
                    rw [ej] at hy he
                    rw [q1] at p3
                    have hblk : (rows j).1.blk b := ⟨by have := q2.2.1; omega, off, p2⟩
                    obtain ⟨arr, E, g1, g2, g3⟩ := q2.store (fun b' hb' hb'' => (h.own id _ _ b' hob' hq (Or.inr ⟨j, hj, hb''⟩)).2.1 hb') p2 p3 hv hvn hle hy
                    have hrun := run_storeVar' (P := P) (off := off + (i * (rows j).1.st + c)) hn hvl hone g1 g2
                    refine ⟨_, he, .stored h (run_store_op ho p4 hrun) hob' hq (fun b' hb' => setRow_other w b b' _ (fun e => hb' ?_)) (setRow_size _ _ _) (fun hsame => ⟨S', rows, by simp, m1, by simpa using m2, fun hc => ?_, fun t rw' hrw => ?_, by simpa using m5, by simpa using m6⟩)⟩
                    · subst e; exact Or.inr ⟨j, hj, hblk⟩
                    · obtain ⟨bb, oo, ar, EE, z1, z2, z3, z4⟩ := m3 hc
                      refine ⟨bb, oo, ar, EE, z1, ?_, z3, fun t rr hrr => ?_⟩
                      · rw [setRow_other]
                        · exact z2
                        · intro e; subst e
                          exact m6 j bb hj ⟨hc, oo, z1⟩ hblk
                      · by_cases ht : t = j
                        · subst ht
                          rw [List.getElem?_set_self hj] at hrr
                          cases hrr
                          have := z4 t _ (List.getElem?_eq_getElem hj)
                          simpa using this
                        · rw [List.getElem?_set_ne (Ne.symm ht)] at hrr
                          exact z4 t rr hrr
                    · by_cases ht : t = j
                      · subst ht
                        rw [List.getElem?_set_self hj] at hrw
                        cases hrw
                        exact ⟨by simpa using q1, g3 _ rfl⟩
                      · rw [List.getElem?_set_ne (Ne.symm ht)] at hrw
                        obtain ⟨y1, y2⟩ := m4 t rw' hrw
                        refine ⟨y1, y2.mono hsame (fun _ hb => hb) (fun b' hb' => setRow_other w b b' _ (fun e => ?_))⟩
                        subst e
                        exact m5 t j b' (lt_of_get hrw) hj ht hb' hblk
                  · cases p1
                · cases he
              · cases he
            · cases he
          · rename_i U l h0 o0 hob
            split at he
            · rename_i id2 ex _
              split at he
              · rename_i V m hob2
                split at he
                · rename_i hVU
                  subst hVU
                  by_cases hcond : (decide (i = h0) && decide (id2 ≠ id)) = true
                  · rw [hcond] at he
                    simp only [cond_true] at he
                    simp only [Bool.and_eq_true, decide_eq_true_eq] at hcond
                    obtain ⟨rfl, hne⟩ := hcond
                    have hob := hs.obj hob
                    have hob2 := hs.obj hob2
                    obtain ⟨q, hq, S1, rows, rfl, m1, m2, m3, m4⟩ := h.ob id _ hob
                    rw [hq] at p1
                    simp only [plS] at p1
                    cases p1
                    have hc : S.cap ≠ 0 := by omega
                    obtain ⟨b', off', arr, E, e1, e2, e3, e4⟩ := m3 hc
                    rw [p2] at e1
                    cases e1
                    obtain ⟨q2, hq2, S2, rfl, x2⟩ := h.ob id2 _ hob2
                    have hxv := h.evs hs x
                    rw [ex] at hxv
                    obtain ⟨S2', n2, y1, y2⟩ := hxv
                    rw [hq2] at y1
                    simp only [plS] at y1
                    cases y1
                    have hxv : a.eval x = .slice S2.A m.length S2.cap := y2
                    rw [m1, Nat.mul_one, Nat.add_zero] at p4
                    have hrun := run_storeVar' (P := P) (T := T) (n := 1) (b := b) (off := off + i) (v := a.eval x) (arr := arr) (E := E) hn (by rw [hxv]; rfl) (by rw [hxv]; intro u hu; simp [Value.cells] at hu; subst hu; rfl) e2 (by omega)
                    have hcells : (a.eval x).cells.toList = [.slice S2.A m.length S2.cap] := by rw [hxv]; rfl
                    rw [hcells] at hrun
                    have h3 := (h.fillH hob p3 hob2 hne hq hq2 p2 e2).undef o.dst undef
                    have hrs := run_store_op (w := w) ho p4 hrun
                    have := h3.weaken (Fr' := fun i => Fr i ∧ ¬ Own ib i) (fun i hi => hi.1)
                    have e : (st.app o.dst ⟨.undef, [(id, some (.mat V (l.set i (Ty.castL rfl m)))), (id2, none)]⟩) = ({ st with ob := fun j => if j = id2 then none else if j = id then some (.mat V (l.set i m)) else st.ob j } : St).put o.dst .undef := by
                      cases o.dst with
                      | none => rfl
                      | some d => simp only [St.app, St.put]; unfold St.setTm; by_cases hd : d < st.n <;> simp [hd, obUpd, Ty.castL]
                    rw [← e] at this
                    exact ⟨_, he, .skip hrs ⟨R, _, this⟩⟩
                  · have hcond : (decide (i = h0) && decide (id2 ≠ id)) = false := by simpa using hcond
                    rw [hcond] at he; cases he
                · cases he
              · cases he
            · cases he
          · cases he
        · cases he
end
end Go.OAI
