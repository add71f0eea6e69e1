/- Regions that draw their order: every order. -/
import Derived.Test.YtaiopbdbnellhaaD3
namespace Go.OAI
set_option linter.unusedVariables false

variable {P : Program} {w0 : W0} {w : World} {B : Nat} {Io R : Nat → Prop} {ρ : Nat → Option Pl} {Fr : Nat → Prop} {st s : St} {a : Act}
variable {env : Nat → Option Callee} {ops : Array Oper} {b : Array Nat} {st0 : St}

def stepB (acc : Array Nat) (o : Oper) : Array Nat := acc.push (o.after.foldl (fun s e => if Region.binds .any e then s ||| 2 ^ e.on ||| acc.getD e.on 0 else s) 0)
theorem foldB {acc : Array Nat} {u : Nat} : ∀ {es : List Edge} {s : Nat}, (es.foldl (fun s e => if Region.binds .any e then s ||| 2 ^ e.on ||| acc.getD e.on 0 else s) s).testBit u = true →
    s.testBit u = true ∨ ∃ e ∈ es, Region.binds .any e = true ∧ (u = e.on ∨ (acc.getD e.on 0).testBit u = true)
  | [], s, h => .inl h
  | e :: es, s, h => by
    rcases foldB (es := es) h with h | ⟨e', h1, h2⟩
    · by_cases hb : Region.binds .any e = true
      · simp only [hb, if_true, Nat.testBit_or, Bool.or_eq_true, Nat.testBit_two_pow, decide_eq_true_eq] at h
        rcases h with (h | h) | h
        · exact .inl h
        · exact .inr ⟨e, List.mem_cons_self, hb, .inl h.symm⟩
        · exact .inr ⟨e, List.mem_cons_self, hb, .inr h⟩
      · simp only [hb] at h
        exact .inl (by simpa using h)
    · exact .inr ⟨e', List.mem_cons_of_mem _ h1, h2⟩
theorem foldBs : ∀ {l : List Oper} {acc : Array Nat}, (∀ j, j < acc.size → (l.foldl stepB acc).getD j 0 = acc.getD j 0) ∧
    ∀ j u, acc.size ≤ j → ((l.foldl stepB acc).getD j 0).testBit u = true → ∃ o, l[j - acc.size]? = some o ∧ ∃ e ∈ o.after, Region.binds .any e = true ∧ (u = e.on ∨ (e.on < j ∧ ((l.foldl stepB acc).getD e.on 0).testBit u = true))
  | [], acc => ⟨fun j hj => rfl, fun j u hj h => by
      have : acc.getD j 0 = 0 := by rw [Array.getD_eq_getD_getElem?, Array.getElem?_eq_none hj]; rfl
      simp only [List.foldl_nil] at h
      rw [this] at h
      simp at h⟩
  | o :: l, acc => by
    obtain ⟨g1, g2⟩ := foldBs (l := l) (acc := stepB acc o)
    have hsz : (stepB acc o).size = acc.size + 1 := by simp [stepB]
    have hold : ∀ j, j < acc.size → (stepB acc o).getD j 0 = acc.getD j 0 := fun j hj => by
      rw [Array.getD_eq_getD_getElem?, Array.getD_eq_getD_getElem?]
      unfold stepB
      rw [Array.getElem?_push_lt hj]
      simp [hj]
    refine ⟨fun j hj => ?_, fun j u hj h => ?_⟩
    · rw [List.foldl_cons, g1 j (by omega), hold j hj]
    · rw [List.foldl_cons] at h ⊢
      by_cases e : j = acc.size
      · subst e
        rw [g1 _ (by omega)] at h
        have hl : (stepB acc o).getD acc.size 0 = o.after.foldl (fun s e => if Region.binds .any e then s ||| 2 ^ e.on ||| acc.getD e.on 0 else s) 0 := by
          rw [Array.getD_eq_getD_getElem?]
          unfold stepB
          rw [Array.getElem?_push_size]
          rfl
        rw [hl, ← Array.foldl_toList] at h
        rcases foldB h with h | ⟨e, h1, h2, h3⟩
        · simp at h
        · refine ⟨o, by simp, e, by simpa using h1, h2, h3.imp id fun h3 => ?_⟩
          have hlt : e.on < acc.size := by
            by_cases hlt : e.on < acc.size
            · exact hlt
            · have : acc.getD e.on 0 = 0 := by rw [Array.getD_eq_getD_getElem?, Array.getElem?_eq_none (by omega)]; rfl
              rw [this] at h3; simp at h3
          exact ⟨hlt, by rw [g1 _ (by omega), hold _ hlt]; exact h3⟩
      · obtain ⟨o', h1, e', h2, h3, h4⟩ := g2 j u (by omega) h
        refine ⟨o', ?_, e', h2, h3, h4⟩
        rw [hsz] at h1
        rw [show j - acc.size = (j - (acc.size + 1)) + 1 by omega]
        simpa using h1
theorem before_bit {j u : Nat} (h : ((Region.before ops).getD j 0).testBit u = true) : ∃ o, ops[j]? = some o ∧ ∃ e ∈ o.after, Region.binds .any e = true ∧ (u = e.on ∨ (e.on < j ∧ ((Region.before ops).getD e.on 0).testBit u = true)) := by
  have e : Region.before ops = ops.toList.foldl stepB #[] := by
    unfold Region.before
    rw [← Array.foldl_toList]
    rfl
  rw [e] at h ⊢
  obtain ⟨o, h1, h2⟩ := (foldBs (l := ops.toList) (acc := #[])).2 j u (by simp) h
  exact ⟨o, by simpa using h1, h2⟩
theorem before_lt (hd : DOk ops (Region.before ops)) : ∀ (j u : Nat), ((Region.before ops).getD j 0).testBit u = true → u < j := by
  intro j
  induction j using Nat.strongRecOn with
  | _ j ih =>
    intro u h
    obtain ⟨o, ho, e, he, hb, h⟩ := before_bit h
    have := hd.fwd j o ho e he hb
    rcases h with h | ⟨_, h⟩
    · omega
    · have := ih e.on this u h; omega

theorem wanted_of {o : Oper} {c : Bool} (h : SR w0 B Io R ρ Fr st a w) (hw : wantedA ops o st = some c) : Region.wanted o (yielded ops a.tmps) = c := by
  unfold wantedA at hw
  unfold Region.wanted
  split at hw
  · rename_i hg
    rw [hg]; cases hw; rfl
  · rename_i g want hg
    rw [hg]
    split at hw
    · cases hw
    · rename_i sl hsl
      split at hw
      · rename_i t ht
        cases hw
        have := yielded_of h hsl ht
        simp [this]
      · rename_i ht
        cases hw
        have := yielded_none h hsl ht
        simp [this]
      · cases hw

structure RInv (ops : Array Oper) (rem : List Nat) (listed : Array Bool) : Prop where
  sorted : rem.Pairwise (· < ·)
  lt : ∀ i ∈ rem, i < ops.size
  lst : ∀ i, listed[i]? = if i < ops.size then some (decide (i ∉ rem)) else none
  closed : ∀ j o, ops[j]? = some o → j ∉ rem → ∀ e ∈ o.after, Region.binds .any e = true → e.on ∉ rem

theorem RInv.bits {rem : List Nat} {listed : Array Bool} (h : RInv ops rem listed) : ∀ (j : Nat), (∀ o, ops[j]? = some o → ∀ e ∈ o.after, Region.binds .any e = true → e.on ∉ rem) → ∀ u, ((Region.before ops).getD j 0).testBit u = true → u ∉ rem := by
  intro j
  induction j using Nat.strongRecOn with
  | _ j ih =>
    intro hj u hb
    obtain ⟨o, ho, e, he, hb', h'⟩ := before_bit hb
    have hon := hj o ho e he hb'
    rcases h' with h' | ⟨h1, h2⟩
    · rw [h']; exact hon
    · exact ih e.on h1 (fun o' ho' => h.closed e.on o' ho' hon) u h2

theorem drawn_any (henv : EnvOk P env) (hd : DOk ops (Region.before ops)) {Q : Exit → Act → World → Prop} {fin : St} (hQ : ∀ a w, In w0 B Io (st0.nx + 16 * ops.size) fin a w → Q .normal a w) :
    ∀ (fuel : Nat) (rem : List Nat) (listed : Array Bool) (st : St) (a : Act) (w : World) (R : Nat → Prop) (ρ : Nat → Option Pl), rem.length ≤ fuel → RInv ops rem listed → Chain P env ops (Region.before ops) st0 rem st fin →
    SR w0 B Io R ρ (fun i => (∃ j ∈ rem, Own (st0.nx + 16 * j) i) ∨ st0.nx + 16 * ops.size ≤ i) st a w → wpAny P .any ops Q fuel listed a w := by
  intro fuel
  have done : ∀ {rem : List Nat} {listed : Array Bool} {st : St} {a : Act} {w : World} {R : Nat → Prop} {ρ : Nat → Option Pl}, rem = [] → Chain P env ops (Region.before ops) st0 rem st fin →
      SR w0 B Io R ρ (fun i => (∃ j ∈ rem, Own (st0.nx + 16 * j) i) ∨ st0.nx + 16 * ops.size ≤ i) st a w → Q .normal a w := fun hr hc h => by
    subst hr
    cases hc
    exact hQ _ _ ⟨_, _, h.weaken fun i hi => .inr hi⟩
  have get : ∀ {rem : List Nat} {listed : Array Bool} (hi : RInv ops rem listed) (i : Nat), (listed.getD i true = false ↔ i ∈ rem) ∧ (listed.getD i false = true ↔ i < ops.size ∧ i ∉ rem) := fun hi i => by
    rw [Array.getD_eq_getD_getElem?, Array.getD_eq_getD_getElem?, hi.lst]
    by_cases hlt : i < ops.size
    · simp [hlt]
    · simp only [hlt, if_false, Option.getD_none, false_and, iff_false]
      exact ⟨⟨fun h => (by cases h), fun h => absurd (hi.lt i h) hlt⟩, by simp⟩
  induction fuel with
  | zero =>
    intro rem listed st a w R ρ hf hi hc h
    have hr : rem = [] := List.length_eq_zero_iff.1 (by omega)
    refine ⟨?_, done (listed := listed) hr hc h⟩
    cases hr' : Region.ready .any ops listed with
    | nil => rfl
    | cons j js =>
      have : j ∈ Region.ready .any ops listed := by rw [hr']; exact List.mem_cons_self
      have := ((get hi j).1).1 (mem_ready.1 this).1
      rw [hr] at this; simp at this
  | succ fuel ih =>
    intro rem listed st a w R ρ hf hi hc h
    refine ⟨fun hr => ?_, fun i hmem => ?_⟩
    · refine done (listed := listed) ?_ hc h
      cases rem with
      | nil => rfl
      | cons j js =>
        exfalso
        have hlt := hi.lt j List.mem_cons_self
        have : j ∈ Region.ready .any ops listed := by
          rw [mem_ready]
          refine ⟨((get hi j).1).2 List.mem_cons_self, ops[j], by simp [hlt], fun e he hb => ?_⟩
          have hon := hd.fwd j ops[j] (by simp [hlt]) e he hb
          refine ((get hi e.on).2).2 ⟨by omega, fun hm => ?_⟩
          rcases List.mem_cons.1 hm with h1 | h1
          · omega
          · have := (List.pairwise_cons.1 hi.sorted).1 _ h1; omega
        rw [hr] at this; simp at this
    · obtain ⟨h1, o, ho, h2⟩ := mem_ready.1 hmem
      have himem := ((get hi i).1).1 h1
      have h2 : ∀ e ∈ o.after, Region.binds .any e = true → e.on ∉ rem := fun e he hb => (((get hi e.on).2).1 (h2 e he hb)).2
      obtain ⟨pre, post, rfl⟩ := List.append_of_mem himem
      have hilt := hi.lt i himem
      obtain ⟨s1, s2, s3⟩ := List.pairwise_append.1 hi.sorted
      have hpre : ∀ u ∈ pre, u < i := fun u hu => s3 u hu i List.mem_cons_self
      have hpost : ∀ u ∈ post, i < u := fun u hu => (List.pairwise_cons.1 s2).1 u hu
      have hun : ∀ u ∈ pre, Un ops (Region.before ops) u i := fun u hu => by
        have hul := hpre u hu
        refine ⟨by omega, hilt, by omega, ?_, ?_⟩
        · cases hb : ((Region.before ops).getD i 0).testBit u with
          | false => rfl
          | true => exact absurd (List.mem_append_left _ hu) (hi.bits i (fun o' ho' => by rw [ho] at ho'; cases ho'; exact h2) u hb)
        · cases hb : ((Region.before ops).getD u 0).testBit i with
          | false => rfl
          | true => have := before_lt hd u i hb; omega
      obtain ⟨d, g1, g2⟩ := chain_take hd hun hc
      have hne : i ∉ pre ++ post := fun hm => by
        rcases List.mem_append.1 hm with hm | hm
        · have := hpre i hm; omega
        · have := hpost i hm; omega
      have hi' : RInv ops (pre ++ post) (listed.setIfInBounds i true) := by
        refine ⟨?_, fun u hu => hi.lt u ?_, fun u => ?_, fun j o' ho' hj e he hb => ?_⟩
        · refine List.pairwise_append.2 ⟨s1, (List.pairwise_cons.1 s2).2, fun x hx y hy => s3 x hx y (List.mem_cons_of_mem _ hy)⟩
        · rcases List.mem_append.1 hu with hu | hu
          · exact List.mem_append_left _ hu
          · exact List.mem_append_right _ (List.mem_cons_of_mem _ hu)
        · have hsz : i < listed.size := by
            have := hi.lst i
            rw [if_pos hilt] at this
            exact (Array.getElem?_eq_some_iff.1 this).1
          by_cases e : i = u
          · subst e
            rw [Array.getElem?_setIfInBounds_self_of_lt hsz, if_pos hilt]
            simp [hne]
          · rw [Array.getElem?_setIfInBounds_ne e, hi.lst u]
            have : u ∉ pre ++ i :: post ↔ u ∉ pre ++ post := by
              simp only [List.mem_append, List.mem_cons]
              constructor
              · intro h hm; exact h (hm.imp id .inr)
              · rintro h (hm | hm | hm)
                · exact h (.inl hm)
                · exact e hm.symm
                · exact h (.inr hm)
            by_cases hu : u < ops.size
            · simp only [hu, if_true]
              congr 1
              exact decide_eq_decide.2 this
            · simp [hu]
        · by_cases e' : j = i
          · subst e'
            rw [ho] at ho'; cases ho'
            intro hm
            refine h2 e he hb ?_
            rcases List.mem_append.1 hm with hm | hm
            · exact List.mem_append_left _ hm
            · exact List.mem_append_right _ (List.mem_cons_of_mem _ hm)
          · have hjn : j ∉ pre ++ i :: post := by
              intro hm
              rcases List.mem_append.1 hm with hm | hm
              · exact hj (List.mem_append_left _ hm)
              · rcases List.mem_cons.1 hm with hm | hm
                · exact e' hm
                · exact hj (List.mem_append_right _ hm)
            intro hm
            refine hi.closed j o' ho' hjn e he hb ?_
            rcases List.mem_append.1 hm with hm | hm
            · exact List.mem_append_left _ hm
            · exact List.mem_append_right _ (List.mem_cons_of_mem _ hm)
      have hlen : (pre ++ post).length ≤ fuel := by simp at hf ⊢; omega
      have hfr : ∀ x, ((∃ j ∈ pre ++ post, Own (st0.nx + 16 * j) x) ∨ st0.nx + 16 * ops.size ≤ x) → ((∃ j ∈ pre ++ i :: post, Own (st0.nx + 16 * j) x) ∨ st0.nx + 16 * ops.size ≤ x) ∧ ¬ Own (st0.nx + 16 * i) x := by
        rintro x (⟨j, hj, hx⟩ | hx)
        · refine ⟨.inl ⟨j, ?_, hx⟩, fun hx' => ?_⟩
          · rcases List.mem_append.1 hj with hm | hm
            · exact List.mem_append_left _ hm
            · exact List.mem_append_right _ (List.mem_cons_of_mem _ hm)
          · obtain ⟨a1, a2⟩ := hx
            obtain ⟨b1, b2⟩ := hx'
            exact hne (by rw [show i = j by omega]; exact hj)
        · refine ⟨.inr hx, fun hx' => ?_⟩
          obtain ⟨b1, b2⟩ := hx'
          omega
      have hdst : dstOf ops i = o.dst := by simp [dstOf, ho]
      rw [hdst] at g2
      unfold wpOp
      simp only [ho]
      obtain ⟨o', ho', ⟨hw, hid, ms, e1, e2, e3⟩ | ⟨hw, e1⟩⟩ := g1
      · rw [ho] at ho'; cases ho'
        rw [if_pos (wanted_of h hw)]
        have hsub : Sub (maskSt ops st0.nx (unord (Region.before ops) ops.size i) hid st) st := by
          refine ⟨fun t => ?_, fun t => ?_, rfl⟩
          · simp only [maskSt]
            cases (unord (Region.before ops) ops.size i).any _ with
            | true => exact .inl rfl
            | false => exact .inr rfl
          · simp only [maskSt]
            generalize (_ || _ : Bool) = c
            cases c with
            | true => exact .inl rfl
            | false => exact .inr rfl
        obtain ⟨d', q1, q2⟩ := op_sound henv h hsub (fun x hx => .inl ⟨i, himem, hx⟩) e3
        cases q1
        refine .inl (q2 _ _ fun v w' ⟨R', ρ', h3⟩ => ?_)
        exact ih (pre ++ post) _ _ _ _ R' ρ' hlen hi' g2 (h3.weaken hfr)
      · rw [ho] at ho'; cases ho'
        have := wanted_of h hw
        rw [if_neg (by simp [this])]
        subst e1
        rw [app_nil] at g2
        exact ih (pre ++ post) _ _ _ _ R ρ hlen hi' g2 ((h.skipped o.dst).weaken fun x hx => (hfr x hx).1)

theorem drawn_grows (w : World) : Grows w { w with drawn := w.drawn + 1 } := fun b hb => rfl

theorem evalD_sound (henv : EnvOk P env) (hm : P.follows .mixedOrders = true) {id : Nat} {st fin : St} {Q : Exit → Act → World → Prop} (hd : drawnOk ops (Region.before ops) = true)
    (he : evalD P env ops (Region.before ops) st ops.toList 0 st some = some fin) (h : In w0 B Io st.nx st a w) (hQ : ∀ a w, In w0 B Io (st.nx + 16 * ops.size) fin a w → Q .normal a w) : (Code.region id ops true).wp P Q a w := by
  obtain ⟨R, ρ, h⟩ := h
  have hc := evalD_chain (fun i => by simp) he
  refine wp_region_any hm (drawn_any henv (drawnOk_spec hd) (st0 := st) hQ ops.size (List.range' 0 ops.toList.length) _ st _ _ R ρ (by simp) ⟨?_, fun i hi => ?_, fun i => ?_, fun j o ho hj => ?_⟩ hc ((h.grow (drawn_grows w) ⟨rfl, rfl, fun _ => rfl⟩).weaken ?_))
  · exact List.pairwise_lt_range'
  · have := List.mem_range'_1.1 hi
    simp at this; exact this
  · rw [Array.getElem?_replicate]
    by_cases hlt : i < ops.size
    · have : i ∈ List.range' 0 ops.toList.length := List.mem_range'_1.2 ⟨by omega, by simpa using hlt⟩
      simp [hlt]
    · simp [hlt]
  · exfalso
    have hlt := (Array.getElem?_eq_some_iff.1 ho).1
    exact hj (List.mem_range'_1.2 ⟨by omega, by simpa using hlt⟩)
  · rintro i (⟨j, hj, hx⟩ | hx)
    · have := hx.1; show st.nx ≤ i; omega
    · show st.nx ≤ i; omega
end Go.OAI
