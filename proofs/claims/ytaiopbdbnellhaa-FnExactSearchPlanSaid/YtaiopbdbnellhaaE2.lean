/- Functions. -/
import Derived.Test.YtaiopbdbnellhaaE1
namespace Go.OAI
set_option linter.unusedVariables false

variable {P : Program} {w0 : W0} {w : World} {B : Nat} {Io R : Nat → Prop} {ρ : Nat → Option Pl} {Fr : Nat → Prop} {st s : St} {a : Act}
variable {env : Nat → Option Callee} {or : Ora}

theorem ALs.nil (C : Nat → Prop) : ALs w R [] C := ⟨fun _ _ => False, fun i p hp => by simp at hp, fun _ _ _ _ h => h.elim, fun _ _ h => h.elim⟩
theorem ALs.sub {L : List (Value × AVal)} {C C' : Nat → Prop} (h : ALs w R L C) (hC : ∀ b, C b → C' b) : ALs w R L C' := by
  obtain ⟨Ss, h1, h2, h3⟩ := h
  exact ⟨Ss, h1, h2, fun i b hb => hC b (h3 i b hb)⟩
theorem ALs.append {M : List (Value × AVal)} {C2 : Nat → Prop} (hM : ALs w R M C2) : ∀ {L : List (Value × AVal)} {C1 C : Nat → Prop}, ALs w R L C1 → (∀ b, C1 b → C2 b → False) → (∀ b, C1 b ∨ C2 b → C b) → ALs w R (L ++ M) C
  | [], C1, C, hL, hd, hC => hM.sub fun b hb => hC b (.inr hb)
  | p :: L, C1, C, hL, hd, hC => by
    obtain ⟨S0, S1, g2, g3, g4, g5⟩ := hL.tail
    exact .cons (S1 := fun b => S1 b ∨ C2 b) g2 (ALs.append hM g3 (fun b h1 h2 => hd b (g5 b (.inr h1)) h2) (fun b h => h)) (fun b h1 h2 => h2.elim (g4 b h1) (hd b (g5 b (.inl h1)))) (fun b h => h.elim (fun h => hC b (.inl (g5 b (.inl h)))) fun h => h.elim (fun h => hC b (.inl (g5 b (.inr h)))) fun h => hC b (.inr h))

theorem Blks_append {q1 q2 : List (Nat × Option Nat)} {b : Nat} : Blks st ρ (q1 ++ q2) b ↔ Blks st ρ q1 b ∨ Blks st ρ q2 b := by
  constructor
  · rintro ⟨q, hq, hb⟩
    rcases List.mem_append.1 hq with h | h
    · exact .inl ⟨q, h, hb⟩
    · exact .inr ⟨q, h, hb⟩
  · rintro (⟨q, hq, hb⟩ | ⟨q, hq, hb⟩)
    · exact ⟨q, List.mem_append_left _ hq, hb⟩
    · exact ⟨q, List.mem_append_right _ hq, hb⟩

def resV (tmps : Array Value) : ResultVar → Sem Value
  | .tmp t => pure (tmps.getD t undef)
  | .cell a t => do loadVar t (← asAddr (tmps.getD a undef))

theorem results_list (h : SR w0 B Io R ρ Fr st a w) : ∀ {rvs : List ResultVar} {rs : List AVal}, resultsA P st rvs = some rs → ((resultPrs st rvs).map (·.1)).Nodup →
    ∃ vals, (rvs.mapM (resV a.tmps)).run P w = .ok vals w ∧ vals.length = rs.length ∧ ALs w R (vals.zip rs) (Blks st ρ (resultPrs st rvs))
  | [], rs, he, hn => by cases he; exact ⟨[], rfl, rfl, .nil _⟩
  | .tmp t :: rvs, rs, he, hn => by
    simp only [resultsA] at he
    split at he
    · rename_i x xs hx hxs
      cases he
      simp only [resultPrs, List.map_append] at hn ⊢
      obtain ⟨vals, g1, g2, g3⟩ := results_list h hxs (List.nodup_append.1 hn).2.1
      refine ⟨a.tmps.getD t undef :: vals, ?_, by simp [g2], ?_⟩
      · rw [List.mapM_cons]
        simp [resV, g1]
      · refine .cons (resArg_own h (h.tm t) hx (.inr rfl) (List.nodup_append.1 hn).1) g3 (fun b h1 h2 => Blks_apart h hn h1 h2) fun b hb => Blks_append.2 hb
    · cases he
  | .cell c T :: rvs, rs, he, hn => by
    simp only [resultsA] at he
    split at he
    · rename_i id hid
      split at he
      · rename_i cs hob
        split at he
        · rename_i hg hsz
          have hsz := of_decide_eq_true hsz
          split at he
          · rename_i ys xs hys hxs
            cases he
            simp only [resultPrs, hid, hob, List.map_append] at hn ⊢
            obtain ⟨vals, g1, g2, g3⟩ := results_list h hxs (List.nodup_append.1 hn).2.1
            have hv := h.tm c
            rw [hid] at hv
            obtain ⟨b, off, h1, h2⟩ := hv
            obtain ⟨p, hp, hoa⟩ := h.ob id _ hob
            rw [h1] at hp; cases hp
            obtain ⟨b', off', arr, E, e1, e2, e3⟩ := hoa
            cases e1
            obtain ⟨u, r1, r2⟩ := run_loadVar' (P := P) (w := w) (R := R) (ρ := ρ) (c := 0) (cs := cs) (v := .agg cs) (b := b) (off := off) hg hsz (by simp [takeV]) (fun k x hx => by
              obtain ⟨u, q1, q2⟩ := e3 k x hx
              exact ⟨u, by rw [cellAt_of e2]; exact q1, q2⟩)
            refine ⟨u :: vals, ?_, by simp [g2], ?_⟩
            · rw [List.mapM_cons]
              have h2 : a.tmps.getD c undef = .pointer (some ⟨b, off + 0, none⟩) := h2
              have : (resV a.tmps (.cell c T)).run P w = .ok u w := by
                simp only [resV, h2, asAddr]
                simpa using r1
              simp [this, g1]
            · refine .cons (resArg_own (fl := true) h r2 (by simp [resArg, hys]) (.inr rfl) (List.nodup_append.1 hn).1) g3 (fun b h1 h2 => Blks_apart h hn h1 h2) fun b hb => Blks_append.2 hb
          · cases he
        · cases he
      · cases he
    · cases he

theorem afters_list (h : SR w0 B Io R ρ Fr st a w) : ∀ {ds : List AVal} {vs : List Value} {k : Nat} {as : List AVal}, vs.length = ds.length → (∀ i v, vs[i]? = some v → w0.par (k + i) = some v) → aftersA st ds k = some as → ((afterPrs st ds k).map (·.1)).Nodup →
    (ownVals ds vs).length = as.length ∧ ALs w R ((ownVals ds vs).zip as) (Blks st ρ (afterPrs st ds k))
  | [], vs, k, as, hl, hp, he, hn => by cases he; exact ⟨rfl, .nil _⟩
  | d :: ds, [], k, as, hl, hp, he, hn => by simp at hl
  | d :: ds, v :: vs, k, as, hl, hp, he, hn => by
    have hp' : ∀ i u, vs[i]? = some u → w0.par (k + 1 + i) = some u := fun i u hu => by rw [show k + 1 + i = k + (i + 1) by omega]; exact hp (i + 1) u (by simpa using hu)
    cases ho : isOwn d with
    | false =>
      have e1 : ownVals (d :: ds) (v :: vs) = ownVals ds vs := by simp [ownVals, ho]
      simp only [aftersA, ho] at he
      simp only [afterPrs, ho] at hn ⊢
      rw [e1]
      exact afters_list h (by simpa using hl) hp' he hn
    | true =>
      have e1 : ownVals (d :: ds) (v :: vs) = v :: ownVals ds vs := by simp [ownVals, ho]
      simp only [aftersA, ho] at he
      simp only [afterPrs, ho] at hn ⊢
      rw [e1]
      split at he
      · rename_i ys hys
        split at he
        · rename_i y hpr hy
          cases he
          simp only [hpr, hy, List.map_append] at hn ⊢
          obtain ⟨g1, g2⟩ := afters_list h (by simpa using hl) hp' hys (List.nodup_append.1 hn).2.1
          have hv : VA w R ρ v (st.tm k) := by
            have := h.tm k
            rw [h.par k v (by simpa using hpr) (hp 0 v rfl)] at this
            exact this
          exact ⟨by simp [g1], .cons (resArg_own h hv hy (.inr rfl) (List.nodup_append.1 hn).1) g2 (fun b h1 h2 => Blks_apart h hn h1 h2) fun b hb => Blks_append.2 hb⟩
        · rename_i hno
          cases he
          have hn : ((afterPrs st ds (k + 1)).map (·.1)).Nodup := by
            revert hn
            split
            · rename_i y h1 h2; exact absurd h2 (hno y h1)
            · exact id
          try (split; · rename_i y h1 h2; exact absurd h2 (hno y h1))
          obtain ⟨g1, g2⟩ := afters_list h (by simpa using hl) hp' hys hn
          exact ⟨by simp [g1], .cons (S0 := fun _ => False) trivial g2 (fun b h1 _ => h1) fun b hb => hb.elim (fun h => h.elim) id⟩
      · cases he

theorem resArg_notup {fl : Bool} {x y : AVal} (h : resArg st fl x = some y) : ∀ vs, y ≠ .tup vs := by
  intro vs e
  subst e
  cases x <;> simp only [resArg] at h
  case agg => split at h <;> cases h
  case ptr id c =>
    split at h
    · split at h
      · split at h <;> cases h
      · cases h
    · cases h
  case sref id row win =>
    cases fl <;> simp only [resCell] at h <;> split at h
    all_goals first
      | (cases h; done)
      | (split at h
         all_goals first
           | (cases h; done)
           | (split at h <;> cases h))
  all_goals (cases fl <;> simp [resCell] at h)
theorem resultsA_one {rvs : List ResultVar} {x : AVal} (h : resultsA P st rvs = some [x]) : ∀ vs, x ≠ .tup vs := by
  cases rvs with
  | nil => simp [resultsA] at h
  | cons r rvs =>
    cases r with
    | tmp t =>
      simp only [resultsA] at h
      split at h
      · rename_i y ys hy hys
        simp at h
        rw [← h.1]; exact resArg_notup hy
      · cases h
    | cell c T =>
      simp only [resultsA] at h
      split at h
      · split at h
        · split at h
          · split at h
            · simp at h
              intro vs e; rw [e] at h; simp at h
            · cases h
          · cases h
        · cases h
      · cases h
theorem resList_tupOf {rvs : List ResultVar} {rs : List AVal} (h : resultsA P st rvs = some rs) : resList (tupOf rs) = rs := by
  match rs, h with
  | [], _ => rfl
  | [x], h =>
    show resList x = [x]
    have := resultsA_one h
    cases x <;> first | rfl | exact absurd rfl (this _)
  | _ :: _ :: _, _ => rfl

theorem slotsOf_get : ∀ (xs : List AVal) (i t : Nat), slotsOf xs i t = if i ≤ t then (xs[t - i]?).getD .undef else .undef
  | [], i, t => by simp [slotsOf]
  | x :: xs, i, t => by
    simp only [slotsOf]
    rw [slotsOf_get xs (i + 1) t]
    by_cases h : t = i
    · subst h; simp
    · simp only [h, if_false]
      by_cases h1 : i ≤ t
      · have : i + 1 ≤ t := by omega
        simp only [this, h1, if_true]
        rw [show t - i = (t - (i + 1)) + 1 by omega]
        simp
      · have : ¬ i + 1 ≤ t := by omega
        simp [this, h1]

/-- What a call leaves. -/
def Left (w : World) (R Io : Nat → Prop) (vs : List Value) (ds : List AVal) (out : AVal × List AVal) (e : Ending) (w' : World) : Prop :=
  ∃ rs : List (Value × AVal), e = .returned (tupV (rs.map (·.1))) ∧ rs.map (·.2) = resList out.1 ∧ tupOf (rs.map (·.2)) = out.1 ∧
      (ownVals ds vs).length = out.2.length ∧ ∃ R', ALs w' R' (rs ++ (ownVals ds vs).zip out.2) (fun b => b < w'.heap.size ∧ ¬ R' b ∧ (Io b ∨ w.heap.size ≤ b)) ∧
      (∀ b, R b → R' b) ∧ (∀ b, R' b → b < w'.heap.size ∧ (R b ∨ (Io b ∨ w.heap.size ≤ b))) ∧ (∀ b, b < w.heap.size → ¬ Io b → w'.heap[b]? = w.heap[b]?) ∧ w.heap.size ≤ w'.heap.size ∧ Quiet w w'
/-- A function does what the evaluator says. -/
theorem call_of {f : Nat} {fn : Func} {code : Code} (hf : P.funcs[f]? = some fn) (hb : fn.body = some code) (henv : EnvOk P env) (hm : P.follows .mixedOrders = true) (hlo : LoOk P env or fn.ntmps (loopsIn code))
    {w : World} {R Io : Nat → Prop} {vs : List Value} {ds : List AVal} {out : AVal × List AVal} (hlen : vs.length = ds.length) (hals : ALs w R (vs.zip ds) Io) (hIo : ∀ b, Io b → b < w.heap.size ∧ ¬ R b) (hR : ∀ b, R b → b < w.heap.size)
    (he : evalFn P env or fn ds = some out) : Calls P f vs.toArray w (Left w R Io vs ds out) := by
  unfold evalFn at he
  rw [hb] at he
  dsimp only at he
  split at he
  rotate_left
  · cases he
  rename_i hle
  have hle := of_decide_eq_true hle
  unfold evalBody at he
  have hmap : (vs.zip ds).map (·.2) = ds := by
    rw [List.map_snd_zip]
    omega
  have hsz : ({ tmps := vs.toArray ++ Array.replicate (fn.ntmps - vs.toArray.size) undef, defers := [] } : Act).tmps.size = fn.ntmps := by simp; omega
  have hpar : ∀ (k : Nat) (v : Value), vs[k]? = some v → (vs.toArray ++ Array.replicate (fn.ntmps - vs.toArray.size) undef).getD k undef = v := fun k v hv => by
    have := lt_of_get hv
    rw [Array.getD_eq_getD_getElem?, Array.getElem?_append_left (by simpa using this)]
    simp [hv]
  have hsr0 : SR ⟨w, R, fun k => vs[k]?⟩ w.heap.size Io R (fun _ => none) (fun _ => True) { tm := fun _ => .undef, ob := fun _ => none, nx := 0, n := fn.ntmps, pr := ownSlots ds 0 }
      { tmps := vs.toArray ++ Array.replicate (fn.ntmps - vs.toArray.size) undef, defers := [] } w :=
    { size := hsz, dfr := rfl, tm := fun t => trivial, ob := fun id o h => (by cases h), sep := fun id o id' o' p p' b _ h => (by cases h), own := fun id o p b h => (by cases h), rlt := hR, frame := fun b _ _ => rfl, size0 := Nat.le_refl _, fr := fun _ _ => rfl, r0 := fun b hb => hb, r1 := fun b hb => .inl hb, q := .refl w, par := fun k v _ hv => hpar k v hv }
  obtain ⟨ρ', hin, hil, hiv⟩ := inst_list (i := 0) hsr0 (fun _ _ _ => trivial) hals (fun b hb => ⟨⟨(hIo b hb).1, (hIo b hb).2, .inr hb⟩, fun ⟨id, o, p, h, _⟩ => (by cases h)⟩)
  rw [hmap] at hin hil hiv
  generalize hz : instList ds 0 = z at he hin hil hiv
  obtain ⟨avs, os, m⟩ := z
  dsimp only at he hin hil hiv
  rw [evalCode_nat] at he
  obtain ⟨⟨e, s⟩, he1, he2⟩ := Option.bind_eq_some_iff.1 he
  have hav : avs.length = vs.length := by rw [hil]; simp [hlen]
  have hin0 : In ⟨w, R, fun k => vs[k]?⟩ w.heap.size Io m { tm := slotsOf avs 0, ob := objsOf os, nx := m, n := fn.ntmps, pr := ownSlots ds 0 }
      { tmps := vs.toArray ++ Array.replicate (fn.ntmps - vs.toArray.size) undef, defers := [] } w := by
    have hsr := hin.sr
    refine ⟨R, ρ', { size := hsr.size, dfr := hsr.dfr, tm := fun t => ?_, ob := hsr.ob, sep := hsr.sep, own := hsr.own, rlt := hsr.rlt, frame := hsr.frame, size0 := hsr.size0, fr := fun i hi => hsr.fr i ⟨trivial, fun e => by omega⟩, r0 := hsr.r0, r1 := hsr.r1, q := hsr.q, par := hsr.par }⟩
    show VA _ _ _ _ (slotsOf avs 0 t)
    rw [slotsOf_get]
    simp only [Nat.zero_le, if_true, Nat.sub_zero]
    cases hx : avs[t]? with
    | none => exact trivial
    | some x =>
      have ht := lt_of_get hx
      have hv : vs[t]? = some vs[t] := List.getElem?_eq_getElem (by omega)
      have hd : ds[t]? = some ds[t] := List.getElem?_eq_getElem (by omega)
      have := hiv t (vs[t], ds[t]) x (by rw [List.getElem?_zip_eq_some]; exact ⟨hv, hd⟩) hx
      rw [hpar t _ hv]
      exact .of1 this
  obtain ⟨hn, hwp⟩ := evalCode_sound (w0 := ⟨w, R, fun k => vs[k]?⟩) (B := w.heap.size) (Io := Io) henv hm code _ e s hlo rfl he1
  refine calls_of_wp hf hb (hwp _ _ hin0 _ fun a w' h => ?_)
  have fin : (∀ i, e ≠ .exit i) → (match resultsA P (pres s or.fin) fn.results.toList, aftersA (pres s or.fin) ds 0 with
      | some rs, some as => match decide (((resultPrs (pres s or.fin) fn.results.toList ++ afterPrs (pres s or.fin) ds 0).map (·.1)).Nodup) with
        | true => some (tupOf rs, as)
        | false => none
      | _, _ => none) = some (out) := fun hne => by
    cases e with
    | exit i => exact absurd rfl (hne i)
    | normal => exact he2
    | ret => exact he2
  have hne : ∀ i, e ≠ .exit i := fun i e' => by subst e'; cases he2
  have he3 := fin hne
  have h := pres_sound or.fin h
  clear fin he2 he he1 hwp hn
  generalize pres s or.fin = s at he3 h
  split at he3
  rotate_left
  · cases he3
  rename_i rs as hrs has
  split at he3
  rotate_left
  · cases he3
  rename_i hnd
  have hnd := of_decide_eq_true hnd
  have hout := Option.some.inj he3
  rw [List.map_append] at hnd
  obtain ⟨R', ρ2, h⟩ := h
  obtain ⟨vals, g1, g2, g3⟩ := results_list h hrs (List.nodup_append.1 hnd).1
  obtain ⟨f1, f2⟩ := afters_list h hlen (fun i v hv => by simpa using hv) has (List.nodup_append.1 hnd).2.1
  have post : a.defers = [] ∧ ∃ v, (results fn a.tmps).run P w' = .ok v w' ∧ (∃ rs : List (Value × AVal), Ending.returned v = .returned (tupV (rs.map (·.1))) ∧ rs.map (·.2) = resList (out).1 ∧ tupOf (rs.map (·.2)) = (out).1 ∧
      (ownVals ds vs).length = (out).2.length ∧ ∃ R', ALs w' R' (rs ++ (ownVals ds vs).zip (out).2) (fun b => b < w'.heap.size ∧ ¬ R' b ∧ (Io b ∨ w.heap.size ≤ b)) ∧
      (∀ b, R b → R' b) ∧ (∀ b, R' b → b < w'.heap.size ∧ (R b ∨ (Io b ∨ w.heap.size ≤ b))) ∧ (∀ b, b < w.heap.size → ¬ Io b → w'.heap[b]? = w.heap[b]?) ∧ w.heap.size ≤ w'.heap.size ∧ Quiet w w') := by
    refine ⟨h.dfr, tupV vals, ?_, vals.zip rs, ?_, ?_, ?_, ?_, R', ?_, h.r0, fun b hb => ⟨h.rlt b hb, (h.r1 b hb).imp id Or.symm⟩, h.frame, h.size0, h.q⟩
    · have e : results fn a.tmps = (do
          let vs ← fn.results.mapM (resV a.tmps)
          pure (if h : vs.size = 1 then vs[0] else .tuple vs)) := by
        unfold results
        congr 1
      rw [e, Array.mapM_eq_mapM_toList]
      simp only [Sem.run_bind, Sem.run_map, g1]
      match vals with
      | [] => rfl
      | [x] => rfl
      | x :: y :: r => simp [tupV]
    · rw [List.map_fst_zip (by omega)]
    · rw [List.map_snd_zip (by omega), ← hout]; exact (resList_tupOf hrs).symm
    · rw [List.map_snd_zip (by omega), ← hout]
    · rw [← hout]; exact f1
    · rw [← hout]
      refine ALs.append f2 g3 (fun b h1 h2 => Blks_apart h hnd h1 h2) fun b hb => ?_
      have : ∃ qs, Blks s ρ2 qs b := hb.elim (fun h => ⟨_, h⟩) fun h => ⟨_, h⟩
      obtain ⟨qs, hb⟩ := this
      obtain ⟨q, _, o', p, z1, z2, z3⟩ := Blks_mem_ob h hb
      obtain ⟨y1, y2, y3⟩ := h.own _ o' p b z1 z2 z3
      exact ⟨y1, y2, y3.symm⟩
  cases e with
  | exit i => exact absurd rfl (hne i)
  | normal => exact post
  | ret => exact post

theorem callee_of {f : Nat} {fn : Func} {code : Code} {cl : Callee} (hf : P.funcs[f]? = some fn) (hb : fn.body = some code) (henv : EnvOk P env) (hm : P.follows .mixedOrders = true) (hlo : LoOk P env or fn.ntmps (loopsIn code))
    (hev : ∀ ds x y, cl.inn ds = some x → cl.G x = some y → evalFn P env or fn ds = some (cl.out y)) : CalleeOk P f cl :=
  fun w R Io vs ds x y hlen hals hIo hR hinn hG => call_of hf hb henv hm hlo hlen hals hIo hR (hev ds x y hinn hG)
end Go.OAI
