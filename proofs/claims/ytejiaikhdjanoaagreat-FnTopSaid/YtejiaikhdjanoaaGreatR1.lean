/- What comes in, read as data. A law's row out of a contract. -/
import Derived.Test.YtejiaikhdjanoaaGreatE2
import Derived.ProofKit
namespace Go.OAI
set_option linter.unusedVariables false
open Go.ChangeShapes Go.WideShapes Go.ChangeAt Go.RowKit
variable {P : Program} {w : World} {H : Type} {enc : TypeId × Value → H}
def okFs (ok : TypeId → Ty → Bool) (P : Program) : List Field → Nat → Ty → Bool
  | [], _, .unit => true
  | f :: fs, off, .pair A B => decide (f.offset = off) && (decide (P.cellsOf f.type = A.cells) && (ok f.type A && okFs ok P fs (off + A.cells) B))
  | _, _, _ => false
def okTy (P : Program) : Nat → TypeId → Ty → Bool
  | 0, _, _ => false
  | n + 1, t, T => match P.underlying t, T with
    | some (.int k), .int k' => decide (k = k')
    | some .bool, .bool => true
    | some .string, .str => true
    | some (.slice e), .slice E => okTy P n e E && (decide (P.cellsOf e = E.cells) && decide (0 < E.cells))
    | some (.struct fs), T => decide (P.cellsOf t = T.cells) && okFs (okTy P n) P fs.toList 0 T
    | _, _ => false
def Ty.wf : (T : Ty) → T.den → Prop
  | .int k, n => (Lit.int k n).wf = true
  | .bool, _ => True
  | .str, s => s.size ≤ maxLen
  | .slice t, l => l.length ≤ maxLen ∧ ∀ x ∈ l, t.wf x
  | .pair a b, x => a.wf x.1 ∧ b.wf x.2
  | .unit, _ => True
def InHeap (w : World) (b : Nat) : Prop := b < w.heap.size
theorem exists_list' {α : Type} {n : Nat} {p : Nat → α → Prop} (h : ∀ k, k < n → ∃ u, p k u) : ∃ us : List α, us.length = n ∧ ∀ (k : Nat) u, us[k]? = some u → p k u := by
  induction n with
  | zero => exact ⟨[], rfl, fun k u hu => by simp at hu⟩
  | succ n ih =>
    obtain ⟨us, h1, h2⟩ := ih (fun k hk => h k (by omega))
    obtain ⟨u, hu⟩ := h n (by omega)
    refine ⟨us ++ [u], by simp [h1], fun k v hv => ?_⟩
    by_cases hk : k < us.length
    · rw [List.getElem?_append_left hk] at hv; exact h2 k v hv
    · rw [List.getElem?_append_right (by omega)] at hv
      have : k = n := by
        rcases Nat.lt_or_ge (k - us.length) 1 with e | e
        · omega
        · simp [List.getElem?_eq_none (l := [u]) (i := k - us.length) (by simpa using e)] at hv
      subst this
      simp [h1] at hv; subst hv; exact hu
theorem cells?_get {base : Nat} {a : Addr} {n : Nat} {us : List Value} (h : w.cells? base a n = some us) : us.length = n ∧ ∀ c, c < n → ∃ u, us[c]? = some u ∧ w.cell? (a.add c) = some u := by
  unfold World.cells? at h
  split at h
  · refine ⟨by simpa using mapM_some_length h, fun c hc => ?_⟩
    have := mapM_some_get h c c (by simp [hc])
    have hl : us.length = n := by simpa using mapM_some_length h
    exact ⟨us[c], by simp [hl, hc], by simpa [hl, hc] using this⟩
  · cases h
variable {base : Nat} {sp : Nat → Bool} {held : Bool}
theorem fs_RT {n fuel : Nat} (ih : ∀ {t : TypeId} {T : Ty} {cs : List Value} {z : DataW H × List MemPlace}, okTy P n t T = true → DataW.trod enc P w base sp held fuel t cs = some z → ∃ x : T.den, RT w (InHeap w) T cs x ∧ T.wf x) {cs : List Value} :
    ∀ {fs : List Field} {off : Nat} {T : Ty} {xs : List (DataW H × List MemPlace)}, okFs (okTy P n) P fs off T = true → off + T.cells = cs.length →
      fs.mapM (fun f => DataW.trod enc P w base sp held fuel f.type ((cs.drop f.offset).take (P.cellsOf f.type))) = some xs → ∃ x : T.den, RT w (InHeap w) T (cs.drop off) x ∧ T.wf x
  | [], off, .unit, xs, h, hl, hm => ⟨(), by simp only [RT]; rw [List.drop_eq_nil_iff]; simp only [Ty.cells] at hl; omega, trivial⟩
  | f :: fs, off, .pair A B, xs, h, hl, hm => by
    simp only [okFs, Bool.and_eq_true, decide_eq_true_eq] at h
    obtain ⟨h1, h2, h3, h4⟩ := h
    rw [List.mapM_cons] at hm
    cases hz : DataW.trod enc P w base sp held fuel f.type ((cs.drop f.offset).take (P.cellsOf f.type)) with
    | none => rw [hz] at hm; simp at hm
    | some z =>
      rw [hz] at hm
      cases hr : fs.mapM (fun f => DataW.trod enc P w base sp held fuel f.type ((cs.drop f.offset).take (P.cellsOf f.type))) with
      | none => rw [hr] at hm; simp at hm
      | some zs =>
        obtain ⟨x, x1, x2⟩ := ih h3 hz
        obtain ⟨y, y1, y2⟩ := fs_RT ih h4 (by simp only [Ty.cells] at hl; omega) hr
        refine ⟨(x, y), ⟨(cs.drop off).take A.cells, cs.drop (off + A.cells), ?_, ?_, y1⟩, x2, y2⟩
        · rw [← List.drop_drop, List.take_append_drop]
        · rw [h1, h2] at x1; exact x1
  | [], _, .int _, _, h, _, _ | [], _, .bool, _, h, _, _ | [], _, .str, _, h, _, _ | [], _, .slice _, _, h, _, _ | [], _, .pair _ _, _, h, _, _ => by simp [okFs] at h
  | _ :: _, _, .int _, _, h, _, _ | _ :: _, _, .bool, _, h, _, _ | _ :: _, _, .str, _, h, _, _ | _ :: _, _, .slice _, _, h, _, _ | _ :: _, _, .unit, _, h, _, _ => by simp [okFs] at h
theorem trod_RT : ∀ {n fuel : Nat} {t : TypeId} {T : Ty} {cs : List Value} {z : DataW H × List MemPlace}, okTy P n t T = true → DataW.trod enc P w base sp held fuel t cs = some z → ∃ x : T.den, RT w (InHeap w) T cs x ∧ T.wf x
  | 0, fuel, t, T, cs, z, hk, h => by simp [okTy] at hk
  | n + 1, 0, t, T, cs, z, hk, h => by simp [DataW.trod] at h
  | n + 1, fuel + 1, t, T, cs, z, hk, h => by
    simp only [okTy] at hk
    split at hk
    · rename_i k k' hu
      have hk := of_decide_eq_true hk
      subst hk
      rcases cs with _ | ⟨v, _ | ⟨v', vs⟩⟩
      · simp [DataW.trod, hu] at h
      · cases v <;> simp [DataW.trod, hu] at h
        rename_i k' m
        obtain ⟨⟨rfl, h1⟩, _⟩ := h
        exact ⟨m, rfl, h1⟩
      · cases v <;> simp [DataW.trod, hu] at h
    · rename_i hu
      rcases cs with _ | ⟨v, _ | ⟨v', vs⟩⟩
      · simp [DataW.trod, hu] at h
      · cases v <;> simp [DataW.trod, hu] at h
        rename_i m
        exact ⟨m, rfl, trivial⟩
      · cases v <;> simp [DataW.trod, hu] at h
    · rename_i hu
      rcases cs with _ | ⟨v, _ | ⟨v', vs⟩⟩
      · simp [DataW.trod, hu] at h
      · cases v <;> simp [DataW.trod, hu] at h
        rename_i m
        exact ⟨m, rfl, h.1⟩
      · cases v <;> simp [DataW.trod, hu] at h
    · rename_i e E hu
      simp only [Bool.and_eq_true, decide_eq_true_eq] at hk
      obtain ⟨k1, k2, k3⟩ := hk
      rcases cs with _ | ⟨v, _ | ⟨v', vs⟩⟩
      · simp [DataW.trod, hu] at h
      · cases v <;> try (simp [DataW.trod, hu] at h; done)
        rename_i A len cap
        cases A with
        | none =>
          by_cases h0 : len = 0 ∧ cap = 0
          · obtain ⟨rfl, rfl⟩ := h0
            exact ⟨[], ⟨none, 0, rfl, Nat.le_refl _, fun _ => rfl, fun i x hx => by simp at hx⟩, by simp, fun x hx => by simp at hx⟩
          · exfalso
            rcases len with _ | len <;> rcases cap with _ | cap <;> simp [DataW.trod, hu] at h h0
        | some a =>
          simp only [DataW.trod, hu] at h
          split at h
          · rename_i hb
            cases hm : (List.range len).mapM (fun i => (w.cells? base (a.add (i * P.cellsOf e)) (P.cellsOf e)).bind (DataW.trod enc P w base sp held fuel e)) with
            | none => rw [hm] at h; simp at h
            | some elems =>
              have helem : ∀ i, i < len → ∃ x : E.den, ∃ us, w.cells? base (a.add (i * P.cellsOf e)) (P.cellsOf e) = some us ∧ RT w (InHeap w) E us x ∧ E.wf x := fun i hi => by
                have h1 := mapM_some_get hm i i (by simp [hi])
                have hl : elems.length = len := by simpa using mapM_some_length hm
                rw [List.getElem?_eq_getElem (by omega)] at h1
                obtain ⟨us, hus, h2⟩ := Option.bind_eq_some_iff.1 h1
                obtain ⟨x, x1, x2⟩ := trod_RT k1 h2
                exact ⟨x, us, hus, x1, x2⟩
              obtain ⟨l, l1, l2⟩ := exists_list' (p := fun i x => ∃ us, w.cells? base (a.add (i * P.cellsOf e)) (P.cellsOf e) = some us ∧ RT w (InHeap w) E us x ∧ E.wf x) helem
              have haddr : l ≠ [] → a = ⟨a.block, a.off, none⟩ ∧ a.block < w.heap.size := fun hne => by
                have hlen : 0 < l.length := List.length_pos_iff.2 hne
                obtain ⟨us, u1, _⟩ := l2 0 l[0] (by simp [hlen])
                obtain ⟨_, g⟩ := cells?_get u1
                obtain ⟨u, _, g2⟩ := g 0 (by omega)
                simp only [Nat.zero_mul] at g2
                have e0 : (a.add 0).add 0 = a := by simp [Addr.add]
                rw [e0] at g2
                have hlt := World.block_lt_of_cell? _ _ g2
                refine ⟨?_, hlt⟩
                unfold World.cell? at g2
                split at g2
                · split at g2
                  · cases g2
                  · rename_i hs
                    cases a with
                    | mk b o sp => cases sp with
                      | none => rfl
                      | some _ => simp at hs
                · cases g2
              refine ⟨l, ⟨some a, cap, by rw [l1], by omega, fun h => (by cases h), fun i x hx => ?_⟩, by rw [l1]; omega, fun x hx => ?_⟩
              · obtain ⟨us, u1, u2, u3⟩ := l2 i x hx
                have hne : l ≠ [] := by intro e0; rw [e0] at hx; simp at hx
                obtain ⟨ea, elt⟩ := haddr hne
                obtain ⟨g1, g2⟩ := cells?_get u1
                refine ⟨a.block, a.off, us, by rw [← ea], elt, by rw [g1, k2], u2, fun c u hu => ?_⟩
                have hc : c < us.length := lt_of_get hu
                obtain ⟨u', q1, q2⟩ := g2 c (by omega)
                rw [hu] at q1; cases q1
                rw [ea] at q2
                rw [add_none, add_none] at q2
                unfold cellAt
                rw [k2] at q2
                rw [← Nat.add_assoc]; exact q2
              · obtain ⟨i, hi⟩ := List.mem_iff_getElem?.1 hx
                obtain ⟨us, _, _, u3⟩ := l2 i x hi
                exact u3
          · cases h
      · cases v <;> simp [DataW.trod, hu] at h
    · rename_i fs hu
      rw [Bool.and_eq_true] at hk
      have hc := of_decide_eq_true hk.1
      have hst : (if cs.length = P.cellsOf t then (fs.toList.mapM fun f => DataW.trod enc P w base sp held fuel f.type ((cs.drop f.offset).take (P.cellsOf f.type))).map fun xs => (DataW.agg (xs.map (·.1)), xs.flatMap (·.2)) else none) = some z := by
        rcases cs with _ | ⟨v, _ | ⟨v', vs⟩⟩ <;> (simp only [DataW.trod, hu] at h; exact h)
      split at hst
      · rename_i hlen
        obtain ⟨xs, hxs, _⟩ := Option.map_eq_some_iff.1 hst
        obtain ⟨x, x1, x2⟩ := fs_RT (n := n) (fun h1 h2 => trod_RT h1 h2) hk.2 (by omega) hxs
        exact ⟨x, by simpa using x1, x2⟩
      · cases hst
    · cases hk
open Go.ChangeShapes Go.WideShapes Go.ChangeAt Go.RowKit
variable {P : Program} {w : World} {H : Type} {enc : TypeId × Value → H}
def argA (P : Program) (t : TypeId) (T : Ty) (x : T.den) : AVal :=
  match P.underlying t with
  | some (.struct _) => .agg (T.flat x)
  | _ => (T.flat x).headD .undef
variable {gw : W0}
theorem cell_arg {T : Ty} {v : Value} {x : T.den} (hr : RT w (InHeap w) T [v] x) (h1 : ∀ a b, T ≠ .pair a b) (h2 : T ≠ .unit) : AT gw w (InHeap w) v (fun _ => False) ((T.flat x).headD .undef) := by
  cases T with
  | int k => cases hr; exact rfl
  | bool => cases hr; exact rfl
  | str => cases hr; exact rfl
  | slice t => exact hr
  | pair a b => exact absurd rfl (h1 a b)
  | unit => exact absurd rfl h2
theorem open_arg {n : Nat} {t : TypeId} {T : Ty} {r : Reach} {b0 base : Nat} {sp : Nat → Bool} {held : Bool} {v : Value} {d : DataW H} {ps : List MemPlace} (hk : okTy P n t T = true) (hval : Value.okWide P w r b0 t v)
    (hd : DataW.Trod enc P w base sp held t v d ps) : ∃ x : T.den, T.wf x ∧ ∀ gw : W0, AT gw w (InHeap w) v (fun _ => False) (argA P t T x) := by
  obtain ⟨fuel, hd⟩ := hd
  obtain ⟨x, x1, x2⟩ := trod_RT hk hd
  refine ⟨x, x2, fun gw => ?_⟩
  cases n with
  | zero => simp [okTy] at hk
  | succ n =>
    unfold argA
    simp only [okTy] at hk
    split at hk
    · rename_i k k' hu
      rw [hu]
      have hv : v.cells.toList = [v] := by
        simp only [Value.okWide, hu, Cell.okWide] at hval
        cases v <;> simp_all [Cell.ok, Value.cells]
      rw [hv] at x1
      exact cell_arg x1 (by simp) (by simp)
    · rename_i hu
      rw [hu]
      have hv : v.cells.toList = [v] := by
        simp only [Value.okWide, hu, Cell.okWide] at hval
        cases v <;> simp_all [Cell.ok, Value.cells]
      rw [hv] at x1
      exact cell_arg x1 (by simp) (by simp)
    · rename_i hu
      rw [hu]
      obtain ⟨s, rfl⟩ := okWide_string hu hval
      exact cell_arg x1 (by simp) (by simp)
    · rename_i e E hu
      rw [hu]
      obtain ⟨a, len, cap, rfl⟩ := okWide_slice hu hval
      exact cell_arg x1 (by simp) (by simp)
    · rename_i fs hu
      rw [hu]
      obtain ⟨cs, rfl, hsz⟩ := okWide_struct hu hval
      have x1 : RT w (InHeap w) _ cs.toList _ := x1
      obtain ⟨g1, g2⟩ := x1.flat
      refine ⟨cs, rfl, by rw [g1]; simp, fun _ _ => False, fun i y hy => ?_, fun _ _ _ _ h => h.elim, fun _ _ h => h.elim⟩
      have hi := lt_of_get hy
      rw [g1] at hi
      refine ⟨cs.toList[i], by simp, RA.ct (g2 i _ y (by simp) hy)⟩
    · cases hk
structure Stays (W W' : World) : Prop where
  kept : W.keptBut W' (fun _ => False)
  fz : ∀ a : Addr, a.block < W.heap.size → W'.frozen? a = W.frozen? a
theorem post_stays {f : Func} {s : ChangeSpec} {apart fresh handsOn again : Bool} {W W' : World} {args : Array Value} {v : Value} {ds gs : List (DataW H)} {before pa pv : List MemPlace}
    (hW : DataW.Whole enc P f.params.toList s.vars apart W args.toList ds gs before)
    (hres : ∀ (b : Nat) (sp : Nat → Bool) (hd : Bool), DataW.TrodAll enc P W' b sp hd f.resultTypes.toList (v.resultList f.resultTypes.size) (s.fn H (ds ++ gs)).results [])
    (hargs : ∀ sp : Nat → Bool, (∀ p ∈ before, sp p.block = true) → DataW.TrodAll enc P W' 0 sp true f.params.toList args.toList (s.fn H (ds ++ gs)).args pa)
    (hvars : ∀ sp : Nat → Bool, (∀ p ∈ before, sp p.block = true) → DataW.TrodVars enc P W' sp s.vars (s.fn H (ds ++ gs)).vars pv)
    (hps : before = pa ++ pv) (hs : Stays W W')
    (hok : ∀ (j : Nat) (t : TypeId) (r : Value), f.resultTypes[j]? = some t → (v.resultList f.resultTypes.size)[j]? = some r → Value.okWide P W' .any 0 t r) :
    s.post enc P f apart fresh handsOn again W args v W' := by
  have hlt := hW.lt
  have old : ∀ p ∈ before, decide (p.block < W.heap.size) = true := fun p hp => decide_eq_true (hlt p hp)
  have hz := hW
  obtain ⟨_, _, _, _, _, hz, hn⟩ := hz
  subst hps
  refine ⟨ds, gs, pa ++ pv, [], pa, pv, hW, hres _ _ _, hargs _ old, hvars _ old, World.keptBut_mono (fun p hp => hp.elim) hs.kept, fun _ => ⟨hok, _, _, pa ++ pv, ⟨[] ++ pa, pv, trodAll_append (hargs _ fun _ _ => rfl) (hres _ _ _), hvars _ fun _ _ => rfl, by simp, fun b off hp => ?_, hn⟩, fun p hp _ => hp⟩⟩
  rw [hs.fz _ (hlt _ hp)]
  exact hz b off hp
theorem law_walk {f : Nat} {cl : Callee} (hc : CalleeOk P f cl) {vs : List Value} {ds : List AVal} {x : cl.X} {y : cl.Y} (hl : vs.length = ds.length)
    (hat : ∀ gw : W0, ∀ (i : Nat) v d, vs[i]? = some v → ds[i]? = some d → AT gw w (InHeap w) v (fun _ => False) d) (hinn : cl.inn ds = some x) (hG : cl.G x = some y) (hout : (cl.out y).1 = .bool true) (hgp : cl.gp = [] := by rfl) (hk : KP w := by exact KP.none) :
    Calls P f vs.toArray w fun e w' => e = .returned (.bool true) ∧ Stays w w' ∧ Grows w w' := by
  refine (hc w (InHeap w) (fun _ => False) (fun b => b < NG) vs [] ds x y (by simpa using hl) (by rw [hgp]; rfl) (fun h => absurd rfl h) ⟨fun _ _ => False, fun i p hp => ?_, fun _ _ _ _ h => h.elim, fun _ _ h => h⟩ ⟨fun b h => ⟨Nat.lt_of_lt_of_le h hk.1, fun h => h⟩, fun _ h => h, hk.2⟩ (fun _ h => h.elim) (fun _ h => h) hinn hG).mono fun e w' ⟨rs, he, h1, h2, h3, R', h4, h5, h6, h7, h8, h9⟩ => ?_
  · obtain ⟨v, d⟩ := p
    rw [List.getElem?_zip_eq_some, List.append_nil] at hp
    exact hat _ i v d hp.1 hp.2
  · rw [hout] at h1 h2
    obtain ⟨v, d, rfl⟩ : ∃ v d, rs = [(v, d)] := by
      match rs, h1 with
      | [(v, d)], _ => exact ⟨v, d, rfl⟩
      | [], h1 => simp [resList] at h1
      | _ :: _ :: _, h1 => simp [resList] at h1
    simp only [List.map_cons, List.map_nil, resList, List.cons.injEq, and_true] at h1
    subst h1
    obtain ⟨Ss, g1, _⟩ := h4
    have hv : v = .bool true := g1 0 _ rfl
    subst hv
    refine ⟨he, ⟨⟨h9.1, h9.2, fun i hi => ?_⟩, fun a ha => by unfold World.frozen?; rw [h7 _ ha fun h => h]⟩, fun b hb => h7 b hb fun h => h⟩
    rw [h7 i hi (fun h => h)]
    cases hx : w.heap[i]? with
    | none => rfl
    | some o =>
      cases o with
      | cells c t fr => exact ⟨rfl, rfl, rfl, fun _ _ => rfl⟩
      | map es clock => exact .inr ⟨rfl, rfl⟩
      | _ => rfl
theorem same_of {W W' : World} (h : Grows W W') {p : MemPlace} (hp : p.block < W.heap.size) : W.sameAt W' p := by
  cases p with
  | cell b off =>
    show W'.cell? ⟨b, off, none⟩ = W.cell? ⟨b, off, none⟩
    unfold World.cell?
    rw [h b hp]
  | map b => exact h b hp
def wsA : List Char → List Char → List (List Char)
  | [], a => [a.reverse]
  | c :: r, a => match c.toNat == 32 with
    | true => a.reverse :: wsA r []
    | false => wsA r (c :: a)
theorem words_ne (l : List Char) : wordsSigns l ≠ [] := by
  cases l with
  | nil => simp [wordsSigns]
  | cons c r =>
    by_cases h : c = ' '
    · subst h; simp [wordsSigns]
    · rw [wordsSigns]
      · split <;> simp
      · exact h
theorem wsA_eq : ∀ (l a : List Char), wsA l a = (match wordsSigns l with | w :: ws => (a.reverse ++ w) :: ws | [] => [a.reverse])
  | [], a => by simp [wsA, wordsSigns]
  | c :: r, a => by
    unfold wsA
    by_cases h : c = ' '
    · subst h
      have e : (' '.toNat == 32) = true := rfl
      rw [e]
      dsimp only
      rw [wsA_eq r []]
      simp only [wordsSigns]
      cases hw : wordsSigns r with
      | nil => exact absurd hw (words_ne r)
      | cons w ws => simp
    · have e : (c.toNat == 32) = false := by
        rw [beq_eq_false_iff_ne]
        intro e
        exact h (Char.toNat_inj.1 (e.trans rfl))
      rw [e]
      dsimp only
      rw [wsA_eq r (c :: a), wordsSigns]
      · cases hw : wordsSigns r with
        | nil => exact absurd hw (words_ne r)
        | cons w ws => simp
      · exact h
theorem ws_eq (l : List Char) : wordsSigns l = wsA l [] := by
  rw [wsA_eq]
  cases hw : wordsSigns l with
  | nil => exact absurd hw (words_ne l)
  | cons w ws => simp
end Go.OAI
