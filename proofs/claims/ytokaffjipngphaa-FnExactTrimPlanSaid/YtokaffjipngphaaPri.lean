/- The program's walk by breadth and its greatest flow. -/
import Derived.Test.YtokaffjipngphaaPwi
namespace Go.OAI
set_option linter.unusedVariables false
noncomputable section

variable {N : Net} {v : Nat} {l : List Int} {t t' : Bf}
def QW (q : List Int) (a0 a1 i : Nat) (t : Bf) : Prop := (q.drop a0).take a1 = t.L.drop i ∧ i ≤ t.L.length
theorem src_l1 (hN : N.Ok) (hl : WL N l) {i : Nat} : ∀ (j k : Nat) (t : Bf) (a0 a1 : Nat) (q : List Int), k + j = (N.ad v).length → BI N l t → (v : Int) ∈ t.L → QW q a0 a1 i t →
    ∃ a0' a1' q', impl_residual_fromSource_l1 (v : Int) (N.ad v) ((N.ad v).length : Int) N.to l a0 a1 (k : Int) t.lv t.sn q = some (a0', (a1', ((scan N l v t ((N.ad v).drop k)).lv, ((scan N l v t ((N.ad v).drop k)).sn, q')))) ∧ QW q' a0' a1' i (scan N l v t ((N.ad v).drop k)) := by
  intro j
  have hnb := hN.nb
  induction j with
  | zero =>
    intro k t a0 a1 q hk hb hv hq
    have hd : (N.ad v).drop k = [] := List.drop_eq_nil_of_le (by omega)
    refine ⟨a0, a1, q, ?_, ?_⟩
    · rw [impl_residual_fromSource_l1_eq]
      unfold impl_residual_fromSource_l1K
      have : decide ((k : Int) < ((N.ad v).length : Int)) = false := by simp; omega
      rw [this, hd]
      rfl
    · rw [hd]; exact hq
  | succ j ih =>
    intro k t a0 a1 q hk hb hv hq
    have hkl : k < (N.ad v).length := by omega
    obtain ⟨e, he, e1, e2⟩ := hN.adm v _ (List.getElem_mem hkl)
    have hm : (e : Int) ∈ N.ad v := by rw [← he]; exact List.getElem_mem hkl
    have hh := hN.hd_lt e1
    obtain ⟨b1, b2, b3, r, b4⟩ := scan1_ok hN hb hv hm
    have hsc : scan N l v t ((N.ad v).drop k) = scan N l v (scan1 N l v t e) ((N.ad v).drop (k + 1)) := by
      rw [List.drop_eq_getElem_cons hkl, he]; rfl
    rw [hsc]
    have hbd := hb.bnd v hv
    have hln := hb.len
    obtain ⟨u, hu1, hu2⟩ := hb.ran _ hv
    have hvn : v < N.n := by omega
    have hab := hN.adb v
    have wk : IntKind.i64.wrap ((k : Int) + 1) = ((k + 1 : Nat) : Int) := by rw [wr (by omega) (by omega)]; omega
    have f1 : decide ((k : Int) < ((N.ad v).length : Int)) = true := dl hkl
    have f2 : lat (N.ad v) (k : Int) = some (e : Int) := by rw [lat_nat hkl, he]
    have f5 := dl (i := e) (n := l.length) (by rw [hl.len]; exact e1)
    have f8 := dl (i := N.hd e) (n := t.sn.length) (by rw [hb.snl]; exact hh)
    have f9 := dl (i := N.hd e) (n := t.lv.length) (by rw [hb.lvl]; exact hh)
    have f10 := dl (i := v) (n := t.lv.length) (by rw [hb.lvl]; exact hvn)
    have w2 : IntKind.i64.wrap (t.lv.getD v 0 + 1) = t.lv.getD v 0 + 1 := wr (by omega) (by omega)
    obtain ⟨hq1, hq2⟩ := hq
    have step : impl_residual_fromSource_l1 (v : Int) (N.ad v) ((N.ad v).length : Int) N.to l a0 a1 (k : Int) t.lv t.sn q =
        if 0 < l.getD e 0 ∧ t.sn.getD (N.hd e) false = false then
          impl_residual_fromSource_l1 (v : Int) (N.ad v) ((N.ad v).length : Int) N.to l 0 ((t.L ++ [(N.hd e : Int)]).drop i).length ((k + 1 : Nat) : Int) (t.lv.set (N.hd e) (t.lv.getD v 0 + 1)) (t.sn.set (N.hd e) true) ((t.L ++ [(N.hd e : Int)]).drop i)
        else impl_residual_fromSource_l1 (v : Int) (N.ad v) ((N.ad v).length : Int) N.to l a0 a1 ((k + 1 : Nat) : Int) t.lv t.sn q := by
      rw [impl_residual_fromSource_l1_eq]
      unfold impl_residual_fromSource_l1K
      simp only [f1, cond_true, f2, Option.bind_some, dz, f5, Bool.and_self, tz, Nat.zero_add, lat_to hN e1, f8, f9, f10, w2, wk]
      by_cases c1 : 0 < l.getD e 0
      · have q1 : decide (l.getD e 0 > 0) = true := decide_eq_true c1
        simp only [q1, cond_true]
        cases hs : t.sn.getD (N.hd e) false with
        | true =>
          rw [if_neg (by simp)]
          simp only [Bool.not_true, cond_false]
        | false =>
          rw [if_pos ⟨c1, rfl⟩]
          have hap : (q.drop a0).take a1 ++ [(N.hd e : Int)] = (t.L ++ [(N.hd e : Int)]).drop i := by rw [hq1, List.drop_append_of_le_length hq2]
          have hcap : decide (((q.drop a0).take a1).length + [(N.hd e : Int)].length ≤ 1099511627776) = true := by
            rw [hq1]; simp only [List.length_drop, List.length_singleton]
            have := b1.len
            rw [show scan1 N l v t e = ⟨t.sn.set (N.hd e) true, t.lv.set (N.hd e) (t.lv.getD v 0 + 1), t.L ++ [(N.hd e : Int)]⟩ by unfold scan1; rw [if_pos ⟨by simpa using c1, by simpa using hs⟩]; simp] at this
            simp only [List.length_append, List.length_singleton] at this
            exact decide_eq_true (by omega)
          simp only [Bool.not_false, cond_true, hcap, hap]
      · have q1 : decide (l.getD e 0 > 0) = false := decide_eq_false c1
        rw [if_neg fun g => c1 g.1]
        simp only [q1, cond_false]
    rw [step]
    by_cases c : 0 < l.getD e 0 ∧ t.sn.getD (N.hd e) false = false
    · rw [if_pos c]
      have hs1 : scan1 N l v t e = ⟨t.sn.set (N.hd e) true, t.lv.set (N.hd e) (t.lv.getD v 0 + 1), t.L ++ [(N.hd e : Int)]⟩ := by
        unfold scan1; rw [if_pos (by simpa using c)]; simp
      rw [hs1] at b1 ⊢
      exact ih (k + 1) _ 0 _ _ (by omega) b1 (List.mem_append_left _ hv) ⟨by rw [List.drop_zero, List.take_length], by simp; omega⟩
    · rw [if_neg c]
      have hs1 : scan1 N l v t e = t := by
        unfold scan1; rw [if_neg (by simpa using c)]
      rw [hs1] at b1 ⊢
      exact ih (k + 1) _ a0 a1 q (by omega) b1 hv ⟨hq1, hq2⟩
theorem src_l0 (hN : N.Ok) (hl : WL N l) {i : Nat} (h : Bs N l i t t') : ∀ (a0 a1 : Nat) (q : List Int), BI N l t → QW q a0 a1 i t →
    impl_residual_fromSource_l0 N.adj N.to l a0 a1 t.lv t.sn q = some (t'.lv, t'.sn) := by
  have hnb := hN.nb
  induction h with
  | @stop i t hi =>
    intro a0 a1 q hb hq
    rw [impl_residual_fromSource_l0_eq]
    unfold impl_residual_fromSource_l0K
    rw [hq.1, List.drop_eq_nil_of_le hi]
    simp
  | @step i v t t' hv _ ih =>
    intro a0 a1 q hb hq
    have hi : i < t.L.length := (List.getElem?_eq_some_iff.1 hv).1
    have hm : (v : Int) ∈ t.L := List.mem_of_getElem? hv
    obtain ⟨u, hu1, hu2⟩ := hb.ran _ hm
    have hvn : v < N.n := by omega
    have hw : 0 < ((q.drop a0).take a1).length := by rw [hq.1, List.length_drop]; omega
    have hd : q.getD a0 0 = (v : Int) := by
      have g : ((q.drop a0).take a1)[0]? = some (v : Int) := by rw [hq.1, List.getElem?_drop]; simpa using hv
      have h1 : 0 < a1 := by
        rcases Nat.eq_zero_or_pos a1 with c | c
        · rw [c] at hw; simp at hw
        · exact c
      rw [List.getElem?_take_of_lt h1, List.getElem?_drop] at g
      rw [List.getD_eq_getElem?_getD, show a0 = a0 + 0 by omega, g]; rfl
    obtain ⟨b1, b2, b3, r, b4⟩ := scan_ok hN (N.ad v) t hb hm fun _ h => h
    have hq' : QW q (a0 + 1) (((q.drop a0).take a1).length - 1) (i + 1) t := by
      refine ⟨?_, hi⟩
      have e : (q.drop a0).take a1 = (q.drop a0).take ((q.drop a0).take a1).length := by
        rw [List.length_take]
        rcases Nat.le_total a1 (q.drop a0).length with c | c
        · rw [Nat.min_eq_left c]
        · rw [Nat.min_eq_right c, List.take_of_length_le c, List.take_of_length_le (Nat.le_refl _)]
      have e2 : t.L.drop (i + 1) = (t.L.drop i).drop 1 := by rw [List.drop_drop]
      rw [e2, ← hq.1]
      generalize hW : ((q.drop a0).take a1).length = W at *
      rw [e, List.drop_take, List.drop_drop]
    obtain ⟨a0', a1', q', g1, g2⟩ := src_l1 hN hl (v := v) (i := i + 1) (N.ad v).length 0 t _ _ _ (by omega) hb hm hq'
    rw [impl_residual_fromSource_l0_eq]
    unfold impl_residual_fromSource_l0K
    have c1 : decide ((((q.drop a0).take a1).length : Int) > 0) = true := decide_eq_true (by omega)
    have c2 : decide ((0 : Int) < (((q.drop a0).take a1).length : Int)) = true := decide_eq_true (by omega)
    have c3 : decide ((1 : Int) ≤ (((q.drop a0).take a1).length : Int)) = true := decide_eq_true (by omega)
    have c4 : decide ((((q.drop a0).take a1).length : Int) ≤ (((q.drop a0).take a1).length : Int)) = true := decide_eq_true (by omega)
    simp only [c1, c2, c3, c4, cond_true, Bool.and_self, Nat.add_zero, hd, lat_adj hN hvn, Option.bind_some, tz]
    have g1 : impl_residual_fromSource_l1 (v : Int) (N.ad v) ((N.ad v).length : Int) N.to l (a0 + 1) (((q.drop a0).take a1).length - 1) 0 t.lv t.sn q = _ := g1
    rw [g1]
    simp only [Option.bind_some, List.drop_zero] at g2 ⊢
    exact ih _ _ _ b1 g2
theorem src_ok (hN : N.Ok) (hl : WL N l) : ∃ t, Rd N l t ∧ ∀ lv0 x0 : List Int, impl_residual_fromSource (N.adj, (N.to, (l, (lv0, x0)))) = some (t.sn, (N.adj, (N.to, (l, (t.lv, x0))))) := by
  obtain ⟨t, h1, h2⟩ := bfs_total (l := l) hN
  have hn := hN.n2
  have hnb := hN.nb
  refine ⟨t, h2, fun lv0 x0 => ?_⟩
  unfold impl_residual_fromSource impl_residual_fromSourceK
  have c1 : decide ((N.adj.length : Int) ≤ 1099511627776) = true := decide_eq_true (by rw [hN.adl]; omega)
  have c2 : decide ((N.adj.length : Int) ≤ (N.adj.length : Int)) = true := decide_eq_true (by omega)
  have c3 : decide ((0 : Int) < ((List.replicate N.adj.length false).length : Int)) = true := decide_eq_true (by rw [List.length_replicate, hN.adl]; omega)
  simp only [dz, c1, c2, Bool.and_self, cond_true, Option.bind_some, tz, c3, Nat.zero_add]
  have := src_l0 hN hl h1 0 1 [0] (start_bi hN) ⟨by simp [start], by omega⟩
  simp only [start] at this
  rw [hN.adl]
  simp only [List.length_singleton]
  rw [this]
  rfl

/-! ### Flows that grow -/
def val (N : Net) (l : List Int) : Int := exc (arcsOf N.to l) ((N.n - 1 : Nat) : Int)
structure FL (N : Net) (E : List (Int × Int × Int)) (l : List Int) : Prop where
  wl : WL N l
  en : ends (arcsOf N.to l) = E
  ex : ∀ v : Int, 0 < v → v < (N.n : Int) - 1 → exc (arcsOf N.to l) v = 0
def tot : List (Int × Int × Int) → Int
  | [] => 0
  | e :: E => tot E + e.2.2
theorem exc_tot : ∀ (L : List Arc), (∀ e ∈ L, 0 ≤ e.f ∧ e.f ≤ e.c) → ∀ v, exc L v ≤ tot (ends L)
  | [], _, v => Int.le_refl _
  | e :: L, h, v => by
    have ih := exc_tot L (fun x hx => h x (List.mem_cons_of_mem _ hx)) v
    have he := h e List.mem_cons_self
    show exc L v + _ - _ ≤ tot (ends L) + e.c
    split <;> split <;> omega
variable {E : List (Int × Int × Int)}
theorem FL.val_le (hN : N.Ok) (h : FL N E l) : val N l ≤ tot E := by
  rw [← h.en]
  refine exc_tot _ (fun a ha => ?_) _
  obtain ⟨k, hk, h1, h2, h3, h4⟩ := arcs_ends hN h.wl a ha
  have b1 := h.wl.ge (2 * k) (by omega)
  have b2 := h.wl.ge (2 * k + 1) (by omega)
  rw [h3, h4]; omega
/-- One push from the source. -/
theorem FL.push (hN : N.Ok) {d : Nat → Int} {most s : Int} {x l' x' : List Int} (h : FL N E l) (hx : WX N x) (hm : 0 ≤ most) (hd : Dn N d false 0 most l x s l' x') : FL N E l' ∧ WX N x' ∧ 0 ≤ s ∧ val N l' = val N l + s := by
  have hn := hN.n2
  obtain ⟨w1, w2, w3, w4⟩ := hd.wf hN (by omega) h.wl hx hm
  obtain ⟨e1, e2⟩ := hd.exc hN (by omega) h.wl.len
  refine ⟨⟨w1, e1.trans h.en, fun v v0 v1 => ?_⟩, w2, w3, ?_⟩
  · rw [e2 v, h.ex v v0 v1, if_neg (by omega), if_neg (by omega)]; rfl
  · unfold val
    rw [e2, if_pos rfl, if_neg (by omega)]; omega
theorem zero_wx (hN : N.Ok) : WX N (List.replicate N.n 0) := by
  have g : ∀ u, (List.replicate N.n (0 : Int)).getD u 0 = 0 := fun u => by
    rw [List.getD_eq_getElem?_getD, List.getElem?_replicate]; split <;> rfl
  exact ⟨by simp, fun v _ => by rw [g]; exact Int.le_refl _, fun v _ => by rw [g]; omega⟩
theorem zero_dinv {d : Nat → Int} {n : Nat} : DInv N d l (List.replicate n 0) := by
  have g : ∀ u, (List.replicate n (0 : Int)).getD u 0 = 0 := fun u => by
    rw [List.getD_eq_getElem?_getD, List.getElem?_replicate]; split <;> rfl
  intro u _ k e hk _
  rw [g] at hk; omega
theorem Rd.wv (hN : N.Ok) (h : Rd N l t) : WV0 N t.lv := by
  have h1 := h.bi.len
  have h2 := hN.nb
  exact ⟨h.bi.lvl, fun u hu => by have := h.bi.all u hu; omega, fun u hu => by have := h.bi.all u hu; omega⟩
theorem phase_i (hN : N.Ok) {lv : List Int} (hw : WV0 N lv) : ∀ (k : Nat) (a0 : Int) (l x : List Int), (tot E - val N l).toNat ≤ k → FL N E l → WX N x →
    ∃ a0' l' x', impl_residual_run_l1 a0 N.adj N.to l lv x = some (a0', (N.adj, (N.to, (l', (lv, x'))))) ∧ FL N E l' ∧ val N l ≤ val N l' ∧
      (DInv N (fun u => lv.getD u 0) l x → (∀ x', DInv N (fun u => lv.getD u 0) l x' → ¬ Dead N x' 0) → val N l < val N l') := by
  have hn := hN.n2
  intro k
  induction k with
  | zero =>
    intro a0 l x hk h hx
    obtain ⟨s, l1, x1, hd⟩ := dn_total hN (D := 1099511627776) (fun u hu => hw.hi u hu) _ 0 (by omega) (Nat.le_refl _) 1152921504606846976 l x (by omega) h.wl hx
    obtain ⟨g1, g2, g3, g4⟩ := h.push hN hx (by omega) hd
    have := g1.val_le hN
    have hs : s = 0 := by omega
    have hp : impl_residual_push (N.adj, (N.to, (l, (lv, x)))) 0 1152921504606846976 = _ := push_i hN hw hd (by omega) h.wl hx (by omega) (by omega)
    refine ⟨a0, l1, x1, ?_, g1, by omega, fun q1 q2 => ?_⟩
    · rw [impl_residual_run_l1_eq]
      unfold impl_residual_run_l1K
      rw [hp]
      subst hs
      simp
    · obtain ⟨_, d2, d3⟩ := hd.dead hN (by omega) h.wl hx (by omega) hs q1 (fun c => by cases c)
      exact absurd d3 (q2 _ d2)
  | succ k ih =>
    intro a0 l x hk h hx
    obtain ⟨s, l1, x1, hd⟩ := dn_total hN (D := 1099511627776) (fun u hu => hw.hi u hu) _ 0 (by omega) (Nat.le_refl _) 1152921504606846976 l x (by omega) h.wl hx
    obtain ⟨g1, g2, g3, g4⟩ := h.push hN hx (by omega) hd
    have hp : impl_residual_push (N.adj, (N.to, (l, (lv, x)))) 0 1152921504606846976 = _ := push_i hN hw hd (by omega) h.wl hx (by omega) (by omega)
    by_cases hs : s = 0
    · refine ⟨a0, l1, x1, ?_, g1, by omega, fun q1 q2 => ?_⟩
      · rw [impl_residual_run_l1_eq]
        unfold impl_residual_run_l1K
        rw [hp]
        subst hs
        simp
      · obtain ⟨_, d2, d3⟩ := hd.dead hN (by omega) h.wl hx (by omega) hs q1 (fun c => by cases c)
        exact absurd d3 (q2 _ d2)
    · obtain ⟨a0', l', x', r1, r2, r3, _⟩ := ih (IntKind.i64.wrap (a0 + s)) l1 x1 (by omega) g1 g2
      refine ⟨a0', l', x', ?_, r2, by omega, fun _ _ => by omega⟩
      rw [impl_residual_run_l1_eq]
      unfold impl_residual_run_l1K
      rw [hp]
      have : (s == 0) = false := by simpa using hs
      simp only [Option.bind_some, this, cond_false]
      exact r1
theorem eqP_self {α : Type} (a : α) : eqP a a = true := by simp [eqP]
theorem run_i (hN : N.Ok) : ∀ (k : Nat) (a0 : Int) (l lv0 x0 : List Int), (tot E - val N l).toNat ≤ k → FL N E l →
    ∃ a0' l' lv' x', impl_residual_run_l0 a0 N.adj N.to l lv0 x0 = some (a0', (N.adj, (N.to, (l', (lv', x'))))) ∧ FL N E l' ∧
      ∃ t, Rd N l' t ∧ t.sn.getD (N.n - 1) false = false ∧ ∀ lv0 x0 : List Int, impl_residual_fromSource (N.adj, (N.to, (l', (lv0, x0)))) = some (t.sn, (N.adj, (N.to, (l', (t.lv, x0))))) := by
  have hn := hN.n2
  have hnb := hN.nb
  have c1 : decide ((N.n : Int) ≤ 1099511627776) = true := decide_eq_true (by omega)
  have c2 : decide ((N.n : Int) ≤ (N.n : Int)) = true := decide_eq_true (by omega)
  have e1 : IntKind.i64.wrap ((N.adj.length : Int) - 1) = ((N.n - 1 : Nat) : Int) := by rw [hN.adl, wr (by omega) (by omega)]; omega
  have key : ∀ (k : Nat), (∀ (j : Nat), j < k → ∀ (a0 : Int) (l lv0 x0 : List Int), (tot E - val N l).toNat ≤ j → FL N E l →
    ∃ a0' l' lv' x', impl_residual_run_l0 a0 N.adj N.to l lv0 x0 = some (a0', (N.adj, (N.to, (l', (lv', x'))))) ∧ FL N E l' ∧
      ∃ t, Rd N l' t ∧ t.sn.getD (N.n - 1) false = false ∧ ∀ lv0 x0 : List Int, impl_residual_fromSource (N.adj, (N.to, (l', (lv0, x0)))) = some (t.sn, (N.adj, (N.to, (l', (t.lv, x0)))))) →
    ∀ (a0 : Int) (l lv0 x0 : List Int), (tot E - val N l).toNat ≤ k → FL N E l →
    ∃ a0' l' lv' x', impl_residual_run_l0 a0 N.adj N.to l lv0 x0 = some (a0', (N.adj, (N.to, (l', (lv', x'))))) ∧ FL N E l' ∧
      ∃ t, Rd N l' t ∧ t.sn.getD (N.n - 1) false = false ∧ ∀ lv0 x0 : List Int, impl_residual_fromSource (N.adj, (N.to, (l', (lv0, x0)))) = some (t.sn, (N.adj, (N.to, (l', (t.lv, x0))))) := by
    intro k ih a0 l lv0 x0 hk h
    obtain ⟨t, ht, hsrc⟩ := src_ok hN h.wl
    have f8 := dl (i := N.n - 1) (n := t.sn.length) (by rw [ht.bi.snl]; omega)
    cases hs : t.sn.getD (N.n - 1) false with
    | false =>
      refine ⟨a0, l, t.lv, x0, ?_, h, t, ht, hs, hsrc⟩
      rw [impl_residual_run_l0_eq]
      unfold impl_residual_run_l0K
      simp only [hsrc, Option.bind_some, eqP_self, Bool.and_self, cond_true, e1, dz, f8, tz, Nat.zero_add, hs, cond_false]
    | true =>
      obtain ⟨b0, l1, x1, p1, p2, p3, p4⟩ := phase_i hN (ht.wv hN) (tot E - val N l).toNat a0 l (List.replicate N.n 0) (Nat.le_refl _) h (zero_wx hN)
      have p5 := p4 zero_dinv fun x' hx' => ht.first hN h.wl (fun _ _ => rfl) hs hx'
      have hv := p2.val_le hN
      obtain ⟨a0', l', lv', x', r1, r2, r3⟩ := ih (tot E - val N l1).toNat (by omega) b0 l1 t.lv x1 (Nat.le_refl _) p2
      refine ⟨a0', l', lv', x', ?_, r2, r3⟩
      rw [impl_residual_run_l0_eq]
      unfold impl_residual_run_l0K
      have e2 : N.adj.length = N.n := hN.adl
      have e3 : IntKind.i64.wrap ((N.n : Int) - 1) = ((N.n - 1 : Nat) : Int) := by have h := e1; rw [e2] at h; exact h
      simp only [hsrc, Option.bind_some, eqP_self, Bool.and_self, cond_true, dz, f8, tz, Nat.zero_add, hs, e2, e3, c1, c2, p1]
      exact r1
  intro k
  induction k using Nat.strongRecOn with
  | _ k ih => exact key k ih
end
end Go.OAI
