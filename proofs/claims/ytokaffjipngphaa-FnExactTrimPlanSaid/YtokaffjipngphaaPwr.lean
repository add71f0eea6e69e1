/- The reference's walk by breadth and its greatest flow. -/
import Derived.Test.YtokaffjipngphaaPws
namespace Go.OAI
set_option linter.unusedVariables false
noncomputable section

variable {N : Net} {v : Nat} {l : List Int} {t t' : Bf} {E : List (Int × Int × Int)}
/-- Levels with -1 at what is not reached. -/
structure DC (N : Net) (d : List Int) (t : Bf) : Prop where
  len : d.length = N.n
  get : ∀ u, u < N.n → d.getD u 0 = if t.sn.getD u false = true then t.lv.getD u 0 else -1
theorem lev_l2 (hN : N.Ok) (hl : WL N l) {i : Nat} : ∀ (j k : Nat) (t : Bf) (d : List Int), k + j = (N.ad v).length → BI N l t → t.L[i]? = some (v : Int) → DC N d t →
    ∃ d', spec_mfState_levels_l2 (i : Int) (N.ad v) ((N.ad v).length : Int) N.to l (k : Int) d t.L = some (d', (scan N l v t ((N.ad v).drop k)).L) ∧ DC N d' (scan N l v t ((N.ad v).drop k)) := by
  intro j
  have hnb := hN.nb
  induction j with
  | zero =>
    intro k t d hk hb hv hq
    have hd : (N.ad v).drop k = [] := List.drop_eq_nil_of_le (by omega)
    refine ⟨d, ?_, ?_⟩
    · rw [spec_mfState_levels_l2_eq]
      unfold spec_mfState_levels_l2K
      have : decide ((k : Int) < ((N.ad v).length : Int)) = false := by simp; omega
      rw [this, hd]
      rfl
    · rw [hd]; exact hq
  | succ j ih =>
    intro k t d hk hb hv hq
    have hkl : k < (N.ad v).length := by omega
    have hvm : (v : Int) ∈ t.L := List.mem_of_getElem? hv
    have hil : i < t.L.length := (List.getElem?_eq_some_iff.1 hv).1
    obtain ⟨e, he, e1, e2⟩ := hN.adm v _ (List.getElem_mem hkl)
    have hm : (e : Int) ∈ N.ad v := by rw [← he]; exact List.getElem_mem hkl
    have hh := hN.hd_lt e1
    obtain ⟨b1, b2, b3, r, b4⟩ := scan1_ok hN hb hvm hm
    have hsc : scan N l v t ((N.ad v).drop k) = scan N l v (scan1 N l v t e) ((N.ad v).drop (k + 1)) := by
      rw [List.drop_eq_getElem_cons hkl, he]; rfl
    rw [hsc]
    have hbd := hb.bnd v hvm
    have hln := hb.len
    obtain ⟨u, hu1, hu2⟩ := hb.ran _ hvm
    have hvn : v < N.n := by omega
    have hab := hN.adb v
    have wk : IntKind.i64.wrap ((k : Int) + 1) = ((k + 1 : Nat) : Int) := by rw [wr (by omega) (by omega)]; omega
    have f1 : decide ((k : Int) < ((N.ad v).length : Int)) = true := dl hkl
    have f2 : lat (N.ad v) (k : Int) = some (e : Int) := by rw [lat_nat hkl, he]
    have f5 := dl (i := e) (n := l.length) (by rw [hl.len]; exact e1)
    have f8 := dl (i := N.hd e) (n := d.length) (by rw [hq.len]; exact hh)
    have f9 := dl (i := i) (n := t.L.length) hil
    have f10 := dl (i := v) (n := d.length) (by rw [hq.len]; exact hvn)
    have g1 : t.L.getD i 0 = (v : Int) := by rw [List.getD_eq_getElem?_getD, hv]; rfl
    have g2 : d.getD v 0 = t.lv.getD v 0 := by rw [hq.get v hvn, if_pos ((hb.mem v hvn).2 hvm)]
    have g3 := hq.get _ hh
    have g4 := hb.all _ hh
    have w2 : IntKind.i64.wrap (t.lv.getD v 0 + 1) = t.lv.getD v 0 + 1 := wr (by omega) (by omega)
    have step : spec_mfState_levels_l2 (i : Int) (N.ad v) ((N.ad v).length : Int) N.to l (k : Int) d t.L =
        if 0 < l.getD e 0 ∧ t.sn.getD (N.hd e) false = false then
          spec_mfState_levels_l2 (i : Int) (N.ad v) ((N.ad v).length : Int) N.to l ((k + 1 : Nat) : Int) (d.set (N.hd e) (t.lv.getD v 0 + 1)) (t.L ++ [(N.hd e : Int)])
        else spec_mfState_levels_l2 (i : Int) (N.ad v) ((N.ad v).length : Int) N.to l ((k + 1 : Nat) : Int) d t.L := by
      rw [spec_mfState_levels_l2_eq]
      unfold spec_mfState_levels_l2K
      simp only [f1, cond_true, f2, Option.bind_some, dz, f5, Bool.and_self, tz, Nat.zero_add, lat_to hN e1, f8, f9, g1, f10, g2, w2, wk]
      by_cases c1 : 0 < l.getD e 0
      · have q1 : decide (l.getD e 0 > 0) = true := decide_eq_true c1
        simp only [q1, cond_true]
        cases hs : t.sn.getD (N.hd e) false with
        | true =>
          rw [if_neg (by simp)]
          rw [hs, if_pos rfl] at g3
          have : decide (d.getD (N.hd e) 0 < 0) = false := decide_eq_false (by omega)
          simp only [this, cond_false]
        | false =>
          rw [if_pos ⟨c1, rfl⟩]
          rw [hs, if_neg (by simp)] at g3
          have : decide (d.getD (N.hd e) 0 < 0) = true := decide_eq_true (by omega)
          have hcap : decide (t.L.length + [(N.hd e : Int)].length ≤ 1099511627776) = true := by
            have := b1.len
            rw [show scan1 N l v t e = ⟨t.sn.set (N.hd e) true, t.lv.set (N.hd e) (t.lv.getD v 0 + 1), t.L ++ [(N.hd e : Int)]⟩ by unfold scan1; rw [if_pos ⟨by simpa using c1, by simpa using hs⟩]; simp] at this
            simp only [List.length_append, List.length_singleton] at this
            simp only [List.length_singleton]
            exact decide_eq_true (by omega)
          simp only [this, cond_true, hcap]
      · have q1 : decide (l.getD e 0 > 0) = false := decide_eq_false c1
        rw [if_neg fun g => c1 g.1]
        simp only [q1, cond_false]
    rw [step]
    by_cases c : 0 < l.getD e 0 ∧ t.sn.getD (N.hd e) false = false
    · rw [if_pos c]
      have hs1 : scan1 N l v t e = ⟨t.sn.set (N.hd e) true, t.lv.set (N.hd e) (t.lv.getD v 0 + 1), t.L ++ [(N.hd e : Int)]⟩ := by
        unfold scan1; rw [if_pos (by simpa using c)]; simp
      rw [hs1] at b1 ⊢
      refine ih (k + 1) _ _ (by omega) b1 (by show (t.L ++ [(N.hd e : Int)])[i]? = _; rw [List.getElem?_append_left hil]; exact hv) ⟨by simpa using hq.len, fun w hw => ?_⟩
      show (d.set (N.hd e) _).getD w 0 = if (t.sn.set (N.hd e) true).getD w false = true then (t.lv.set (N.hd e) _).getD w 0 else -1
      by_cases c2 : N.hd e = w
      · subst c2
        rw [gs_eq (by rw [hq.len]; exact hh), gs_eq (by rw [hb.snl]; exact hh), gs_eq (by rw [hb.lvl]; exact hh), if_pos rfl]
      · rw [gs_ne c2, gs_ne c2, gs_ne c2]; exact hq.get w hw
    · rw [if_neg c]
      have hs1 : scan1 N l v t e = t := by
        unfold scan1; rw [if_neg (by simpa using c)]
      rw [hs1] at b1 ⊢
      exact ih (k + 1) _ _ (by omega) b1 hv hq
theorem lev_l1 (hN : N.Ok) (hl : WL N l) {i : Nat} (h : Bs N l i t t') : ∀ (d : List Int), BI N l t → DC N d t → ∃ d', spec_mfState_levels_l1 N.to N.adj l (i : Int) d t.L = some d' ∧ DC N d' t' := by
  have hnb := hN.nb
  induction h with
  | @stop i t hi =>
    intro d hb hq
    refine ⟨d, ?_, hq⟩
    rw [spec_mfState_levels_l1_eq]
    unfold spec_mfState_levels_l1K
    have : decide ((i : Int) < (t.L.length : Int)) = false := by simp; omega
    rw [this]; rfl
  | @step i v t t' hv _ ih =>
    intro d hb hq
    have hi : i < t.L.length := (List.getElem?_eq_some_iff.1 hv).1
    have hm : (v : Int) ∈ t.L := List.mem_of_getElem? hv
    obtain ⟨u, hu1, hu2⟩ := hb.ran _ hm
    have hvn : v < N.n := by omega
    have hln := hb.len
    obtain ⟨b1, b2, b3, r, b4⟩ := scan_ok hN (N.ad v) t hb hm fun _ h => h
    obtain ⟨d1, g1, g2⟩ := lev_l2 hN hl (v := v) (i := i) (N.ad v).length 0 t d (by omega) hb hv hq
    obtain ⟨d2, k1, k2⟩ := ih d1 b1 g2
    refine ⟨d2, ?_, k2⟩
    rw [spec_mfState_levels_l1_eq]
    unfold spec_mfState_levels_l1K
    have g0 : t.L.getD i 0 = (v : Int) := by rw [List.getD_eq_getElem?_getD, hv]; rfl
    have wk : IntKind.i64.wrap ((i : Int) + 1) = ((i + 1 : Nat) : Int) := by rw [wr (by omega) (by omega)]; omega
    have g1 : spec_mfState_levels_l2 (i : Int) (N.ad v) ((N.ad v).length : Int) N.to l 0 d t.L = _ := g1
    simp only [dl hi, dz, cond_true, Bool.and_self, tz, Nat.zero_add, g0, lat_adj hN hvn, Option.bind_some, g1, wk, List.drop_zero]
    exact k1
theorem lev_l0 {n : Nat} (hn : n ≤ 1099511627776) : spec_mfState_levels_l0 (n : Int) 0 (List.replicate n 0) = some (List.replicate n (-1)) := by
  refine (fill_loop (f := fun i r => spec_mfState_levels_l0 (n : Int) i r) (l := List.replicate n (-1)) (by simpa using hn) ?_ (fun i r hi hr => ?_) (List.replicate n 0) (by simp))
  · show spec_mfState_levels_l0 (n : Int) ((List.replicate n (-1 : Int)).length : Int) (List.replicate n (-1)) = _
    rw [List.length_replicate, spec_mfState_levels_l0_eq]
    unfold spec_mfState_levels_l0K
    simp
  · have hi' : i < n := by simpa using hi
    have hr' : r.length = n := by simpa using hr
    show spec_mfState_levels_l0 (n : Int) (i : Int) r = spec_mfState_levels_l0 (n : Int) ((i + 1 : Nat) : Int) _
    rw [spec_mfState_levels_l0_eq]
    unfold spec_mfState_levels_l0K
    have wk : IntKind.i64.wrap ((i : Int) + 1) = ((i + 1 : Nat) : Int) := by rw [wr (by omega) (by omega)]; omega
    have f8 := dl (i := i) (n := r.length) (by omega)
    simp only [dl hi', cond_true, dz, f8, Bool.and_self, Option.bind_some, tz, Nat.zero_add, wk, List.getElem_replicate]
theorem lev_ok (hN : N.Ok) (hl : WL N l) : ∃ t d, Rd N l t ∧ DC N d t ∧ spec_mfState_levels ((N.n : Int), (N.to, (l, N.adj))) = some (d, ((N.n : Int), (N.to, (l, N.adj)))) := by
  obtain ⟨t, h1, h2⟩ := bfs_total (l := l) hN
  have hn := hN.n2
  have hnb := hN.nb
  have g : ∀ u, u < N.n → (List.replicate N.n (-1 : Int)).getD u 0 = -1 := fun u hu => by
    rw [List.getD_eq_getElem?_getD, List.getElem?_replicate, if_pos hu]; rfl
  have hd0 : DC N ((List.replicate N.n (-1)).set 0 0) (start N.n) := by
    refine ⟨by simp, fun u hu => ?_⟩
    by_cases c : 0 = u
    · subst c
      have h0 : 0 < (List.replicate N.n false).length := by simp; omega
      show _ = if ((List.replicate N.n false).set 0 true).getD 0 false = true then (List.replicate N.n (0 : Int)).getD 0 0 else -1
      rw [gs_eq (by simp; omega), gs_eq h0, if_pos rfl, List.getD_eq_getElem?_getD, List.getElem?_replicate]
      split <;> rfl
    · show _ = if ((List.replicate N.n false).set 0 true).getD u false = true then _ else -1
      rw [gs_ne c, gs_ne c, g u hu, List.getD_eq_getElem?_getD, List.getElem?_replicate, if_pos hu, if_neg (by simp)]
  obtain ⟨d, k1, k2⟩ := lev_l1 hN hl h1 _ (start_bi hN) hd0
  refine ⟨t, d, h2, k2, ?_⟩
  unfold spec_mfState_levels spec_mfState_levelsK
  have c1 : decide ((N.n : Int) ≤ 1099511627776) = true := decide_eq_true (by omega)
  have c2 : decide ((N.n : Int) ≤ (N.n : Int)) = true := decide_eq_true (by omega)
  have c3 : decide ((0 : Int) < (N.n : Int)) = true := decide_eq_true (by omega)
  simp only [dz, c1, c2, Bool.and_self, cond_true, Option.bind_some, tz, List.length_replicate, lev_l0 hnb, c3, Nat.zero_add]
  have k1 : spec_mfState_levels_l1 N.to N.adj l 0 ((List.replicate N.n (-1)).set 0 0) [0] = _ := k1
  rw [k1]
  rfl
theorem DC.wv (hN : N.Ok) (h : Rd N l t) {d : List Int} (hd : DC N d t) : WV0 N d := by
  have h1 := h.bi.len
  have h2 := hN.nb
  refine ⟨hd.len, fun u hu => ?_, fun u hu => ?_⟩
  · rw [hd.get u hu]
    have := h.bi.all u hu
    split <;> omega
  · rw [hd.get u hu]
    have := h.bi.all u hu
    split <;> omega
theorem phase_s (hN : N.Ok) {lv : List Int} (hw : WV0 N lv) : ∀ (k : Nat) (a0 : Int) (l x : List Int), (tot E - val N l).toNat ≤ k → FL N E l → WX N x →
    ∃ a0' l', spec_mfState_run_l1 lv a0 (N.n : Int) N.to N.adj l x = some (a0', ((N.n : Int), (N.to, (N.adj, l')))) ∧ FL N E l' ∧ val N l ≤ val N l' ∧
      (DInv N (fun u => lv.getD u 0) l x → (∀ x', DInv N (fun u => lv.getD u 0) l x' → ¬ Dead N x' 0) → val N l < val N l') := by
  have hn := hN.n2
  intro k
  induction k with
  | zero =>
    intro a0 l x hk h hx
    obtain ⟨s, l1, x1, hd⟩ := dn_total hN (D := 1099511627776) (fun u hu => hw.hi u hu) _ 0 (by omega) (Nat.le_refl _) 1125899906842624 l x (by omega) h.wl hx
    obtain ⟨g1, g2, g3, g4⟩ := h.push hN hx (by omega) hd
    have := g1.val_le hN
    have hs : s = 0 := by omega
    have hp : spec_mfState_push ((N.n : Int), (N.to, (l, N.adj))) 0 1125899906842624 lv x = _ := push_s hN hw hd (by omega) h.wl hx (by omega) (by omega)
    refine ⟨a0, l1, ?_, g1, by omega, fun q1 q2 => ?_⟩
    · rw [spec_mfState_run_l1_eq]
      unfold spec_mfState_run_l1K
      rw [hp]
      subst hs
      simp
    · obtain ⟨_, d2, d3⟩ := hd.dead hN (by omega) h.wl hx (by omega) hs q1 (fun c => by cases c)
      exact absurd d3 (q2 _ d2)
  | succ k ih =>
    intro a0 l x hk h hx
    obtain ⟨s, l1, x1, hd⟩ := dn_total hN (D := 1099511627776) (fun u hu => hw.hi u hu) _ 0 (by omega) (Nat.le_refl _) 1125899906842624 l x (by omega) h.wl hx
    obtain ⟨g1, g2, g3, g4⟩ := h.push hN hx (by omega) hd
    have hp : spec_mfState_push ((N.n : Int), (N.to, (l, N.adj))) 0 1125899906842624 lv x = _ := push_s hN hw hd (by omega) h.wl hx (by omega) (by omega)
    by_cases hs : s = 0
    · refine ⟨a0, l1, ?_, g1, by omega, fun q1 q2 => ?_⟩
      · rw [spec_mfState_run_l1_eq]
        unfold spec_mfState_run_l1K
        rw [hp]
        subst hs
        simp
      · obtain ⟨_, d2, d3⟩ := hd.dead hN (by omega) h.wl hx (by omega) hs q1 (fun c => by cases c)
        exact absurd d3 (q2 _ d2)
    · obtain ⟨a0', l', r1, r2, r3, _⟩ := ih (IntKind.i64.wrap (a0 + s)) l1 x1 (by omega) g1 g2
      refine ⟨a0', l', ?_, r2, by omega, fun _ _ => by omega⟩
      rw [spec_mfState_run_l1_eq]
      unfold spec_mfState_run_l1K
      rw [hp]
      have : (s == 0) = false := by simpa using hs
      simp only [Option.bind_some, this, cond_false]
      exact r1
theorem run_s (hN : N.Ok) : ∀ (k : Nat) (a0 : Int) (l : List Int), (tot E - val N l).toNat ≤ k → FL N E l →
    ∃ a0' l', spec_mfState_run_l0 a0 (N.n : Int) N.to N.adj l = some (a0', ((N.n : Int), (N.to, (N.adj, l')))) ∧ FL N E l' ∧
      ∃ t d, Rd N l' t ∧ t.sn.getD (N.n - 1) false = false ∧ DC N d t ∧ spec_mfState_levels ((N.n : Int), (N.to, (l', N.adj))) = some (d, ((N.n : Int), (N.to, (l', N.adj)))) := by
  have hn := hN.n2
  have hnb := hN.nb
  have c1 : decide ((N.n : Int) ≤ 1099511627776) = true := decide_eq_true (by omega)
  have c2 : decide ((N.n : Int) ≤ (N.n : Int)) = true := decide_eq_true (by omega)
  have e1 : IntKind.i64.wrap ((N.n : Int) - 1) = ((N.n - 1 : Nat) : Int) := by rw [wr (by omega) (by omega)]; omega
  intro k
  induction k using Nat.strongRecOn with
  | _ k ih =>
    intro a0 l hk h
    obtain ⟨t, d, ht, hdc, hsrc⟩ := lev_ok hN h.wl
    have f8 := dl (i := N.n - 1) (n := d.length) (by rw [hdc.len]; omega)
    have g := hdc.get (N.n - 1) (by omega)
    have g4 := ht.bi.all (N.n - 1) (by omega)
    cases hs : t.sn.getD (N.n - 1) false with
    | false =>
      refine ⟨a0, l, ?_, h, t, d, ht, hs, hdc, hsrc⟩
      rw [hs, if_neg (by simp)] at g
      have q : decide (d.getD (N.n - 1) 0 < 0) = true := decide_eq_true (by omega)
      rw [spec_mfState_run_l0_eq]
      unfold spec_mfState_run_l0K
      simp only [hsrc, Option.bind_some, Bool.and_self, cond_true, e1, dz, f8, tz, Nat.zero_add, q]
    | true =>
      rw [hs, if_pos rfl] at g
      have q : decide (d.getD (N.n - 1) 0 < 0) = false := decide_eq_false (by omega)
      obtain ⟨b0, l1, p1, p2, p3, p4⟩ := phase_s hN (hdc.wv hN ht) (tot E - val N l).toNat a0 l (List.replicate N.n 0) (Nat.le_refl _) h (zero_wx hN)
      have p5 := p4 zero_dinv fun x' hx' => ht.first hN h.wl (fun u hu => by
        obtain ⟨w, hw1, hw2⟩ := ht.bi.ran _ hu
        have hun : u < N.n := by omega
        show d.getD u 0 = _
        rw [hdc.get u hun, if_pos ((ht.bi.mem u hun).2 hu)]) hs hx'
      have hv := p2.val_le hN
      obtain ⟨a0', l', r1, r2, r3⟩ := ih (tot E - val N l1).toNat (by omega) b0 l1 (Nat.le_refl _) p2
      refine ⟨a0', l', ?_, r2, r3⟩
      rw [spec_mfState_run_l0_eq]
      unfold spec_mfState_run_l0K
      simp only [hsrc, Option.bind_some, Bool.and_self, cond_true, cond_false, e1, dz, f8, tz, Nat.zero_add, q, c1, c2, p1]
      exact r1
end
end Go.OAI
