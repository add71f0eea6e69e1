/- Both sides find the least cut. -/
import Derived.Test.YtejiaikhdjanoaaGreatP3
import Derived.Test.YtejiaikhdjanoaaGreatGX
import Derived.Test.YtejiaikhdjanoaaGreatGP
import Derived.Test.YtejiaikhdjanoaaGreatGO
namespace Go.OAI
set_option linter.unusedVariables false
noncomputable section
structure WV0 (N : Net) (lv : List Int) : Prop where
  len : lv.length = N.n
  lo : ∀ u, u < N.n → -1 ≤ lv.getD u 0
  hi : ∀ u, u < N.n → lv.getD u 0 ≤ 1099511627776
variable {N : Net} {lv : List Int} {b : Bool} {v e : Nat} {most s : Int} {l x l' x' : List Int}
theorem lat_adj (hN : N.Ok) (hv : v < N.n) : lat N.adj (v : Int) = some (N.ad v) := by
  have : v < N.adj.length := by rw [hN.adl]; exact hv
  rw [lat_nat this]
  simp [Net.ad, List.getD_eq_getElem?_getD, List.getElem?_eq_getElem this]
theorem lat_to (hN : N.Ok) (he : e < 2 * N.m) : lat N.to (e : Int) = some (N.hd e : Int) := by
  have : e < N.to.length := by rw [hN.tol]; exact he
  rw [lat_nat this, ← hN.hd_int he]
  simp [List.getD_eq_getElem?_getD, List.getElem?_eq_getElem this]
theorem lat_lv (h : WV0 N lv) (hv : v < N.n) : lat lv (v : Int) = some (lv.getD v 0) := by
  have : v < lv.length := by rw [h.len]; exact hv
  rw [lat_nat this]
  simp [List.getD_eq_getElem?_getD, List.getElem?_eq_getElem this]
theorem lat_ed (he : N.ed v (x.getD v 0) e) : lat (N.ad v) (x.getD v 0) = some (e : Int) := by
  obtain ⟨h0, h1⟩ := he
  unfold lat
  have : decide (0 ≤ x.getD v 0) = true := decide_eq_true h0
  rw [this]; exact h1
theorem dz (n : Nat) : decide ((0 : Int) ≤ (n : Int)) = true := by simp
theorem dl {i n : Nat} (h : i < n) : decide ((i : Int) < (n : Int)) = true := by
  have : (i : Int) < (n : Int) := by omega
  simp [this]
theorem tz (n : Nat) : ((n : Int)).toNat = n := Int.toNat_natCast n
def ps2 {A B : Type} (s : Int) (a : A) (b : B) : Option (A ⊕ B) := some (if 0 < s then .inl a else .inr b)
abbrev ipush := fun x : ((List (List Int)) × (List Int) × (List Int) × (List Int) × (List Int)) × Int × Int => impl_residual_push x.1 x.2.1 x.2.2
theorem push_i (hN : N.Ok) (hw : WV0 N lv) (h : Dn N (fun u => lv.getD u 0) b v most l x s l' x') : v < N.n → WL N l → WX N x → 0 ≤ most → most ≤ 2305843009213693952 →
    match b with
    | false => impl_residual_push (N.adj, (N.to, (l, (lv, x)))) (v : Int) most = some (s, (N.adj, (N.to, (l', (lv, x')))))
    | true => impl_residual_push_l0 ipush (v : Int) most N.adj N.to l lv x = ps2 s (s, (N.adj, (N.to, (l', (lv, x'))))) (N.adj, (N.to, (l', (lv, x')))) := by
  have hn := hN.n2
  have hnb := hN.nb
  induction h with
  | sink =>
    intro hv hl hx h0 h1
    rw [impl_residual_push_eq]
    unfold impl_residual_pushK
    have : IntKind.i64.wrap ((N.adj.length : Int) - 1) = ((N.n - 1 : Nat) : Int) := by rw [hN.adl, wr (by omega) (by omega)]; omega
    simp only [this, beq_self_eq_true, cond_true]
  | @loop v most s l x l' x' hne hd ih =>
    intro hv hl hx h0 h1
    have ih := ih hv hl hx h0 h1
    have hs := (hd.wf hN hv hl hx h0).2.2.1
    rw [impl_residual_push_eq]
    unfold impl_residual_pushK
    have e1 : IntKind.i64.wrap ((N.adj.length : Int) - 1) = ((N.n - 1 : Nat) : Int) := by rw [hN.adl, wr (by omega) (by omega)]; omega
    have e2 : ((v : Int) == ((N.n - 1 : Nat) : Int)) = false := by simp; omega
    simp only [e1, e2, cond_false]
    have ih : impl_residual_push_l0 (fun x => impl_residual_push x.1 x.2.1 x.2.2) (v : Int) most N.adj N.to l lv x = _ := ih
    rw [ih]
    unfold ps2
    by_cases c : 0 < s
    · simp only [c, if_true, Option.bind_some, sumO]
    · have : s = 0 := by omega
      subst this
      simp [sumO]
  | @done v most l x hd =>
    intro hv hl hx h0 h1
    show _ = _
    rw [impl_residual_push_l0_eq]
    unfold impl_residual_push_l0K
    have f2 := dl (n := x.length) (by rw [hx.len]; exact hv)
    have f3 : decide (x.getD v 0 < ((N.ad v).length : Int)) = false := by simp; simpa using hd
    simp only [dz, f2, Bool.and_self, cond_true, lat_adj hN hv, Option.bind_some, tz, Nat.zero_add, f3, cond_false, ps2]
    simp
  | @skip v e most s l x l' x' he hu hd ih =>
    intro hv hl hx h0 h1
    have ih := ih hv hl (hx.bump he) h0 h1
    show _ = _
    obtain ⟨e1, e2⟩ := hN.edge he
    have hlt := he.lt
    have hx0 := hx.ge v hv
    have hab := hN.adb v
    have f2 := dl (n := x.length) (by rw [hx.len]; exact hv)
    have f3 : decide (x.getD v 0 < ((N.ad v).length : Int)) = true := by simpa using hlt
    have f5 := dl (i := e) (n := l.length) (by rw [hl.len]; exact e1)
    have hh := hN.hd_lt e1
    have f8 := dl (i := N.hd e) (n := lv.length) (by rw [hw.len]; exact hh)
    have f9 := dl (i := v) (n := lv.length) (by rw [hw.len]; exact hv)
    have hb1 := hw.lo v hv
    have hb2 := hw.hi v hv
    have w1 : IntKind.i64.wrap (x.getD v 0 + 1) = x.getD v 0 + 1 := wr (by omega) (by omega)
    have w2 : IntKind.i64.wrap (lv.getD v 0 + 1) = lv.getD v 0 + 1 := wr (by omega) (by omega)
    rw [impl_residual_push_l0_eq]
    unfold impl_residual_push_l0K
    simp only [dz, f2, Bool.and_self, cond_true, lat_adj hN hv, Option.bind_some, tz, Nat.zero_add, f3, lat_ed he, f5, lat_to hN e1, f8, f9, w1, w2]
    by_cases c : l.getD e 0 = 0
    · have : (l.getD e 0 == 0) = true := by simpa using c
      simp only [this, cond_true]
      exact ih
    · have q1 : (l.getD e 0 == 0) = false := by simpa using c
      have q2 : (lv.getD (N.hd e) 0 != lv.getD v 0 + 1) = true := by
        rcases hu with g | g
        · exact absurd g c
        · simpa using g
      simp only [q1, cond_false, q2, cond_true]
      exact ih
  | @sent v e most s l x l1 x1 he hne hlv hd hs ih =>
    intro hv hl hx h0 h1
    obtain ⟨e1, e2⟩ := hN.edge he
    have hle := hl.ge e e1
    have hle2 := hl.le e e1
    have hlm := hl.ge _ (mate_lt e1)
    have hh := hN.hd_lt e1
    have ih := ih hh hl hx (by omega) (by omega)
    obtain ⟨g1, g2, g3, g4⟩ := hd.wf hN hh hl hx (by omega)
    have hk := hd.keepl hN e (by rw [e2]; omega) (by rw [e2]; omega)
    show _ = _
    have hlt := he.lt
    have hx0 := hx.ge v hv
    have hab := hN.adb v
    have f2 := dl (n := x.length) (by rw [hx.len]; exact hv)
    have f3 : decide (x.getD v 0 < ((N.ad v).length : Int)) = true := by simpa using hlt
    have f5 := dl (i := e) (n := l.length) (by rw [hl.len]; exact e1)
    have f8 := dl (i := N.hd e) (n := lv.length) (by rw [hw.len]; exact hh)
    have f9 := dl (i := v) (n := lv.length) (by rw [hw.len]; exact hv)
    have hb1 := hw.lo v hv
    have hb2 := hw.hi v hv
    have w2 : IntKind.i64.wrap (lv.getD v 0 + 1) = lv.getD v 0 + 1 := wr (by omega) (by omega)
    have q1 : (l.getD e 0 == 0) = false := by simpa using hne
    have q2 : (lv.getD (N.hd e) 0 != lv.getD v 0 + 1) = false := by simpa using hlv
    have q3 : (if l.getD e 0 < most then l.getD e 0 else most) = min most (l.getD e 0) := by split <;> omega
    have q4 : decide (s > 0) = true := by simpa using hs
    have f10 := dl (i := e) (n := l1.length) (by rw [g1.len]; exact e1)
    have hme := mate_lt e1
    have k1 := g1.ge e e1
    have k2 := g1.le e e1
    have k3 := g1.ge _ hme
    have w3 : IntKind.i64.wrap (l1.getD e 0 - s) = l1.getD e 0 - s := wr (by omega) (by omega)
    have f11 := dl (i := mate e) (n := (l1.set e (l1.getD e 0 - s)).length) (by rw [List.length_set, g1.len]; exact hme)
    have w4 : (l1.set e (l1.getD e 0 - s)).getD (mate e) 0 = l1.getD (mate e) 0 := gs_ne (Ne.symm (mate_ne e))
    have w5 : IntKind.i64.wrap (l1.getD (mate e) 0 + s) = l1.getD (mate e) 0 + s := wr (by omega) (by omega)
    have hx1 : xorI .i64 (e : Int) 1 = (mate e : Int) := xorI_one (by have := hN.mb; omega)
    have ih : impl_residual_push (N.adj, (N.to, (l, (lv, x)))) (N.hd e : Int) (min most (l.getD e 0)) = _ := ih
    rw [impl_residual_push_l0_eq]
    unfold impl_residual_push_l0K
    simp only [dz, f2, Bool.and_self, cond_true, lat_adj hN hv, Option.bind_some, tz, Nat.zero_add, f3, lat_ed he, f5, lat_to hN e1, f8, f9, w2, q1, q2, cond_false, q3, ih, q4, f10, w3, hx1, f11, w4, w5]
    simp only [ps2, hs, if_true]
    rfl
  | @zero v e most s l x l1 x1 l' x' he hne hlv hd hd2 ih ih2 =>
    intro hv hl hx h0 h1
    obtain ⟨e1, e2⟩ := hN.edge he
    have hle := hl.ge e e1
    have hle2 := hl.le e e1
    have hlm := hl.ge _ (mate_lt e1)
    have hh := hN.hd_lt e1
    have ih := ih hh hl hx (by omega) (by omega)
    obtain ⟨g1, g2, g3, g4⟩ := hd.wf hN hh hl hx (by omega)
    have hk' := hd.keepx v (by omega)
    have he' : N.ed v (x1.getD v 0) e := by rw [hk']; exact he
    have ih2 := ih2 hv g1 (g2.bump he') h0 h1
    show _ = _
    have hlt := he.lt
    have hx0 := hx.ge v hv
    have hab := hN.adb v
    have f2 := dl (n := x.length) (by rw [hx.len]; exact hv)
    have f2' := dl (n := x1.length) (by rw [g2.len]; exact hv)
    have f3 : decide (x.getD v 0 < ((N.ad v).length : Int)) = true := by simpa using hlt
    have f5 := dl (i := e) (n := l.length) (by rw [hl.len]; exact e1)
    have f8 := dl (i := N.hd e) (n := lv.length) (by rw [hw.len]; exact hh)
    have f9 := dl (i := v) (n := lv.length) (by rw [hw.len]; exact hv)
    have hb1 := hw.lo v hv
    have hb2 := hw.hi v hv
    have w2 : IntKind.i64.wrap (lv.getD v 0 + 1) = lv.getD v 0 + 1 := wr (by omega) (by omega)
    have q1 : (l.getD e 0 == 0) = false := by simpa using hne
    have q2 : (lv.getD (N.hd e) 0 != lv.getD v 0 + 1) = false := by simpa using hlv
    have q3 : (if l.getD e 0 < most then l.getD e 0 else most) = min most (l.getD e 0) := by split <;> omega
    have q4 : decide ((0 : Int) > 0) = false := by simp
    have w1 : IntKind.i64.wrap (x1.getD v 0 + 1) = x1.getD v 0 + 1 := wr (by omega) (by omega)
    have ih : impl_residual_push (N.adj, (N.to, (l, (lv, x)))) (N.hd e : Int) (min most (l.getD e 0)) = _ := ih
    rw [impl_residual_push_l0_eq]
    unfold impl_residual_push_l0K
    simp only [dz, f2, f2', Bool.and_self, cond_true, lat_adj hN hv, Option.bind_some, tz, Nat.zero_add, f3, lat_ed he, f5, lat_to hN e1, f8, f9, w2, q1, q2, cond_false, q3, ih, q4, w1]
    exact ih2
end
noncomputable section
variable {N : Net} {v : Nat} {l : List Int} {t t' : Bf}
def QW (q : List Int) (a0 a1 i : Nat) (t : Bf) : Prop := (q.drop a0).take a1 = t.L.drop i ∧ i ≤ t.L.length
theorem src_l1 (hN : N.Ok) (hl : WL N l) {i : Nat} : ∀ (j k : Nat) (t : Bf) (a0 a1 : Nat) (q : List Int), k + j = (N.ad v).length → BI N l t → (v : Int) ∈ t.L → QW q a0 a1 i t →
    ∃ a0' a1' q', impl_residual_fromSource_l1 (v : Int) (N.ad v) ((N.ad v).length : Int) N.to l a0 a1 (k : Int) t.lv t.sn q = some (a0', (a1', ((scan N l v t ((N.ad v).drop k)).lv, ((scan N l v t ((N.ad v).drop k)).sn, q')))) ∧ QW q' a0' a1' i (scan N l v t ((N.ad v).drop k)) := by
  intro j
  have hnb := hN.nb
  induction j with
  | zero =>
    intro k t a0 a1 q hk hb hv hq
    have hd : (N.ad v).drop k = [] := List.drop_eq_nil_of_le (by omega)
    refine ⟨a0, a1, q, ?_, ?_⟩
    · rw [impl_residual_fromSource_l1_eq]
      unfold impl_residual_fromSource_l1K
      have : decide ((k : Int) < ((N.ad v).length : Int)) = false := by simp; omega
      rw [this, hd]
      rfl
    · rw [hd]; exact hq
  | succ j ih =>
    intro k t a0 a1 q hk hb hv hq
    have hkl : k < (N.ad v).length := by omega
    obtain ⟨e, he, e1, e2⟩ := hN.adm v _ (List.getElem_mem hkl)
    have hm : (e : Int) ∈ N.ad v := by rw [← he]; exact List.getElem_mem hkl
    have hh := hN.hd_lt e1
    obtain ⟨b1, b2, b3, r, b4⟩ := scan1_ok hN hb hv hm
    have hsc : scan N l v t ((N.ad v).drop k) = scan N l v (scan1 N l v t e) ((N.ad v).drop (k + 1)) := by
      rw [List.drop_eq_getElem_cons hkl, he]; rfl
    rw [hsc]
    have hbd := hb.bnd v hv
    have hln := hb.len
    obtain ⟨u, hu1, hu2⟩ := hb.ran _ hv
    have hvn : v < N.n := by omega
    have hab := hN.adb v
    have wk : IntKind.i64.wrap ((k : Int) + 1) = ((k + 1 : Nat) : Int) := by rw [wr (by omega) (by omega)]; omega
    have f1 : decide ((k : Int) < ((N.ad v).length : Int)) = true := dl hkl
    have f2 : lat (N.ad v) (k : Int) = some (e : Int) := by rw [lat_nat hkl, he]
    have f5 := dl (i := e) (n := l.length) (by rw [hl.len]; exact e1)
    have f8 := dl (i := N.hd e) (n := t.sn.length) (by rw [hb.snl]; exact hh)
    have f9 := dl (i := N.hd e) (n := t.lv.length) (by rw [hb.lvl]; exact hh)
    have f10 := dl (i := v) (n := t.lv.length) (by rw [hb.lvl]; exact hvn)
    have w2 : IntKind.i64.wrap (t.lv.getD v 0 + 1) = t.lv.getD v 0 + 1 := wr (by omega) (by omega)
    obtain ⟨hq1, hq2⟩ := hq
    have step : impl_residual_fromSource_l1 (v : Int) (N.ad v) ((N.ad v).length : Int) N.to l a0 a1 (k : Int) t.lv t.sn q =
        if 0 < l.getD e 0 ∧ t.sn.getD (N.hd e) false = false then
          impl_residual_fromSource_l1 (v : Int) (N.ad v) ((N.ad v).length : Int) N.to l 0 ((t.L ++ [(N.hd e : Int)]).drop i).length ((k + 1 : Nat) : Int) (t.lv.set (N.hd e) (t.lv.getD v 0 + 1)) (t.sn.set (N.hd e) true) ((t.L ++ [(N.hd e : Int)]).drop i)
        else impl_residual_fromSource_l1 (v : Int) (N.ad v) ((N.ad v).length : Int) N.to l a0 a1 ((k + 1 : Nat) : Int) t.lv t.sn q := by
      rw [impl_residual_fromSource_l1_eq]
      unfold impl_residual_fromSource_l1K
      simp only [f1, cond_true, f2, Option.bind_some, dz, f5, Bool.and_self, tz, Nat.zero_add, lat_to hN e1, f8, f9, f10, w2, wk]
      by_cases c1 : 0 < l.getD e 0
      · have q1 : decide (l.getD e 0 > 0) = true := decide_eq_true c1
        simp only [q1, cond_true]
        cases hs : t.sn.getD (N.hd e) false with
        | true =>
          rw [if_neg (by simp)]
          simp only [Bool.not_true, cond_false]
        | false =>
          rw [if_pos ⟨c1, rfl⟩]
          have hap : (q.drop a0).take a1 ++ [(N.hd e : Int)] = (t.L ++ [(N.hd e : Int)]).drop i := by rw [hq1, List.drop_append_of_le_length hq2]
          have hcap : decide (((q.drop a0).take a1).length + [(N.hd e : Int)].length ≤ 1099511627776) = true := by
            rw [hq1]; simp only [List.length_drop, List.length_singleton]
            have := b1.len
            rw [show scan1 N l v t e = ⟨t.sn.set (N.hd e) true, t.lv.set (N.hd e) (t.lv.getD v 0 + 1), t.L ++ [(N.hd e : Int)]⟩ by unfold scan1; rw [if_pos ⟨by simpa using c1, by simpa using hs⟩]; simp] at this
            simp only [List.length_append, List.length_singleton] at this
            exact decide_eq_true (by omega)
          simp only [Bool.not_false, cond_true, hcap, hap]
      · have q1 : decide (l.getD e 0 > 0) = false := decide_eq_false c1
        rw [if_neg fun g => c1 g.1]
        simp only [q1, cond_false]
    rw [step]
    by_cases c : 0 < l.getD e 0 ∧ t.sn.getD (N.hd e) false = false
    · rw [if_pos c]
      have hs1 : scan1 N l v t e = ⟨t.sn.set (N.hd e) true, t.lv.set (N.hd e) (t.lv.getD v 0 + 1), t.L ++ [(N.hd e : Int)]⟩ := by
        unfold scan1; rw [if_pos (by simpa using c)]; simp
      rw [hs1] at b1 ⊢
      exact ih (k + 1) _ 0 _ _ (by omega) b1 (List.mem_append_left _ hv) ⟨by rw [List.drop_zero, List.take_length], by simp; omega⟩
    · rw [if_neg c]
      have hs1 : scan1 N l v t e = t := by
        unfold scan1; rw [if_neg (by simpa using c)]
      rw [hs1] at b1 ⊢
      exact ih (k + 1) _ a0 a1 q (by omega) b1 hv ⟨hq1, hq2⟩
theorem src_l0 (hN : N.Ok) (hl : WL N l) {i : Nat} (h : Bs N l i t t') : ∀ (a0 a1 : Nat) (q : List Int), BI N l t → QW q a0 a1 i t →
    impl_residual_fromSource_l0 N.adj N.to l a0 a1 t.lv t.sn q = some (t'.lv, t'.sn) := by
  have hnb := hN.nb
  induction h with
  | @stop i t hi =>
    intro a0 a1 q hb hq
    rw [impl_residual_fromSource_l0_eq]
    unfold impl_residual_fromSource_l0K
    rw [hq.1, List.drop_eq_nil_of_le hi]
    simp
  | @step i v t t' hv _ ih =>
    intro a0 a1 q hb hq
    have hi : i < t.L.length := (List.getElem?_eq_some_iff.1 hv).1
    have hm : (v : Int) ∈ t.L := List.mem_of_getElem? hv
    obtain ⟨u, hu1, hu2⟩ := hb.ran _ hm
    have hvn : v < N.n := by omega
    have hw : 0 < ((q.drop a0).take a1).length := by rw [hq.1, List.length_drop]; omega
    have hd : q.getD a0 0 = (v : Int) := by
      have g : ((q.drop a0).take a1)[0]? = some (v : Int) := by rw [hq.1, List.getElem?_drop]; simpa using hv
      have h1 : 0 < a1 := by
        rcases Nat.eq_zero_or_pos a1 with c | c
        · rw [c] at hw; simp at hw
        · exact c
      rw [List.getElem?_take_of_lt h1, List.getElem?_drop] at g
      rw [List.getD_eq_getElem?_getD, show a0 = a0 + 0 by omega, g]; rfl
    obtain ⟨b1, b2, b3, r, b4⟩ := scan_ok hN (N.ad v) t hb hm fun _ h => h
    have hq' : QW q (a0 + 1) (((q.drop a0).take a1).length - 1) (i + 1) t := by
      refine ⟨?_, hi⟩
      have e : (q.drop a0).take a1 = (q.drop a0).take ((q.drop a0).take a1).length := by
        rw [List.length_take]
        rcases Nat.le_total a1 (q.drop a0).length with c | c
        · rw [Nat.min_eq_left c]
        · rw [Nat.min_eq_right c, List.take_of_length_le c, List.take_of_length_le (Nat.le_refl _)]
      have e2 : t.L.drop (i + 1) = (t.L.drop i).drop 1 := by rw [List.drop_drop]
      rw [e2, ← hq.1]
      generalize hW : ((q.drop a0).take a1).length = W at *
      rw [e, List.drop_take, List.drop_drop]
    obtain ⟨a0', a1', q', g1, g2⟩ := src_l1 hN hl (v := v) (i := i + 1) (N.ad v).length 0 t _ _ _ (by omega) hb hm hq'
    rw [impl_residual_fromSource_l0_eq]
    unfold impl_residual_fromSource_l0K
    have c1 : decide ((((q.drop a0).take a1).length : Int) > 0) = true := decide_eq_true (by omega)
    have c2 : decide ((0 : Int) < (((q.drop a0).take a1).length : Int)) = true := decide_eq_true (by omega)
    have c3 : decide ((1 : Int) ≤ (((q.drop a0).take a1).length : Int)) = true := decide_eq_true (by omega)
    have c4 : decide ((((q.drop a0).take a1).length : Int) ≤ (((q.drop a0).take a1).length : Int)) = true := decide_eq_true (by omega)
    simp only [c1, c2, c3, c4, cond_true, Bool.and_self, Nat.add_zero, hd, lat_adj hN hvn, Option.bind_some, tz]
    have g1 : impl_residual_fromSource_l1 (v : Int) (N.ad v) ((N.ad v).length : Int) N.to l (a0 + 1) (((q.drop a0).take a1).length - 1) 0 t.lv t.sn q = _ := g1
    rw [g1]
    simp only [Option.bind_some, List.drop_zero] at g2 ⊢
    exact ih _ _ _ b1 g2
theorem src_ok (hN : N.Ok) (hl : WL N l) : ∃ t, Rd N l t ∧ ∀ lv0 x0 : List Int, impl_residual_fromSource (N.adj, (N.to, (l, (lv0, x0)))) = some (t.sn, (N.adj, (N.to, (l, (t.lv, x0))))) := by
  obtain ⟨t, h1, h2⟩ := bfs_total (l := l) hN
  have hn := hN.n2
  have hnb := hN.nb
  refine ⟨t, h2, fun lv0 x0 => ?_⟩
  unfold impl_residual_fromSource impl_residual_fromSourceK
  have c1 : decide ((N.adj.length : Int) ≤ 1099511627776) = true := decide_eq_true (by rw [hN.adl]; omega)
  have c2 : decide ((N.adj.length : Int) ≤ (N.adj.length : Int)) = true := decide_eq_true (by omega)
  have c3 : decide ((0 : Int) < ((List.replicate N.adj.length false).length : Int)) = true := decide_eq_true (by rw [List.length_replicate, hN.adl]; omega)
  simp only [dz, c1, c2, Bool.and_self, cond_true, Option.bind_some, tz, c3, Nat.zero_add]
  have := src_l0 hN hl h1 0 1 [0] (start_bi hN) ⟨by simp [start], by omega⟩
  simp only [start] at this
  rw [hN.adl]
  simp only [List.length_singleton]
  rw [this]
  rfl
def val (N : Net) (l : List Int) : Int := exc (arcsOf N.to l) ((N.n - 1 : Nat) : Int)
structure FL (N : Net) (E : List (Int × Int × Int)) (l : List Int) : Prop where
  wl : WL N l
  en : ends (arcsOf N.to l) = E
  ex : ∀ v : Int, 0 < v → v < (N.n : Int) - 1 → exc (arcsOf N.to l) v = 0
def tot : List (Int × Int × Int) → Int
  | [] => 0
  | e :: E => tot E + e.2.2
theorem exc_tot : ∀ (L : List Arc), (∀ e ∈ L, 0 ≤ e.f ∧ e.f ≤ e.c) → ∀ v, exc L v ≤ tot (ends L)
  | [], _, v => Int.le_refl _
  | e :: L, h, v => by
    have ih := exc_tot L (fun x hx => h x (List.mem_cons_of_mem _ hx)) v
    have he := h e List.mem_cons_self
    show exc L v + _ - _ ≤ tot (ends L) + e.c
    split <;> split <;> omega
variable {E : List (Int × Int × Int)}
theorem FL.val_le (hN : N.Ok) (h : FL N E l) : val N l ≤ tot E := by
  rw [← h.en]
  refine exc_tot _ (fun a ha => ?_) _
  obtain ⟨k, hk, h1, h2, h3, h4⟩ := arcs_ends hN h.wl a ha
  have b1 := h.wl.ge (2 * k) (by omega)
  have b2 := h.wl.ge (2 * k + 1) (by omega)
  rw [h3, h4]; omega
theorem FL.push (hN : N.Ok) {d : Nat → Int} {most s : Int} {x l' x' : List Int} (h : FL N E l) (hx : WX N x) (hm : 0 ≤ most) (hd : Dn N d false 0 most l x s l' x') : FL N E l' ∧ WX N x' ∧ 0 ≤ s ∧ val N l' = val N l + s := by
  have hn := hN.n2
  obtain ⟨w1, w2, w3, w4⟩ := hd.wf hN (by omega) h.wl hx hm
  obtain ⟨e1, e2⟩ := hd.exc hN (by omega) h.wl.len
  refine ⟨⟨w1, e1.trans h.en, fun v v0 v1 => ?_⟩, w2, w3, ?_⟩
  · rw [e2 v, h.ex v v0 v1, if_neg (by omega), if_neg (by omega)]; rfl
  · unfold val
    rw [e2, if_pos rfl, if_neg (by omega)]; omega
theorem zero_wx (hN : N.Ok) : WX N (List.replicate N.n 0) := by
  have g : ∀ u, (List.replicate N.n (0 : Int)).getD u 0 = 0 := fun u => by
    rw [List.getD_eq_getElem?_getD, List.getElem?_replicate]; split <;> rfl
  exact ⟨by simp, fun v _ => by rw [g]; exact Int.le_refl _, fun v _ => by rw [g]; omega⟩
theorem zero_dinv {d : Nat → Int} {n : Nat} : DInv N d l (List.replicate n 0) := by
  have g : ∀ u, (List.replicate n (0 : Int)).getD u 0 = 0 := fun u => by
    rw [List.getD_eq_getElem?_getD, List.getElem?_replicate]; split <;> rfl
  intro u _ k e hk _
  rw [g] at hk; omega
theorem Rd.wv (hN : N.Ok) (h : Rd N l t) : WV0 N t.lv := by
  have h1 := h.bi.len
  have h2 := hN.nb
  exact ⟨h.bi.lvl, fun u hu => by have := h.bi.all u hu; omega, fun u hu => by have := h.bi.all u hu; omega⟩
theorem phase_i (hN : N.Ok) {lv : List Int} (hw : WV0 N lv) : ∀ (k : Nat) (a0 : Int) (l x : List Int), (tot E - val N l).toNat ≤ k → FL N E l → WX N x →
    ∃ a0' l' x', impl_residual_run_l1 a0 N.adj N.to l lv x = some (a0', (N.adj, (N.to, (l', (lv, x'))))) ∧ FL N E l' ∧ val N l ≤ val N l' ∧
      (DInv N (fun u => lv.getD u 0) l x → (∀ x', DInv N (fun u => lv.getD u 0) l x' → ¬ Dead N x' 0) → val N l < val N l') := by
  have hn := hN.n2
  intro k
  induction k with
  | zero =>
    intro a0 l x hk h hx
    obtain ⟨s, l1, x1, hd⟩ := dn_total hN (D := 1099511627776) (fun u hu => hw.hi u hu) _ 0 (by omega) (Nat.le_refl _) 1152921504606846976 l x (by omega) h.wl hx
    obtain ⟨g1, g2, g3, g4⟩ := h.push hN hx (by omega) hd
    have := g1.val_le hN
    have hs : s = 0 := by omega
    have hp : impl_residual_push (N.adj, (N.to, (l, (lv, x)))) 0 1152921504606846976 = _ := push_i hN hw hd (by omega) h.wl hx (by omega) (by omega)
    refine ⟨a0, l1, x1, ?_, g1, by omega, fun q1 q2 => ?_⟩
    · rw [impl_residual_run_l1_eq]
      unfold impl_residual_run_l1K
      rw [hp]
      subst hs
      simp
    · obtain ⟨_, d2, d3⟩ := hd.dead hN (by omega) h.wl hx (by omega) hs q1 (fun c => by cases c)
      exact absurd d3 (q2 _ d2)
  | succ k ih =>
    intro a0 l x hk h hx
    obtain ⟨s, l1, x1, hd⟩ := dn_total hN (D := 1099511627776) (fun u hu => hw.hi u hu) _ 0 (by omega) (Nat.le_refl _) 1152921504606846976 l x (by omega) h.wl hx
    obtain ⟨g1, g2, g3, g4⟩ := h.push hN hx (by omega) hd
    have hp : impl_residual_push (N.adj, (N.to, (l, (lv, x)))) 0 1152921504606846976 = _ := push_i hN hw hd (by omega) h.wl hx (by omega) (by omega)
    by_cases hs : s = 0
    · refine ⟨a0, l1, x1, ?_, g1, by omega, fun q1 q2 => ?_⟩
      · rw [impl_residual_run_l1_eq]
        unfold impl_residual_run_l1K
        rw [hp]
        subst hs
        simp
      · obtain ⟨_, d2, d3⟩ := hd.dead hN (by omega) h.wl hx (by omega) hs q1 (fun c => by cases c)
        exact absurd d3 (q2 _ d2)
    · obtain ⟨a0', l', x', r1, r2, r3, _⟩ := ih (IntKind.i64.wrap (a0 + s)) l1 x1 (by omega) g1 g2
      refine ⟨a0', l', x', ?_, r2, by omega, fun _ _ => by omega⟩
      rw [impl_residual_run_l1_eq]
      unfold impl_residual_run_l1K
      rw [hp]
      have : (s == 0) = false := by simpa using hs
      simp only [Option.bind_some, this, cond_false]
      exact r1
theorem eqP_self {α : Type} (a : α) : eqP a a = true := by simp [eqP]
theorem run_i (hN : N.Ok) : ∀ (k : Nat) (a0 : Int) (l lv0 x0 : List Int), (tot E - val N l).toNat ≤ k → FL N E l →
    ∃ a0' l' lv' x', impl_residual_run_l0 a0 N.adj N.to l lv0 x0 = some (a0', (N.adj, (N.to, (l', (lv', x'))))) ∧ FL N E l' ∧
      ∃ t, Rd N l' t ∧ t.sn.getD (N.n - 1) false = false ∧ ∀ lv0 x0 : List Int, impl_residual_fromSource (N.adj, (N.to, (l', (lv0, x0)))) = some (t.sn, (N.adj, (N.to, (l', (t.lv, x0))))) := by
  have hn := hN.n2
  have hnb := hN.nb
  have c1 : decide ((N.n : Int) ≤ 1099511627776) = true := decide_eq_true (by omega)
  have c2 : decide ((N.n : Int) ≤ (N.n : Int)) = true := decide_eq_true (by omega)
  have e1 : IntKind.i64.wrap ((N.adj.length : Int) - 1) = ((N.n - 1 : Nat) : Int) := by rw [hN.adl, wr (by omega) (by omega)]; omega
  have key : ∀ (k : Nat), (∀ (j : Nat), j < k → ∀ (a0 : Int) (l lv0 x0 : List Int), (tot E - val N l).toNat ≤ j → FL N E l →
    ∃ a0' l' lv' x', impl_residual_run_l0 a0 N.adj N.to l lv0 x0 = some (a0', (N.adj, (N.to, (l', (lv', x'))))) ∧ FL N E l' ∧
      ∃ t, Rd N l' t ∧ t.sn.getD (N.n - 1) false = false ∧ ∀ lv0 x0 : List Int, impl_residual_fromSource (N.adj, (N.to, (l', (lv0, x0)))) = some (t.sn, (N.adj, (N.to, (l', (t.lv, x0)))))) →
    ∀ (a0 : Int) (l lv0 x0 : List Int), (tot E - val N l).toNat ≤ k → FL N E l →
    ∃ a0' l' lv' x', impl_residual_run_l0 a0 N.adj N.to l lv0 x0 = some (a0', (N.adj, (N.to, (l', (lv', x'))))) ∧ FL N E l' ∧
      ∃ t, Rd N l' t ∧ t.sn.getD (N.n - 1) false = false ∧ ∀ lv0 x0 : List Int, impl_residual_fromSource (N.adj, (N.to, (l', (lv0, x0)))) = some (t.sn, (N.adj, (N.to, (l', (t.lv, x0))))) := by
    intro k ih a0 l lv0 x0 hk h
    obtain ⟨t, ht, hsrc⟩ := src_ok hN h.wl
    have f8 := dl (i := N.n - 1) (n := t.sn.length) (by rw [ht.bi.snl]; omega)
    cases hs : t.sn.getD (N.n - 1) false with
    | false =>
      refine ⟨a0, l, t.lv, x0, ?_, h, t, ht, hs, hsrc⟩
      rw [impl_residual_run_l0_eq]
      unfold impl_residual_run_l0K
      simp only [hsrc, Option.bind_some, eqP_self, Bool.and_self, cond_true, e1, dz, f8, tz, Nat.zero_add, hs, cond_false]
    | true =>
      obtain ⟨b0, l1, x1, p1, p2, p3, p4⟩ := phase_i hN (ht.wv hN) (tot E - val N l).toNat a0 l (List.replicate N.n 0) (Nat.le_refl _) h (zero_wx hN)
      have p5 := p4 zero_dinv fun x' hx' => ht.first hN h.wl (fun _ _ => rfl) hs hx'
      have hv := p2.val_le hN
      obtain ⟨a0', l', lv', x', r1, r2, r3⟩ := ih (tot E - val N l1).toNat (by omega) b0 l1 t.lv x1 (Nat.le_refl _) p2
      refine ⟨a0', l', lv', x', ?_, r2, r3⟩
      rw [impl_residual_run_l0_eq]
      unfold impl_residual_run_l0K
      have e2 : N.adj.length = N.n := hN.adl
      have e3 : IntKind.i64.wrap ((N.n : Int) - 1) = ((N.n - 1 : Nat) : Int) := by have h := e1; rw [e2] at h; exact h
      simp only [hsrc, Option.bind_some, eqP_self, Bool.and_self, cond_true, dz, f8, tz, Nat.zero_add, hs, e2, e3, c1, c2, p1]
      exact r1
  intro k
  induction k using Nat.strongRecOn with
  | _ k ih => exact key k ih
end
noncomputable section
variable {N : Net} {lv : List Int} {b : Bool} {v e : Nat} {most s : Int} {l x l' x' : List Int}
theorem least_eq (a c : Int) : spec_l1Least a c = some (min a c) := by
  unfold spec_l1Least spec_l1LeastK
  by_cases h : a < c
  · simp [h]; omega
  · simp [h]; omega
abbrev spush := fun x : (Int × (List Int) × (List Int) × (List (List Int))) × Int × Int × (List Int) × (List Int) => spec_mfState_push x.1 x.2.1 x.2.2.1 x.2.2.2.1 x.2.2.2.2
theorem push_s (hN : N.Ok) (hw : WV0 N lv) (h : Dn N (fun u => lv.getD u 0) b v most l x s l' x') : v < N.n → WL N l → WX N x → 0 ≤ most → most ≤ 2305843009213693952 →
    match b with
    | false => spec_mfState_push ((N.n : Int), (N.to, (l, N.adj))) (v : Int) most lv x = some (s, (((N.n : Int), (N.to, (l', N.adj))), x'))
    | true => spec_mfState_push_l0 spush (v : Int) most lv (N.n : Int) N.to N.adj l x = ps2 s (s, ((N.n : Int), (N.to, (N.adj, (l', x'))))) ((N.n : Int), (N.to, (N.adj, (l', x')))) := by
  have hn := hN.n2
  have hnb := hN.nb
  induction h with
  | sink =>
    intro hv hl hx h0 h1
    rw [spec_mfState_push_eq]
    unfold spec_mfState_pushK
    have : IntKind.i64.wrap ((N.n : Int) - 1) = ((N.n - 1 : Nat) : Int) := by rw [wr (by omega) (by omega)]; omega
    simp only [this, beq_self_eq_true, cond_true]
  | @loop v most s l x l' x' hne hd ih =>
    intro hv hl hx h0 h1
    have ih := ih hv hl hx h0 h1
    have hs := (hd.wf hN hv hl hx h0).2.2.1
    rw [spec_mfState_push_eq]
    unfold spec_mfState_pushK
    have e1 : IntKind.i64.wrap ((N.n : Int) - 1) = ((N.n - 1 : Nat) : Int) := by rw [wr (by omega) (by omega)]; omega
    have e2 : ((v : Int) == ((N.n - 1 : Nat) : Int)) = false := by simp; omega
    simp only [e1, e2, cond_false]
    have ih : spec_mfState_push_l0 (fun x => spec_mfState_push x.1 x.2.1 x.2.2.1 x.2.2.2.1 x.2.2.2.2) (v : Int) most lv (N.n : Int) N.to N.adj l x = _ := ih
    rw [ih]
    unfold ps2
    by_cases c : 0 < s
    · simp only [c, if_true, Option.bind_some, sumO]
    · have : s = 0 := by omega
      subst this
      simp [sumO]
  | @done v most l x hd =>
    intro hv hl hx h0 h1
    show _ = _
    rw [spec_mfState_push_l0_eq]
    unfold spec_mfState_push_l0K
    have f2 := dl (n := x.length) (by rw [hx.len]; exact hv)
    have f3 : decide (x.getD v 0 < ((N.ad v).length : Int)) = false := by simp; simpa using hd
    simp only [dz, f2, Bool.and_self, cond_true, lat_adj hN hv, Option.bind_some, tz, Nat.zero_add, f3, cond_false, ps2]
    simp
  | @skip v e most s l x l' x' he hu hd ih =>
    intro hv hl hx h0 h1
    have ih := ih hv hl (hx.bump he) h0 h1
    show _ = _
    obtain ⟨e1, e2⟩ := hN.edge he
    have hlt := he.lt
    have hx0 := hx.ge v hv
    have hab := hN.adb v
    have f2 := dl (n := x.length) (by rw [hx.len]; exact hv)
    have f3 : decide (x.getD v 0 < ((N.ad v).length : Int)) = true := by simpa using hlt
    have f5 := dl (i := e) (n := l.length) (by rw [hl.len]; exact e1)
    have hh := hN.hd_lt e1
    have f8 := dl (i := N.hd e) (n := lv.length) (by rw [hw.len]; exact hh)
    have f9 := dl (i := v) (n := lv.length) (by rw [hw.len]; exact hv)
    have hb1 := hw.lo v hv
    have hb2 := hw.hi v hv
    have w1 : IntKind.i64.wrap (x.getD v 0 + 1) = x.getD v 0 + 1 := wr (by omega) (by omega)
    have w2 : IntKind.i64.wrap (lv.getD v 0 + 1) = lv.getD v 0 + 1 := wr (by omega) (by omega)
    rw [spec_mfState_push_l0_eq]
    unfold spec_mfState_push_l0K
    simp only [dz, f2, Bool.and_self, cond_true, lat_adj hN hv, Option.bind_some, tz, Nat.zero_add, f3, lat_ed he, f5, lat_to hN e1, lat_lv hw hh, lat_lv hw hv, w1, w2]
    by_cases c : l.getD e 0 = 0
    · have : (l.getD e 0 == 0) = true := by simpa using c
      simp only [this, cond_true]
      exact ih
    · have q1 : (l.getD e 0 == 0) = false := by simpa using c
      have q2 : (lv.getD (N.hd e) 0 != lv.getD v 0 + 1) = true := by
        rcases hu with g | g
        · exact absurd g c
        · simpa using g
      simp only [q1, cond_false, q2, cond_true]
      exact ih
  | @sent v e most s l x l1 x1 he hne hlv hd hs ih =>
    intro hv hl hx h0 h1
    obtain ⟨e1, e2⟩ := hN.edge he
    have hle := hl.ge e e1
    have hle2 := hl.le e e1
    have hlm := hl.ge _ (mate_lt e1)
    have hh := hN.hd_lt e1
    have ih := ih hh hl hx (by omega) (by omega)
    obtain ⟨g1, g2, g3, g4⟩ := hd.wf hN hh hl hx (by omega)
    have hk := hd.keepl hN e (by rw [e2]; omega) (by rw [e2]; omega)
    show _ = _
    have hlt := he.lt
    have hx0 := hx.ge v hv
    have hab := hN.adb v
    have f2 := dl (n := x.length) (by rw [hx.len]; exact hv)
    have f3 : decide (x.getD v 0 < ((N.ad v).length : Int)) = true := by simpa using hlt
    have f5 := dl (i := e) (n := l.length) (by rw [hl.len]; exact e1)
    have f8 := dl (i := N.hd e) (n := lv.length) (by rw [hw.len]; exact hh)
    have f9 := dl (i := v) (n := lv.length) (by rw [hw.len]; exact hv)
    have hb1 := hw.lo v hv
    have hb2 := hw.hi v hv
    have w2 : IntKind.i64.wrap (lv.getD v 0 + 1) = lv.getD v 0 + 1 := wr (by omega) (by omega)
    have q1 : (l.getD e 0 == 0) = false := by simpa using hne
    have q2 : (lv.getD (N.hd e) 0 != lv.getD v 0 + 1) = false := by simpa using hlv
    have q3 := least_eq most (l.getD e 0)
    have q4 : decide (s > 0) = true := by simpa using hs
    have f10 := dl (i := e) (n := l1.length) (by rw [g1.len]; exact e1)
    have hme := mate_lt e1
    have k1 := g1.ge e e1
    have k2 := g1.le e e1
    have k3 := g1.ge _ hme
    have w3 : IntKind.i64.wrap (l1.getD e 0 - s) = l1.getD e 0 - s := wr (by omega) (by omega)
    have f11 := dl (i := mate e) (n := (l1.set e (l1.getD e 0 - s)).length) (by rw [List.length_set, g1.len]; exact hme)
    have w4 : (l1.set e (l1.getD e 0 - s)).getD (mate e) 0 = l1.getD (mate e) 0 := gs_ne (Ne.symm (mate_ne e))
    have w5 : IntKind.i64.wrap (l1.getD (mate e) 0 + s) = l1.getD (mate e) 0 + s := wr (by omega) (by omega)
    have hx1 : xorI .i64 (e : Int) 1 = (mate e : Int) := xorI_one (by have := hN.mb; omega)
    have ih : spec_mfState_push ((N.n : Int), (N.to, (l, N.adj))) (N.hd e : Int) (min most (l.getD e 0)) lv x = _ := ih
    rw [spec_mfState_push_l0_eq]
    unfold spec_mfState_push_l0K
    simp only [dz, f2, Bool.and_self, cond_true, lat_adj hN hv, Option.bind_some, tz, Nat.zero_add, f3, lat_ed he, f5, lat_to hN e1, lat_lv hw hh, lat_lv hw hv, w2, q1, q2, cond_false, q3, ih, q4, f10, w3, hx1, f11, w4, w5]
    simp only [ps2, hs, if_true]
    rfl
  | @zero v e most s l x l1 x1 l' x' he hne hlv hd hd2 ih ih2 =>
    intro hv hl hx h0 h1
    obtain ⟨e1, e2⟩ := hN.edge he
    have hle := hl.ge e e1
    have hle2 := hl.le e e1
    have hlm := hl.ge _ (mate_lt e1)
    have hh := hN.hd_lt e1
    have ih := ih hh hl hx (by omega) (by omega)
    obtain ⟨g1, g2, g3, g4⟩ := hd.wf hN hh hl hx (by omega)
    have hk' := hd.keepx v (by omega)
    have he' : N.ed v (x1.getD v 0) e := by rw [hk']; exact he
    have ih2 := ih2 hv g1 (g2.bump he') h0 h1
    show _ = _
    have hlt := he.lt
    have hx0 := hx.ge v hv
    have hab := hN.adb v
    have f2 := dl (n := x.length) (by rw [hx.len]; exact hv)
    have f2' := dl (n := x1.length) (by rw [g2.len]; exact hv)
    have f3 : decide (x.getD v 0 < ((N.ad v).length : Int)) = true := by simpa using hlt
    have f5 := dl (i := e) (n := l.length) (by rw [hl.len]; exact e1)
    have f8 := dl (i := N.hd e) (n := lv.length) (by rw [hw.len]; exact hh)
    have f9 := dl (i := v) (n := lv.length) (by rw [hw.len]; exact hv)
    have hb1 := hw.lo v hv
    have hb2 := hw.hi v hv
    have w2 : IntKind.i64.wrap (lv.getD v 0 + 1) = lv.getD v 0 + 1 := wr (by omega) (by omega)
    have q1 : (l.getD e 0 == 0) = false := by simpa using hne
    have q2 : (lv.getD (N.hd e) 0 != lv.getD v 0 + 1) = false := by simpa using hlv
    have q3 := least_eq most (l.getD e 0)
    have q4 : decide ((0 : Int) > 0) = false := by simp
    have w1 : IntKind.i64.wrap (x1.getD v 0 + 1) = x1.getD v 0 + 1 := wr (by omega) (by omega)
    have ih : spec_mfState_push ((N.n : Int), (N.to, (l, N.adj))) (N.hd e : Int) (min most (l.getD e 0)) lv x = _ := ih
    rw [spec_mfState_push_l0_eq]
    unfold spec_mfState_push_l0K
    simp only [dz, f2, f2', Bool.and_self, cond_true, lat_adj hN hv, Option.bind_some, tz, Nat.zero_add, f3, lat_ed he, f5, lat_to hN e1, lat_lv hw hh, lat_lv hw hv, w2, q1, q2, cond_false, q3, ih, q4, w1]
    exact ih2
end
noncomputable section
variable {N : Net} {v : Nat} {l : List Int} {t t' : Bf} {E : List (Int × Int × Int)}
structure DC (N : Net) (d : List Int) (t : Bf) : Prop where
  len : d.length = N.n
  get : ∀ u, u < N.n → d.getD u 0 = if t.sn.getD u false = true then t.lv.getD u 0 else -1
theorem lev_l2 (hN : N.Ok) (hl : WL N l) {i : Nat} : ∀ (j k : Nat) (t : Bf) (d : List Int), k + j = (N.ad v).length → BI N l t → t.L[i]? = some (v : Int) → DC N d t →
    ∃ d', spec_mfState_levels_l2 (i : Int) (N.ad v) ((N.ad v).length : Int) N.to l (k : Int) d t.L = some (d', (scan N l v t ((N.ad v).drop k)).L) ∧ DC N d' (scan N l v t ((N.ad v).drop k)) := by
  intro j
  have hnb := hN.nb
  induction j with
  | zero =>
    intro k t d hk hb hv hq
    have hd : (N.ad v).drop k = [] := List.drop_eq_nil_of_le (by omega)
    refine ⟨d, ?_, ?_⟩
    · rw [spec_mfState_levels_l2_eq]
      unfold spec_mfState_levels_l2K
      have : decide ((k : Int) < ((N.ad v).length : Int)) = false := by simp; omega
      rw [this, hd]
      rfl
    · rw [hd]; exact hq
  | succ j ih =>
    intro k t d hk hb hv hq
    have hkl : k < (N.ad v).length := by omega
    have hvm : (v : Int) ∈ t.L := List.mem_of_getElem? hv
    have hil : i < t.L.length := (List.getElem?_eq_some_iff.1 hv).1
    obtain ⟨e, he, e1, e2⟩ := hN.adm v _ (List.getElem_mem hkl)
    have hm : (e : Int) ∈ N.ad v := by rw [← he]; exact List.getElem_mem hkl
    have hh := hN.hd_lt e1
    obtain ⟨b1, b2, b3, r, b4⟩ := scan1_ok hN hb hvm hm
    have hsc : scan N l v t ((N.ad v).drop k) = scan N l v (scan1 N l v t e) ((N.ad v).drop (k + 1)) := by
      rw [List.drop_eq_getElem_cons hkl, he]; rfl
    rw [hsc]
    have hbd := hb.bnd v hvm
    have hln := hb.len
    obtain ⟨u, hu1, hu2⟩ := hb.ran _ hvm
    have hvn : v < N.n := by omega
    have hab := hN.adb v
    have wk : IntKind.i64.wrap ((k : Int) + 1) = ((k + 1 : Nat) : Int) := by rw [wr (by omega) (by omega)]; omega
    have f1 : decide ((k : Int) < ((N.ad v).length : Int)) = true := dl hkl
    have f2 : lat (N.ad v) (k : Int) = some (e : Int) := by rw [lat_nat hkl, he]
    have f5 := dl (i := e) (n := l.length) (by rw [hl.len]; exact e1)
    have f8 := dl (i := N.hd e) (n := d.length) (by rw [hq.len]; exact hh)
    have f9 := dl (i := i) (n := t.L.length) hil
    have f10 := dl (i := v) (n := d.length) (by rw [hq.len]; exact hvn)
    have g1 : t.L.getD i 0 = (v : Int) := by rw [List.getD_eq_getElem?_getD, hv]; rfl
    have g2 : d.getD v 0 = t.lv.getD v 0 := by rw [hq.get v hvn, if_pos ((hb.mem v hvn).2 hvm)]
    have g3 := hq.get _ hh
    have g4 := hb.all _ hh
    have w2 : IntKind.i64.wrap (t.lv.getD v 0 + 1) = t.lv.getD v 0 + 1 := wr (by omega) (by omega)
    have step : spec_mfState_levels_l2 (i : Int) (N.ad v) ((N.ad v).length : Int) N.to l (k : Int) d t.L =
        if 0 < l.getD e 0 ∧ t.sn.getD (N.hd e) false = false then
          spec_mfState_levels_l2 (i : Int) (N.ad v) ((N.ad v).length : Int) N.to l ((k + 1 : Nat) : Int) (d.set (N.hd e) (t.lv.getD v 0 + 1)) (t.L ++ [(N.hd e : Int)])
        else spec_mfState_levels_l2 (i : Int) (N.ad v) ((N.ad v).length : Int) N.to l ((k + 1 : Nat) : Int) d t.L := by
      rw [spec_mfState_levels_l2_eq]
      unfold spec_mfState_levels_l2K
      simp only [f1, cond_true, f2, Option.bind_some, dz, f5, Bool.and_self, tz, Nat.zero_add, lat_to hN e1, f8, f9, g1, f10, g2, w2, wk]
      by_cases c1 : 0 < l.getD e 0
      · have q1 : decide (l.getD e 0 > 0) = true := decide_eq_true c1
        simp only [q1, cond_true]
        cases hs : t.sn.getD (N.hd e) false with
        | true =>
          rw [if_neg (by simp)]
          rw [hs, if_pos rfl] at g3
          have : decide (d.getD (N.hd e) 0 < 0) = false := decide_eq_false (by omega)
          simp only [this, cond_false]
        | false =>
          rw [if_pos ⟨c1, rfl⟩]
          rw [hs, if_neg (by simp)] at g3
          have : decide (d.getD (N.hd e) 0 < 0) = true := decide_eq_true (by omega)
          have hcap : decide (t.L.length + [(N.hd e : Int)].length ≤ 1099511627776) = true := by
            have := b1.len
            rw [show scan1 N l v t e = ⟨t.sn.set (N.hd e) true, t.lv.set (N.hd e) (t.lv.getD v 0 + 1), t.L ++ [(N.hd e : Int)]⟩ by unfold scan1; rw [if_pos ⟨by simpa using c1, by simpa using hs⟩]; simp] at this
            simp only [List.length_append, List.length_singleton] at this
            simp only [List.length_singleton]
            exact decide_eq_true (by omega)
          simp only [this, cond_true, hcap]
      · have q1 : decide (l.getD e 0 > 0) = false := decide_eq_false c1
        rw [if_neg fun g => c1 g.1]
        simp only [q1, cond_false]
    rw [step]
    by_cases c : 0 < l.getD e 0 ∧ t.sn.getD (N.hd e) false = false
    · rw [if_pos c]
      have hs1 : scan1 N l v t e = ⟨t.sn.set (N.hd e) true, t.lv.set (N.hd e) (t.lv.getD v 0 + 1), t.L ++ [(N.hd e : Int)]⟩ := by
        unfold scan1; rw [if_pos (by simpa using c)]; simp
      rw [hs1] at b1 ⊢
      refine ih (k + 1) _ _ (by omega) b1 (by show (t.L ++ [(N.hd e : Int)])[i]? = _; rw [List.getElem?_append_left hil]; exact hv) ⟨by simpa using hq.len, fun w hw => ?_⟩
      show (d.set (N.hd e) _).getD w 0 = if (t.sn.set (N.hd e) true).getD w false = true then (t.lv.set (N.hd e) _).getD w 0 else -1
      by_cases c2 : N.hd e = w
      · subst c2
        rw [gs_eq (by rw [hq.len]; exact hh), gs_eq (by rw [hb.snl]; exact hh), gs_eq (by rw [hb.lvl]; exact hh), if_pos rfl]
      · rw [gs_ne c2, gs_ne c2, gs_ne c2]; exact hq.get w hw
    · rw [if_neg c]
      have hs1 : scan1 N l v t e = t := by
        unfold scan1; rw [if_neg (by simpa using c)]
      rw [hs1] at b1 ⊢
      exact ih (k + 1) _ _ (by omega) b1 hv hq
theorem lev_l1 (hN : N.Ok) (hl : WL N l) {i : Nat} (h : Bs N l i t t') : ∀ (d : List Int), BI N l t → DC N d t → ∃ d', spec_mfState_levels_l1 N.to N.adj l (i : Int) d t.L = some d' ∧ DC N d' t' := by
  have hnb := hN.nb
  induction h with
  | @stop i t hi =>
    intro d hb hq
    refine ⟨d, ?_, hq⟩
    rw [spec_mfState_levels_l1_eq]
    unfold spec_mfState_levels_l1K
    have : decide ((i : Int) < (t.L.length : Int)) = false := by simp; omega
    rw [this]; rfl
  | @step i v t t' hv _ ih =>
    intro d hb hq
    have hi : i < t.L.length := (List.getElem?_eq_some_iff.1 hv).1
    have hm : (v : Int) ∈ t.L := List.mem_of_getElem? hv
    obtain ⟨u, hu1, hu2⟩ := hb.ran _ hm
    have hvn : v < N.n := by omega
    have hln := hb.len
    obtain ⟨b1, b2, b3, r, b4⟩ := scan_ok hN (N.ad v) t hb hm fun _ h => h
    obtain ⟨d1, g1, g2⟩ := lev_l2 hN hl (v := v) (i := i) (N.ad v).length 0 t d (by omega) hb hv hq
    obtain ⟨d2, k1, k2⟩ := ih d1 b1 g2
    refine ⟨d2, ?_, k2⟩
    rw [spec_mfState_levels_l1_eq]
    unfold spec_mfState_levels_l1K
    have g0 : t.L.getD i 0 = (v : Int) := by rw [List.getD_eq_getElem?_getD, hv]; rfl
    have wk : IntKind.i64.wrap ((i : Int) + 1) = ((i + 1 : Nat) : Int) := by rw [wr (by omega) (by omega)]; omega
    have g1 : spec_mfState_levels_l2 (i : Int) (N.ad v) ((N.ad v).length : Int) N.to l 0 d t.L = _ := g1
    simp only [dl hi, dz, cond_true, Bool.and_self, tz, Nat.zero_add, g0, lat_adj hN hvn, Option.bind_some, g1, wk, List.drop_zero]
    exact k1
theorem lev_l0 {n : Nat} (hn : n ≤ 1099511627776) : spec_mfState_levels_l0 (n : Int) 0 (List.replicate n 0) = some (List.replicate n (-1)) := by
  refine (fill_loop (f := fun i r => spec_mfState_levels_l0 (n : Int) i r) (l := List.replicate n (-1)) (by simpa using hn) ?_ (fun i r hi hr => ?_) (List.replicate n 0) (by simp))
  · show spec_mfState_levels_l0 (n : Int) ((List.replicate n (-1 : Int)).length : Int) (List.replicate n (-1)) = _
    rw [List.length_replicate, spec_mfState_levels_l0_eq]
    unfold spec_mfState_levels_l0K
    simp
  · have hi' : i < n := by simpa using hi
    have hr' : r.length = n := by simpa using hr
    show spec_mfState_levels_l0 (n : Int) (i : Int) r = spec_mfState_levels_l0 (n : Int) ((i + 1 : Nat) : Int) _
    rw [spec_mfState_levels_l0_eq]
    unfold spec_mfState_levels_l0K
    have wk : IntKind.i64.wrap ((i : Int) + 1) = ((i + 1 : Nat) : Int) := by rw [wr (by omega) (by omega)]; omega
    have f8 := dl (i := i) (n := r.length) (by omega)
    simp only [dl hi', cond_true, dz, f8, Bool.and_self, Option.bind_some, tz, Nat.zero_add, wk, List.getElem_replicate]
theorem lev_ok (hN : N.Ok) (hl : WL N l) : ∃ t d, Rd N l t ∧ DC N d t ∧ spec_mfState_levels ((N.n : Int), (N.to, (l, N.adj))) = some (d, ((N.n : Int), (N.to, (l, N.adj)))) := by
  obtain ⟨t, h1, h2⟩ := bfs_total (l := l) hN
  have hn := hN.n2
  have hnb := hN.nb
  have g : ∀ u, u < N.n → (List.replicate N.n (-1 : Int)).getD u 0 = -1 := fun u hu => by
    rw [List.getD_eq_getElem?_getD, List.getElem?_replicate, if_pos hu]; rfl
  have hd0 : DC N ((List.replicate N.n (-1)).set 0 0) (start N.n) := by
    refine ⟨by simp, fun u hu => ?_⟩
    by_cases c : 0 = u
    · subst c
      have h0 : 0 < (List.replicate N.n false).length := by simp; omega
      show _ = if ((List.replicate N.n false).set 0 true).getD 0 false = true then (List.replicate N.n (0 : Int)).getD 0 0 else -1
      rw [gs_eq (by simp; omega), gs_eq h0, if_pos rfl, List.getD_eq_getElem?_getD, List.getElem?_replicate]
      split <;> rfl
    · show _ = if ((List.replicate N.n false).set 0 true).getD u false = true then _ else -1
      rw [gs_ne c, gs_ne c, g u hu, List.getD_eq_getElem?_getD, List.getElem?_replicate, if_pos hu, if_neg (by simp)]
  obtain ⟨d, k1, k2⟩ := lev_l1 hN hl h1 _ (start_bi hN) hd0
  refine ⟨t, d, h2, k2, ?_⟩
  unfold spec_mfState_levels spec_mfState_levelsK
  have c1 : decide ((N.n : Int) ≤ 1099511627776) = true := decide_eq_true (by omega)
  have c2 : decide ((N.n : Int) ≤ (N.n : Int)) = true := decide_eq_true (by omega)
  have c3 : decide ((0 : Int) < (N.n : Int)) = true := decide_eq_true (by omega)
  simp only [dz, c1, c2, Bool.and_self, cond_true, Option.bind_some, tz, List.length_replicate, lev_l0 hnb, c3, Nat.zero_add]
  have k1 : spec_mfState_levels_l1 N.to N.adj l 0 ((List.replicate N.n (-1)).set 0 0) [0] = _ := k1
  rw [k1]
  rfl
theorem DC.wv (hN : N.Ok) (h : Rd N l t) {d : List Int} (hd : DC N d t) : WV0 N d := by
  have h1 := h.bi.len
  have h2 := hN.nb
  refine ⟨hd.len, fun u hu => ?_, fun u hu => ?_⟩
  · rw [hd.get u hu]
    have := h.bi.all u hu
    split <;> omega
  · rw [hd.get u hu]
    have := h.bi.all u hu
    split <;> omega
theorem phase_s (hN : N.Ok) {lv : List Int} (hw : WV0 N lv) : ∀ (k : Nat) (a0 : Int) (l x : List Int), (tot E - val N l).toNat ≤ k → FL N E l → WX N x →
    ∃ a0' l', spec_mfState_run_l1 lv a0 (N.n : Int) N.to N.adj l x = some (a0', ((N.n : Int), (N.to, (N.adj, l')))) ∧ FL N E l' ∧ val N l ≤ val N l' ∧
      (DInv N (fun u => lv.getD u 0) l x → (∀ x', DInv N (fun u => lv.getD u 0) l x' → ¬ Dead N x' 0) → val N l < val N l') := by
  have hn := hN.n2
  intro k
  induction k with
  | zero =>
    intro a0 l x hk h hx
    obtain ⟨s, l1, x1, hd⟩ := dn_total hN (D := 1099511627776) (fun u hu => hw.hi u hu) _ 0 (by omega) (Nat.le_refl _) 1125899906842624 l x (by omega) h.wl hx
    obtain ⟨g1, g2, g3, g4⟩ := h.push hN hx (by omega) hd
    have := g1.val_le hN
    have hs : s = 0 := by omega
    have hp : spec_mfState_push ((N.n : Int), (N.to, (l, N.adj))) 0 1125899906842624 lv x = _ := push_s hN hw hd (by omega) h.wl hx (by omega) (by omega)
    refine ⟨a0, l1, ?_, g1, by omega, fun q1 q2 => ?_⟩
    · rw [spec_mfState_run_l1_eq]
      unfold spec_mfState_run_l1K
      rw [hp]
      subst hs
      simp
    · obtain ⟨_, d2, d3⟩ := hd.dead hN (by omega) h.wl hx (by omega) hs q1 (fun c => by cases c)
      exact absurd d3 (q2 _ d2)
  | succ k ih =>
    intro a0 l x hk h hx
    obtain ⟨s, l1, x1, hd⟩ := dn_total hN (D := 1099511627776) (fun u hu => hw.hi u hu) _ 0 (by omega) (Nat.le_refl _) 1125899906842624 l x (by omega) h.wl hx
    obtain ⟨g1, g2, g3, g4⟩ := h.push hN hx (by omega) hd
    have hp : spec_mfState_push ((N.n : Int), (N.to, (l, N.adj))) 0 1125899906842624 lv x = _ := push_s hN hw hd (by omega) h.wl hx (by omega) (by omega)
    by_cases hs : s = 0
    · refine ⟨a0, l1, ?_, g1, by omega, fun q1 q2 => ?_⟩
      · rw [spec_mfState_run_l1_eq]
        unfold spec_mfState_run_l1K
        rw [hp]
        subst hs
        simp
      · obtain ⟨_, d2, d3⟩ := hd.dead hN (by omega) h.wl hx (by omega) hs q1 (fun c => by cases c)
        exact absurd d3 (q2 _ d2)
    · obtain ⟨a0', l', r1, r2, r3, _⟩ := ih (IntKind.i64.wrap (a0 + s)) l1 x1 (by omega) g1 g2
      refine ⟨a0', l', ?_, r2, by omega, fun _ _ => by omega⟩
      rw [spec_mfState_run_l1_eq]
      unfold spec_mfState_run_l1K
      rw [hp]
      have : (s == 0) = false := by simpa using hs
      simp only [Option.bind_some, this, cond_false]
      exact r1
theorem run_s (hN : N.Ok) : ∀ (k : Nat) (a0 : Int) (l : List Int), (tot E - val N l).toNat ≤ k → FL N E l →
    ∃ a0' l', spec_mfState_run_l0 a0 (N.n : Int) N.to N.adj l = some (a0', ((N.n : Int), (N.to, (N.adj, l')))) ∧ FL N E l' ∧
      ∃ t d, Rd N l' t ∧ t.sn.getD (N.n - 1) false = false ∧ DC N d t ∧ spec_mfState_levels ((N.n : Int), (N.to, (l', N.adj))) = some (d, ((N.n : Int), (N.to, (l', N.adj)))) := by
  have hn := hN.n2
  have hnb := hN.nb
  have c1 : decide ((N.n : Int) ≤ 1099511627776) = true := decide_eq_true (by omega)
  have c2 : decide ((N.n : Int) ≤ (N.n : Int)) = true := decide_eq_true (by omega)
  have e1 : IntKind.i64.wrap ((N.n : Int) - 1) = ((N.n - 1 : Nat) : Int) := by rw [wr (by omega) (by omega)]; omega
  intro k
  induction k using Nat.strongRecOn with
  | _ k ih =>
    intro a0 l hk h
    obtain ⟨t, d, ht, hdc, hsrc⟩ := lev_ok hN h.wl
    have f8 := dl (i := N.n - 1) (n := d.length) (by rw [hdc.len]; omega)
    have g := hdc.get (N.n - 1) (by omega)
    have g4 := ht.bi.all (N.n - 1) (by omega)
    cases hs : t.sn.getD (N.n - 1) false with
    | false =>
      refine ⟨a0, l, ?_, h, t, d, ht, hs, hdc, hsrc⟩
      rw [hs, if_neg (by simp)] at g
      have q : decide (d.getD (N.n - 1) 0 < 0) = true := decide_eq_true (by omega)
      rw [spec_mfState_run_l0_eq]
      unfold spec_mfState_run_l0K
      simp only [hsrc, Option.bind_some, Bool.and_self, cond_true, e1, dz, f8, tz, Nat.zero_add, q]
    | true =>
      rw [hs, if_pos rfl] at g
      have q : decide (d.getD (N.n - 1) 0 < 0) = false := decide_eq_false (by omega)
      obtain ⟨b0, l1, p1, p2, p3, p4⟩ := phase_s hN (hdc.wv hN ht) (tot E - val N l).toNat a0 l (List.replicate N.n 0) (Nat.le_refl _) h (zero_wx hN)
      have p5 := p4 zero_dinv fun x' hx' => ht.first hN h.wl (fun u hu => by
        obtain ⟨w, hw1, hw2⟩ := ht.bi.ran _ hu
        have hun : u < N.n := by omega
        show d.getD u 0 = _
        rw [hdc.get u hun, if_pos ((ht.bi.mem u hun).2 hu)]) hs hx'
      have hv := p2.val_le hN
      obtain ⟨a0', l', r1, r2, r3⟩ := ih (tot E - val N l1).toNat (by omega) b0 l1 (Nat.le_refl _) p2
      refine ⟨a0', l', ?_, r2, r3⟩
      rw [spec_mfState_run_l0_eq]
      unfold spec_mfState_run_l0K
      simp only [hsrc, Option.bind_some, Bool.and_self, cond_true, cond_false, e1, dz, f8, tz, Nat.zero_add, q, c1, c2, p1]
      exact r1
end
noncomputable section
def addA (adj : List (List Int)) (k a b : Nat) : List (List Int) :=
  (adj.set a (adj.getD a [] ++ [((2 * k : Nat) : Int)])).set b ((adj.set a (adj.getD a [] ++ [((2 * k : Nat) : Int)])).getD b [] ++ [((2 * k + 1 : Nat) : Int)])
structure NK (n k : Nat) (to : List Int) (adj : List (List Int)) : Prop where
  tol : to.length = 2 * k
  tor : ∀ e, e < 2 * k → 0 ≤ to.getD e 0 ∧ to.getD e 0 < (n : Int)
  adl : adj.length = n
  adm : ∀ v, ∀ y ∈ adj.getD v [], ∃ e : Nat, y = (e : Int) ∧ e < 2 * k ∧ (to.getD (mate e) 0).toNat = v
  ada : ∀ e, e < 2 * k → (e : Int) ∈ adj.getD (to.getD (mate e) 0).toNat []
  adb : ∀ v, (adj.getD v []).length ≤ 2 * k
theorem addA_get {adj : List (List Int)} {k a b : Nat} (ha : a < adj.length) (hb : b < adj.length) (v : Nat) :
    (addA adj k a b).getD v [] = adj.getD v [] ++ ((if a = v then [((2 * k : Nat) : Int)] else []) ++ (if b = v then [((2 * k + 1 : Nat) : Int)] else [])) := by
  have h1 : ∀ u, (adj.set a (adj.getD a [] ++ [((2 * k : Nat) : Int)])).getD u [] = adj.getD u [] ++ (if a = u then [((2 * k : Nat) : Int)] else []) := fun u => by
    by_cases c : a = u
    · subst c; rw [gs_eq ha, if_pos rfl]
    · rw [gs_ne c, if_neg c, List.append_nil]
  unfold addA
  by_cases c : b = v
  · subst c
    rw [gs_eq (by simpa using hb), h1, if_pos rfl, List.append_assoc]
  · rw [gs_ne c, h1, if_neg c, List.append_nil]
theorem app2_lt {to : List Int} {p q : Int} {e : Nat} (h : e < to.length) : (to ++ [p, q]).getD e 0 = to.getD e 0 := by
  simp only [List.getD_eq_getElem?_getD, List.getElem?_append_left h]
theorem app2_0 {to : List Int} {p q : Int} {e : Nat} (h : e = to.length) : (to ++ [p, q]).getD e 0 = p := by
  subst h; simp [List.getD_eq_getElem?_getD]
theorem app2_1 {to : List Int} {p q : Int} {e : Nat} (h : e = to.length + 1) : (to ++ [p, q]).getD e 0 = q := by
  subst h; simp [List.getD_eq_getElem?_getD]
theorem NK.step {n k : Nat} {to : List Int} {adj : List (List Int)} (h : NK n k to adj) {a b : Nat} (ha : a < n) (hb : b < n) : NK n (k + 1) (to ++ [(b : Int), (a : Int)]) (addA adj k a b) := by
  have hal : a < adj.length := by rw [h.adl]; exact ha
  have hbl : b < adj.length := by rw [h.adl]; exact hb
  have m0 : mate (2 * k) = 2 * k + 1 := mate_even k
  have m1 : mate (2 * k + 1) = 2 * k := mate_odd k
  have t0 : (to ++ [(b : Int), (a : Int)]).getD (2 * k) 0 = (b : Int) := app2_0 h.tol.symm
  have t1 : (to ++ [(b : Int), (a : Int)]).getD (2 * k + 1) 0 = (a : Int) := app2_1 (by rw [h.tol])
  refine ⟨by simp [h.tol]; omega, fun e he => ?_, by simp [addA, h.adl], fun v y hy => ?_, fun e he => ?_, fun v => ?_⟩
  · by_cases c : e < 2 * k
    · rw [app2_lt (by rw [h.tol]; exact c)]; exact h.tor e c
    · by_cases c2 : e = 2 * k
      · subst c2; rw [t0]; omega
      · have : e = 2 * k + 1 := by omega
        subst this; rw [t1]; omega
  · rw [addA_get hal hbl] at hy
    rcases List.mem_append.1 hy with hy | hy
    · obtain ⟨e, e1, e2, e3⟩ := h.adm v y hy
      exact ⟨e, e1, by omega, by rw [app2_lt (by rw [h.tol]; exact mate_lt e2)]; exact e3⟩
    · rcases List.mem_append.1 hy with hy | hy
      · by_cases c : a = v
        · rw [if_pos c] at hy
          exact ⟨2 * k, by simpa using hy, by omega, by rw [m0, t1]; simpa using c⟩
        · rw [if_neg c] at hy; simp at hy
      · by_cases c : b = v
        · rw [if_pos c] at hy
          exact ⟨2 * k + 1, by simpa using hy, by omega, by rw [m1, t0]; simpa using c⟩
        · rw [if_neg c] at hy; simp at hy
  · rw [addA_get hal hbl]
    by_cases c : e < 2 * k
    · rw [app2_lt (by rw [h.tol]; exact mate_lt c)]
      exact List.mem_append_left _ (h.ada e c)
    · by_cases c2 : e = 2 * k
      · subst c2
        rw [m0, t1]
        simp
      · have : e = 2 * k + 1 := by omega
        subst this
        rw [m1, t0]
        simp
  · rw [addA_get hal hbl, List.length_append, List.length_append]
    have := h.adb v
    split <;> split <;> simp only [List.length_singleton, List.length_nil] <;> omega
def toF (X : List DEdge) : List Int := X.flatMap fun e => [e.2.1, e.1]
def leF (X : List DEdge) : List Int := X.flatMap fun e => [e.2.2.1, 0]
def eds (X : List DEdge) : List (Int × Int × Int) := X.map fun e => (e.1, e.2.1, e.2.2.1)
structure EOk (n : Nat) (X : List DEdge) : Prop where
  ran : ∀ e ∈ X, (0 ≤ e.1 ∧ e.1 < (n : Int)) ∧ (0 ≤ e.2.1 ∧ e.2.1 < (n : Int)) ∧ (0 ≤ e.2.2.1 ∧ e.2.2.1 ≤ 2305843009213693952)
  len : X.length ≤ 274877906944
  n2 : 2 ≤ n
  nb : n ≤ 1099511627776
theorem toF_len : ∀ X : List DEdge, (toF X).length = 2 * X.length
  | [] => rfl
  | e :: X => by
    have := toF_len X
    simp only [toF, List.flatMap_cons, List.length_append, List.length_cons, List.length_nil] at this ⊢
    omega
theorem leF_len : ∀ X : List DEdge, (leF X).length = 2 * X.length
  | [] => rfl
  | e :: X => by
    have := leF_len X
    simp only [leF, List.flatMap_cons, List.length_append, List.length_cons, List.length_nil] at this ⊢
    omega
theorem leF_ok {n : Nat} : ∀ X : List DEdge, (∀ e ∈ X, (0 ≤ e.1 ∧ e.1 < (n : Int)) ∧ (0 ≤ e.2.1 ∧ e.2.1 < (n : Int)) ∧ (0 ≤ e.2.2.1 ∧ e.2.2.1 ≤ 2305843009213693952)) →
    ∀ e, e < 2 * X.length → 0 ≤ (leF X).getD e 0 ∧ (leF X).getD e 0 + (leF X).getD (mate e) 0 ≤ 2305843009213693952
  | [], _, e, h => by simp at h
  | x :: X, hX, e, h => by
    have ih := leF_ok X fun y hy => hX y (List.mem_cons_of_mem _ hy)
    have hx := hX x List.mem_cons_self
    have e0 : leF (x :: X) = x.2.2.1 :: 0 :: leF X := rfl
    rw [e0]
    match e with
    | 0 => simp only [mate, Nat.zero_mod, if_true, List.getD_cons_zero, List.getD_cons_succ, Nat.zero_add]; omega
    | 1 => simp only [mate, Nat.one_mod, Nat.one_ne_zero, if_false, Nat.sub_self, List.getD_cons_zero, List.getD_cons_succ]; omega
    | e + 2 =>
      rw [mate_add]
      simp only [List.getD_cons_succ]
      exact ih e (by simp at h; omega)
theorem ends_eds : ∀ X : List DEdge, ends (arcsOf (toF X) (leF X)) = eds X
  | [] => rfl
  | x :: X => by
    have ih := ends_eds X
    have e0 : leF (x :: X) = x.2.2.1 :: 0 :: leF X := rfl
    have e1 : toF (x :: X) = x.2.1 :: x.1 :: toF X := rfl
    rw [e0, e1]
    simp only [arcsOf, ends, eds, List.map_cons, Int.add_zero] at ih ⊢
    rw [ih]
theorem exc_eds : ∀ (X : List DEdge) (v : Int), exc (arcsOf (toF X) (leF X)) v = 0
  | [], v => rfl
  | x :: X, v => by
    have ih := exc_eds X v
    have e0 : leF (x :: X) = x.2.2.1 :: 0 :: leF X := rfl
    have e1 : toF (x :: X) = x.2.1 :: x.1 :: toF X := rfl
    rw [e0, e1]
    simp only [arcsOf, exc, ih]
    split <;> split <;> rfl
theorem NK.ok {n : Nat} {X : List DEdge} (hX : EOk n X) {adj : List (List Int)} (h : NK n X.length (toF X) adj) : Net.Ok ⟨n, X.length, toF X, adj⟩ := by
  have hl := hX.len
  exact ⟨hX.n2, hX.nb, by show X.length ≤ _; omega, h.tol, h.tor, h.adl, h.adm, h.ada, fun v => by have := h.adb v; show (adj.getD v []).length ≤ _; omega⟩
theorem FL.start {n : Nat} {X : List DEdge} (hX : EOk n X) (adj : List (List Int)) : FL ⟨n, X.length, toF X, adj⟩ (eds X) (leF X) :=
  ⟨⟨leF_len X, fun e he => (leF_ok X hX.ran e he).1, fun e he => (leF_ok X hX.ran e he).2⟩, ends_eds X, fun v _ _ => exc_eds X v⟩
theorem toF_snoc {X : List DEdge} {k : Nat} (h : k < X.length) : toF (X.take (k + 1)) = toF (X.take k) ++ [X[k].2.1, X[k].1] := by
  rw [List.take_add_one, List.getElem?_eq_getElem h]; simp only [toF, List.flatMap_append, Option.toList_some, List.flatMap_cons, List.flatMap_nil, List.append_nil]
theorem leF_snoc {X : List DEdge} {k : Nat} (h : k < X.length) : leF (X.take (k + 1)) = leF (X.take k) ++ [X[k].2.2.1, 0] := by
  rw [List.take_add_one, List.getElem?_eq_getElem h]; simp only [leF, List.flatMap_append, Option.toList_some, List.flatMap_cons, List.flatMap_nil, List.append_nil]
theorem nk0 (n : Nat) : NK n 0 [] (List.replicate n []) := by
  have g : ∀ v, (List.replicate n ([] : List Int)).getD v [] = [] := fun v => by
    rw [List.getD_eq_getElem?_getD, List.getElem?_replicate]; split <;> rfl
  exact ⟨rfl, fun e he => by omega, by simp, fun v y hy => by rw [g] at hy; simp at hy, fun e he => by omega, fun v => by rw [g]; simp⟩
theorem de (n : Nat) : decide (n = n) = true := by simp
theorem new_l0 {n : Nat} {X : List DEdge} (hX : EOk n X) : ∀ (j k : Nat) (adj : List (List Int)), k + j = X.length → NK n k (toF (X.take k)) adj →
    ∃ adj', impl_newResidual_l0 X (X.length : Int) (k : Int) adj (toF (X.take k)) (leF (X.take k)) = some (adj', (toF X, leF X)) ∧ NK n X.length (toF X) adj' := by
  intro j
  have hlen := hX.len
  induction j with
  | zero =>
    intro k adj hk h
    have e1 : X.take k = X := List.take_of_length_le (by omega)
    rw [e1] at h ⊢
    have : k = X.length := by omega
    subst this
    refine ⟨adj, ?_, h⟩
    rw [impl_newResidual_l0_eq]
    unfold impl_newResidual_l0K
    simp
  | succ j ih =>
    intro k adj hk h
    have hkl : k < X.length := by omega
    obtain ⟨⟨r1, r2⟩, ⟨r3, r4⟩, r5, r6⟩ := hX.ran _ (List.getElem_mem hkl)
    obtain ⟨a, ha⟩ : ∃ a : Nat, X[k].1 = (a : Int) := ⟨X[k].1.toNat, by omega⟩
    obtain ⟨b, hb⟩ : ∃ b : Nat, X[k].2.1 = (b : Int) := ⟨X[k].2.1.toNat, by omega⟩
    have han : a < n := by omega
    have hbn : b < n := by omega
    have hal : a < adj.length := by rw [h.adl]; exact han
    have hbl : b < adj.length := by rw [h.adl]; exact hbn
    have st := h.step han hbn
    obtain ⟨adj', g1, g2⟩ := ih (k + 1) (addA adj k a b) (by omega) (by rw [toF_snoc hkl, ha, hb]; exact st)
    refine ⟨adj', ?_, g2⟩
    rw [impl_newResidual_l0_eq]
    unfold impl_newResidual_l0K
    have tl : (toF (X.take k)).length = 2 * k := by rw [toF_len, List.length_take]; omega
    have ll : (leF (X.take k)).length = 2 * k := by rw [leF_len, List.length_take]; omega
    have wk : IntKind.i64.wrap ((k : Int) + 1) = ((k + 1 : Nat) : Int) := by rw [wr (by omega) (by omega)]; omega
    have w1 : IntKind.i64.wrap (((2 * k : Nat) : Int) + 1) = ((2 * k + 1 : Nat) : Int) := by rw [wr (by omega) (by omega)]; omega
    have q1 := h.adb a
    have q2 := h.adb b
    have hla : (adj.set a (adj.getD a [] ++ [((2 * k : Nat) : Int)])).length = adj.length := by simp
    have hlb : ((adj.set a (adj.getD a [] ++ [((2 * k : Nat) : Int)])).getD b []).length ≤ 2 * k + 1 := by
      by_cases c : a = b
      · subst c; rw [gs_eq hal]; simp; simpa using q1
      · rw [gs_ne c]; omega
    have c1 : decide ((adj.getD a []).length + [((2 * k : Nat) : Int)].length ≤ 1099511627776) = true := decide_eq_true (by simp only [List.length_singleton]; omega)
    have c2 : decide (((adj.set a (adj.getD a [] ++ [((2 * k : Nat) : Int)])).getD b []).length + [((2 * k + 1 : Nat) : Int)].length ≤ 1099511627776) = true := decide_eq_true (by simp only [List.length_singleton]; omega)
    have c3 : ∀ p q : Int, decide ((toF (X.take k)).length + [p, q].length ≤ 1099511627776) = true := fun p q => decide_eq_true (by rw [tl]; simp only [List.length_cons, List.length_nil]; omega)
    have c4 : ∀ p q : Int, decide ((leF (X.take k)).length + [p, q].length ≤ 1099511627776) = true := fun p q => decide_eq_true (by rw [ll]; simp only [List.length_cons, List.length_nil]; omega)
    have c5 := dl hkl
    have tl' : ((toF (X.take k)).length : Int) = ((2 * k : Nat) : Int) := by rw [tl]
    rw [toF_snoc hkl, leF_snoc hkl, ha, hb] at g1
    simp only [c3, c4]
    simp only [c5, cond_true, lat_nat hkl, Option.bind_some, ha, hb, dz, dl hal, dl hbl, hla, Bool.and_self, tz, Nat.zero_add, de, tl', c1, w1, c2, wk]
    exact g1
theorem start_l0 {n : Nat} {X : List DEdge} (hX : EOk n X) : ∀ (j k : Nat) (adj : List (List Int)), k + j = X.length → NK n k (toF (X.take k)) adj →
    ∃ adj', spec_mfStart_l0 X (X.length : Int) (k : Int) (toF (X.take k)) (leF (X.take k)) adj = some (toF X, (leF X, adj')) ∧ NK n X.length (toF X) adj' := by
  intro j
  have hlen := hX.len
  induction j with
  | zero =>
    intro k adj hk h
    have e1 : X.take k = X := List.take_of_length_le (by omega)
    rw [e1] at h ⊢
    have : k = X.length := by omega
    subst this
    refine ⟨adj, ?_, h⟩
    rw [spec_mfStart_l0_eq]
    unfold spec_mfStart_l0K
    simp
  | succ j ih =>
    intro k adj hk h
    have hkl : k < X.length := by omega
    obtain ⟨⟨r1, r2⟩, ⟨r3, r4⟩, r5, r6⟩ := hX.ran _ (List.getElem_mem hkl)
    obtain ⟨a, ha⟩ : ∃ a : Nat, X[k].1 = (a : Int) := ⟨X[k].1.toNat, by omega⟩
    obtain ⟨b, hb⟩ : ∃ b : Nat, X[k].2.1 = (b : Int) := ⟨X[k].2.1.toNat, by omega⟩
    have han : a < n := by omega
    have hbn : b < n := by omega
    have hal : a < adj.length := by rw [h.adl]; exact han
    have hbl : b < adj.length := by rw [h.adl]; exact hbn
    have st := h.step han hbn
    obtain ⟨adj', g1, g2⟩ := ih (k + 1) (addA adj k a b) (by omega) (by rw [toF_snoc hkl, ha, hb]; exact st)
    refine ⟨adj', ?_, g2⟩
    rw [spec_mfStart_l0_eq]
    unfold spec_mfStart_l0K
    have tl : (toF (X.take k)).length = 2 * k := by rw [toF_len, List.length_take]; omega
    have ll : (leF (X.take k)).length = 2 * k := by rw [leF_len, List.length_take]; omega
    have wk : IntKind.i64.wrap ((k : Int) + 1) = ((k + 1 : Nat) : Int) := by rw [wr (by omega) (by omega)]; omega
    have w0 : IntKind.i64.wrap (2 * (k : Int)) = ((2 * k : Nat) : Int) := by rw [wr (by omega) (by omega)]; omega
    have w1 : IntKind.i64.wrap (((2 * k : Nat) : Int) + 1) = ((2 * k + 1 : Nat) : Int) := by rw [wr (by omega) (by omega)]; omega
    have q1 := h.adb a
    have q2 := h.adb b
    have hla : (adj.set a (adj.getD a [] ++ [((2 * k : Nat) : Int)])).length = adj.length := by simp
    have hlb : ((adj.set a (adj.getD a [] ++ [((2 * k : Nat) : Int)])).getD b []).length ≤ 2 * k + 1 := by
      by_cases c : a = b
      · subst c; rw [gs_eq hal]; simp; simpa using q1
      · rw [gs_ne c]; omega
    have c1 : decide ((adj.getD a []).length + [((2 * k : Nat) : Int)].length ≤ 1099511627776) = true := decide_eq_true (by simp only [List.length_singleton]; omega)
    have c2 : decide (((adj.set a (adj.getD a [] ++ [((2 * k : Nat) : Int)])).getD b []).length + [((2 * k + 1 : Nat) : Int)].length ≤ 1099511627776) = true := decide_eq_true (by simp only [List.length_singleton]; omega)
    have c3 : ∀ p q : Int, decide ((toF (X.take k)).length + [p, q].length ≤ 1099511627776) = true := fun p q => decide_eq_true (by rw [tl]; simp only [List.length_cons, List.length_nil]; omega)
    have c4 : ∀ p q : Int, decide ((leF (X.take k)).length + [p, q].length ≤ 1099511627776) = true := fun p q => decide_eq_true (by rw [ll]; simp only [List.length_cons, List.length_nil]; omega)
    have c5 := dl hkl
    rw [toF_snoc hkl, leF_snoc hkl, ha, hb] at g1
    simp only [c3, c4]
    simp only [c5, cond_true, lat_nat hkl, Option.bind_some, ha, hb, dz, dl hal, dl hbl, hla, Bool.and_self, tz, Nat.zero_add, de, w0, c1, w1, c2, wk]
    exact g1
theorem cut_i {n : Nat} {X : List DEdge} (hX : EOk n X) : ∃ r0 z r1 sn r2, impl_newResidual (n : Int) X = some r0 ∧ impl_residual_run r0 = some (z, r1) ∧ impl_residual_fromSource r1 = some (sn, r2) ∧ sn.length = n ∧ Least n (eds X) fun z => sn.getD z.toNat false := by
  obtain ⟨adj, g1, g2⟩ := new_l0 hX X.length 0 (List.replicate n []) (by omega) (by rw [List.take_zero]; exact nk0 n)
  have hN := g2.ok hX
  have hF := FL.start hX adj
  obtain ⟨z, l', lv', x', r1, r2, t, ht, hs, hsrc⟩ := run_i hN _ 0 (leF X) [] [] (Nat.le_refl _) hF
  refine ⟨(adj, (toF X, (leF X, ([], [])))), z, (adj, (toF X, (l', (lv', x')))), t.sn, (adj, (toF X, (l', (t.lv, x')))), ?_, ?_, hsrc _ _, ht.bi.snl, ?_⟩
  · unfold impl_newResidual impl_newResidualK
    have c1 : decide ((n : Int) ≤ 1099511627776) = true := decide_eq_true (by have := hX.nb; omega)
    have c2 : decide ((n : Int) ≤ (n : Int)) = true := decide_eq_true (by omega)
    simp only [dz, c1, c2, Bool.and_self, cond_true, Option.bind_some, tz]
    have g1 : impl_newResidual_l0 X (X.length : Int) 0 (List.replicate n []) [] [] = _ := g1
    rw [g1]; rfl
  · unfold impl_residual_run impl_residual_runK
    have r1 : impl_residual_run_l0 0 adj (toF X) (leF X) [] [] = _ := r1
    simp only [r1, Option.bind_some]
  · have := ht.least hN r2.wl r2.ex hs
    rw [r2.en] at this
    exact this
theorem filter_take {n : Nat} {S : Nat → Bool} {k : Nat} (h : k < n) : ((List.range (k + 1)).filter S).map (fun i : Nat => (i : Int)) = ((List.range k).filter S).map (fun i : Nat => (i : Int)) ++ (if S k = true then [(k : Int)] else []) := by
  rw [List.range_succ, List.filter_append, List.map_append]
  congr 1
  by_cases c : S k = true
  · simp [c]
  · simp [c]
theorem cut_s {n : Nat} {X : List DEdge} (hX : EOk n X) : ∃ sn : List Bool, sn.length = n ∧ Least n (eds X) (fun z => sn.getD z.toNat false) ∧ spec_mfLeast (n : Int) X = some (((List.range n).filter fun i => sn.getD i false).map fun i : Nat => (i : Int)) := by
  obtain ⟨adj, g1, g2⟩ := start_l0 hX X.length 0 (List.replicate n []) (by omega) (by rw [List.take_zero]; exact nk0 n)
  have hN := g2.ok hX
  have hF := FL.start hX adj
  have hnb := hX.nb
  obtain ⟨z, l', r1, r2, t, d, ht, hs, hdc, hsrc⟩ := run_s hN _ 0 (leF X) (Nat.le_refl _) hF
  have hl : t.sn.length = n := ht.bi.snl
  have hdl : d.length = n := hdc.len
  refine ⟨t.sn, hl, ?_, ?_⟩
  · have := ht.least hN r2.wl r2.ex hs
    rw [r2.en] at this
    exact this
  · unfold spec_mfLeast spec_mfLeastK spec_mfStart spec_mfStartK spec_mfState_run spec_mfState_runK
    have c1 : decide ((n : Int) ≤ 1099511627776) = true := decide_eq_true (by omega)
    have c2 : decide ((n : Int) ≤ (n : Int)) = true := decide_eq_true (by omega)
    have g1 : spec_mfStart_l0 X (X.length : Int) 0 [] [] (List.replicate n []) = _ := g1
    have r1 : spec_mfState_run_l0 0 (n : Int) (toF X) adj (leF X) = _ := r1
    have hsrc : spec_mfState_levels ((n : Int), (toF X, (l', adj))) = some (d, ((n : Int), (toF X, (l', adj)))) := hsrc
    simp only [dz, c1, c2, Bool.and_self, cond_true, Option.bind_some, tz, g1, r1, hsrc, hdl]
    have key : ∀ i, i ≤ n → spec_mfLeast_l0 (n : Int) d (i : Int) (((List.range i).filter fun i => t.sn.getD i false).map fun i : Nat => (i : Int)) = some (((List.range n).filter fun i => t.sn.getD i false).map fun i : Nat => (i : Int)) := by
      refine down ?_ fun i hi ih => ?_
      · rw [spec_mfLeast_l0_eq]
        unfold spec_mfLeast_l0K
        simp
      · rw [spec_mfLeast_l0_eq]
        unfold spec_mfLeast_l0K
        have wk : IntKind.i64.wrap ((i : Int) + 1) = ((i + 1 : Nat) : Int) := by rw [wr (by omega) (by omega)]; omega
        have hd := hdc.get i hi
        have hb := ht.bi.all i hi
        rw [filter_take hi] at ih
        simp only [dl hi, cond_true, dz, hdl, Bool.and_self, tz, Nat.zero_add, wk]
        cases hs : t.sn.getD i false with
        | true =>
          rw [hs, if_pos rfl] at hd
          have : decide (d.getD i 0 ≥ 0) = true := decide_eq_true (by omega)
          have hlen : ((List.range i).filter fun i => t.sn.getD i false).length ≤ i := by
            have := List.length_filter_le (fun i => t.sn.getD i false) (List.range i)
            simpa using this
          have hc : decide ((((List.range i).filter fun i => t.sn.getD i false).map fun i : Nat => (i : Int)).length + [(i : Int)].length ≤ 1099511627776) = true := decide_eq_true (by simp only [List.length_map, List.length_singleton]; omega)
          simp only [this, cond_true, hc]
          rw [hs, if_pos rfl] at ih
          exact ih
        | false =>
          rw [hs, if_neg (by simp)] at hd
          have : decide (d.getD i 0 ≥ 0) = false := decide_eq_false (by omega)
          simp only [this, cond_false]
          rw [hs, if_neg (by simp), List.append_nil] at ih
          exact ih
    have := key 0 (Nat.zero_le _)
    have this : spec_mfLeast_l0 (n : Int) d 0 [] = _ := this
    rw [this]
    rfl
end
noncomputable section
def sm : Nat → (Nat → Int) → Int
  | 0, _ => 0
  | n + 1, f => sm n f + f n
theorem sm_congr {f g : Nat → Int} : ∀ n, (∀ i, i < n → f i = g i) → sm n f = sm n g
  | 0, _ => rfl
  | n + 1, h => by
    simp only [sm]
    rw [sm_congr n fun i hi => h i (by omega), h n (by omega)]
theorem cap_append (T : Int → Bool) : ∀ A B : List (Int × Int × Int), capS T (A ++ B) = capS T A + capS T B
  | [], B => by simp [capS]
  | e :: A, B => by
    simp only [List.cons_append, capS, cap_append T A B]; omega
theorem eds_append (A B : List DEdge) : eds (A ++ B) = eds A ++ eds B := by simp [eds]
theorem cap_flat (T : Int → Bool) (f : Nat → List DEdge) : ∀ n, capS T (eds ((List.range n).flatMap f)) = sm n fun i => capS T (eds (f i))
  | 0 => rfl
  | n + 1 => by
    rw [List.range_succ, List.flatMap_append, eds_append, cap_append, cap_flat T f n]
    simp [sm]
structure Gr where
  n : Nat
  P : Nat
  arcs : Nat → List Nat
  v : Nat → Nat → Int
variable (g : Gr)
def eV (nd : Nat → Nat → Int) (z : Int) (i t : Nat) : List DEdge :=
  if 0 < g.v i t then [(0, nd i t, g.v i t, ())] else if g.v i t < 0 then [(nd i t, z, - g.v i t, ())] else []
def eA (nd : Nat → Nat → Int) (B : Int) (i t : Nat) : List DEdge := (g.arcs i).map fun k => (nd i t, nd k t, B, ())
def pf (Q : Nat → Nat → Bool) (i t : Nat) : Int := if 0 < g.v i t then (if Q i t then 0 else g.v i t) else if g.v i t < 0 then (if Q i t then - g.v i t else 0) else 0
def cntA (Q : Nat → Nat → Bool) (i t : Nat) : List Nat → Int
  | [] => 0
  | k :: l => cntA Q i t l + (if Q i t = true ∧ Q k t = false then 1 else 0)
def pv (Q : Nat → Nat → Bool) (i t : Nat) : Int := (if t + 1 < g.P then (if Q i t = true ∧ Q i (t + 1) = false then 1 else 0) else 0) + cntA Q i t (g.arcs i)
theorem cntA_nn {Q : Nat → Nat → Bool} {i t : Nat} : ∀ l, 0 ≤ cntA Q i t l
  | [] => Int.le_refl _
  | k :: l => by
    have := cntA_nn (Q := Q) (i := i) (t := t) l
    simp only [cntA]; split <;> omega
variable {g}
theorem cap_v {T : Int → Bool} {nd : Nat → Nat → Int} {z : Int} (h0 : T 0 = true) (hz : T z = false) (i t : Nat) : capS T (eds (eV g nd z i t)) = pf g (fun i t => T (nd i t)) i t := by
  unfold eV pf
  split
  · cases hq : T (nd i t) <;> simp [eds, capS, h0, hq]
  · split
    · cases hq : T (nd i t) <;> simp [eds, capS, hz, hq]
    · rfl
theorem cap_a {T : Int → Bool} {nd : Nat → Nat → Int} {B : Int} (i t : Nat) : ∀ l : List Nat, capS T (eds (l.map fun k => ((nd i t, nd k t, B, ()) : DEdge))) = B * cntA (fun i t => T (nd i t)) i t l
  | [] => by simp [eds, capS, cntA]
  | k :: l => by
    have ih := cap_a (T := T) (nd := nd) (B := B) i t l
    simp only [List.map_cons, eds, capS, cntA] at ih ⊢
    rw [ih, Int.mul_add]
    split <;> simp
variable (g)
def nS (i t : Nat) : Int := ((t * g.n + i + 1 : Nat) : Int)
def zN : Int := ((g.n * g.P + 1 : Nat) : Int)
variable {g}
theorem cntA_congr {Q R : Nat → Nat → Bool} {i t : Nat} (h : Q i t = R i t) : ∀ l : List Nat, (∀ k ∈ l, Q k t = R k t) → cntA Q i t l = cntA R i t l
  | [], _ => rfl
  | k :: l, hl => by
    simp only [cntA]
    rw [cntA_congr h l fun x hx => hl x (List.mem_cons_of_mem _ hx), h, hl k List.mem_cons_self]
end
end Go.OAI
