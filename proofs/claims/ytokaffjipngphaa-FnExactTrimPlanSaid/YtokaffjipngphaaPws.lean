/- The reference's network and its residual: pushing and walking by breadth, as relations. -/
import Derived.Test.YtokaffjipngphaaPri
namespace Go.OAI
set_option linter.unusedVariables false
noncomputable section

variable {N : Net} {lv : List Int} {b : Bool} {v e : Nat} {most s : Int} {l x l' x' : List Int}
theorem least_eq (a c : Int) : spec_l1Least a c = some (min a c) := by
  unfold spec_l1Least spec_l1LeastK
  by_cases h : a < c
  · simp [h]; omega
  · simp [h]; omega
abbrev spush := fun x : (Int × (List Int) × (List Int) × (List (List Int))) × Int × Int × (List Int) × (List Int) => spec_mfState_push x.1 x.2.1 x.2.2.1 x.2.2.2.1 x.2.2.2.2
theorem push_s (hN : N.Ok) (hw : WV0 N lv) (h : Dn N (fun u => lv.getD u 0) b v most l x s l' x') : v < N.n → WL N l → WX N x → 0 ≤ most → most ≤ 2305843009213693952 →
    match b with
    | false => spec_mfState_push ((N.n : Int), (N.to, (l, N.adj))) (v : Int) most lv x = some (s, (((N.n : Int), (N.to, (l', N.adj))), x'))
    | true => spec_mfState_push_l0 spush (v : Int) most lv (N.n : Int) N.to N.adj l x = ps2 s (s, ((N.n : Int), (N.to, (N.adj, (l', x'))))) ((N.n : Int), (N.to, (N.adj, (l', x')))) := by
  have hn := hN.n2
  have hnb := hN.nb
  induction h with
  | sink =>
    intro hv hl hx h0 h1
    rw [spec_mfState_push_eq]
    unfold spec_mfState_pushK
    have : IntKind.i64.wrap ((N.n : Int) - 1) = ((N.n - 1 : Nat) : Int) := by rw [wr (by omega) (by omega)]; omega
    simp only [this, beq_self_eq_true, cond_true]
  | @loop v most s l x l' x' hne hd ih =>
    intro hv hl hx h0 h1
    have ih := ih hv hl hx h0 h1
    have hs := (hd.wf hN hv hl hx h0).2.2.1
    rw [spec_mfState_push_eq]
    unfold spec_mfState_pushK
    have e1 : IntKind.i64.wrap ((N.n : Int) - 1) = ((N.n - 1 : Nat) : Int) := by rw [wr (by omega) (by omega)]; omega
    have e2 : ((v : Int) == ((N.n - 1 : Nat) : Int)) = false := by simp; omega
    simp only [e1, e2, cond_false]
    have ih : spec_mfState_push_l0 (fun x => spec_mfState_push x.1 x.2.1 x.2.2.1 x.2.2.2.1 x.2.2.2.2) (v : Int) most lv (N.n : Int) N.to N.adj l x = _ := ih
    rw [ih]
    unfold ps2
    by_cases c : 0 < s
    · simp only [c, if_true, Option.bind_some, sumO]
    · have : s = 0 := by omega
      subst this
      simp [sumO]
  | @done v most l x hd =>
    intro hv hl hx h0 h1
    show _ = _
    rw [spec_mfState_push_l0_eq]
    unfold spec_mfState_push_l0K
    have f2 := dl (n := x.length) (by rw [hx.len]; exact hv)
    have f3 : decide (x.getD v 0 < ((N.ad v).length : Int)) = false := by simp; simpa using hd
    simp only [dz, f2, Bool.and_self, cond_true, lat_adj hN hv, Option.bind_some, tz, Nat.zero_add, f3, cond_false, ps2]
    simp
  | @skip v e most s l x l' x' he hu hd ih =>
    intro hv hl hx h0 h1
    have ih := ih hv hl (hx.bump he) h0 h1
    show _ = _
    obtain ⟨e1, e2⟩ := hN.edge he
    have hlt := he.lt
    have hx0 := hx.ge v hv
    have hab := hN.adb v
    have f2 := dl (n := x.length) (by rw [hx.len]; exact hv)
    have f3 : decide (x.getD v 0 < ((N.ad v).length : Int)) = true := by simpa using hlt
    have f5 := dl (i := e) (n := l.length) (by rw [hl.len]; exact e1)
    have hh := hN.hd_lt e1
    have f8 := dl (i := N.hd e) (n := lv.length) (by rw [hw.len]; exact hh)
    have f9 := dl (i := v) (n := lv.length) (by rw [hw.len]; exact hv)
    have hb1 := hw.lo v hv
    have hb2 := hw.hi v hv
    have w1 : IntKind.i64.wrap (x.getD v 0 + 1) = x.getD v 0 + 1 := wr (by omega) (by omega)
    have w2 : IntKind.i64.wrap (lv.getD v 0 + 1) = lv.getD v 0 + 1 := wr (by omega) (by omega)
    rw [spec_mfState_push_l0_eq]
    unfold spec_mfState_push_l0K
    simp only [dz, f2, Bool.and_self, cond_true, lat_adj hN hv, Option.bind_some, tz, Nat.zero_add, f3, lat_ed he, f5, lat_to hN e1, lat_lv hw hh, lat_lv hw hv, w1, w2]
    by_cases c : l.getD e 0 = 0
    · have : (l.getD e 0 == 0) = true := by simpa using c
      simp only [this, cond_true]
      exact ih
    · have q1 : (l.getD e 0 == 0) = false := by simpa using c
      have q2 : (lv.getD (N.hd e) 0 != lv.getD v 0 + 1) = true := by
        rcases hu with g | g
        · exact absurd g c
        · simpa using g
      simp only [q1, cond_false, q2, cond_true]
      exact ih
  | @sent v e most s l x l1 x1 he hne hlv hd hs ih =>
    intro hv hl hx h0 h1
    obtain ⟨e1, e2⟩ := hN.edge he
    have hle := hl.ge e e1
    have hle2 := hl.le e e1
    have hlm := hl.ge _ (mate_lt e1)
    have hh := hN.hd_lt e1
    have ih := ih hh hl hx (by omega) (by omega)
    obtain ⟨g1, g2, g3, g4⟩ := hd.wf hN hh hl hx (by omega)
    have hk := hd.keepl hN e (by rw [e2]; omega) (by rw [e2]; omega)
    show _ = _
    have hlt := he.lt
    have hx0 := hx.ge v hv
    have hab := hN.adb v
    have f2 := dl (n := x.length) (by rw [hx.len]; exact hv)
    have f3 : decide (x.getD v 0 < ((N.ad v).length : Int)) = true := by simpa using hlt
    have f5 := dl (i := e) (n := l.length) (by rw [hl.len]; exact e1)
    have f8 := dl (i := N.hd e) (n := lv.length) (by rw [hw.len]; exact hh)
    have f9 := dl (i := v) (n := lv.length) (by rw [hw.len]; exact hv)
    have hb1 := hw.lo v hv
    have hb2 := hw.hi v hv
    have w2 : IntKind.i64.wrap (lv.getD v 0 + 1) = lv.getD v 0 + 1 := wr (by omega) (by omega)
    have q1 : (l.getD e 0 == 0) = false := by simpa using hne
    have q2 : (lv.getD (N.hd e) 0 != lv.getD v 0 + 1) = false := by simpa using hlv
    have q3 := least_eq most (l.getD e 0)
    have q4 : decide (s > 0) = true := by simpa using hs
    have f10 := dl (i := e) (n := l1.length) (by rw [g1.len]; exact e1)
    have hme := mate_lt e1
    have k1 := g1.ge e e1
    have k2 := g1.le e e1
    have k3 := g1.ge _ hme
    have w3 : IntKind.i64.wrap (l1.getD e 0 - s) = l1.getD e 0 - s := wr (by omega) (by omega)
    have f11 := dl (i := mate e) (n := (l1.set e (l1.getD e 0 - s)).length) (by rw [List.length_set, g1.len]; exact hme)
    have w4 : (l1.set e (l1.getD e 0 - s)).getD (mate e) 0 = l1.getD (mate e) 0 := gs_ne (Ne.symm (mate_ne e))
    have w5 : IntKind.i64.wrap (l1.getD (mate e) 0 + s) = l1.getD (mate e) 0 + s := wr (by omega) (by omega)
    have hx1 : xorI .i64 (e : Int) 1 = (mate e : Int) := xorI_one (by have := hN.mb; omega)
    have ih : spec_mfState_push ((N.n : Int), (N.to, (l, N.adj))) (N.hd e : Int) (min most (l.getD e 0)) lv x = _ := ih
    rw [spec_mfState_push_l0_eq]
    unfold spec_mfState_push_l0K
    simp only [dz, f2, Bool.and_self, cond_true, lat_adj hN hv, Option.bind_some, tz, Nat.zero_add, f3, lat_ed he, f5, lat_to hN e1, lat_lv hw hh, lat_lv hw hv, w2, q1, q2, cond_false, q3, ih, q4, f10, w3, hx1, f11, w4, w5]
    simp only [ps2, hs, if_true]
    rfl
  | @zero v e most s l x l1 x1 l' x' he hne hlv hd hd2 ih ih2 =>
    intro hv hl hx h0 h1
    obtain ⟨e1, e2⟩ := hN.edge he
    have hle := hl.ge e e1
    have hle2 := hl.le e e1
    have hlm := hl.ge _ (mate_lt e1)
    have hh := hN.hd_lt e1
    have ih := ih hh hl hx (by omega) (by omega)
    obtain ⟨g1, g2, g3, g4⟩ := hd.wf hN hh hl hx (by omega)
    have hk' := hd.keepx v (by omega)
    have he' : N.ed v (x1.getD v 0) e := by rw [hk']; exact he
    have ih2 := ih2 hv g1 (g2.bump he') h0 h1
    show _ = _
    have hlt := he.lt
    have hx0 := hx.ge v hv
    have hab := hN.adb v
    have f2 := dl (n := x.length) (by rw [hx.len]; exact hv)
    have f2' := dl (n := x1.length) (by rw [g2.len]; exact hv)
    have f3 : decide (x.getD v 0 < ((N.ad v).length : Int)) = true := by simpa using hlt
    have f5 := dl (i := e) (n := l.length) (by rw [hl.len]; exact e1)
    have f8 := dl (i := N.hd e) (n := lv.length) (by rw [hw.len]; exact hh)
    have f9 := dl (i := v) (n := lv.length) (by rw [hw.len]; exact hv)
    have hb1 := hw.lo v hv
    have hb2 := hw.hi v hv
    have w2 : IntKind.i64.wrap (lv.getD v 0 + 1) = lv.getD v 0 + 1 := wr (by omega) (by omega)
    have q1 : (l.getD e 0 == 0) = false := by simpa using hne
    have q2 : (lv.getD (N.hd e) 0 != lv.getD v 0 + 1) = false := by simpa using hlv
    have q3 := least_eq most (l.getD e 0)
    have q4 : decide ((0 : Int) > 0) = false := by simp
    have w1 : IntKind.i64.wrap (x1.getD v 0 + 1) = x1.getD v 0 + 1 := wr (by omega) (by omega)
    have ih : spec_mfState_push ((N.n : Int), (N.to, (l, N.adj))) (N.hd e : Int) (min most (l.getD e 0)) lv x = _ := ih
    rw [spec_mfState_push_l0_eq]
    unfold spec_mfState_push_l0K
    simp only [dz, f2, f2', Bool.and_self, cond_true, lat_adj hN hv, Option.bind_some, tz, Nat.zero_add, f3, lat_ed he, f5, lat_to hN e1, lat_lv hw hh, lat_lv hw hv, w2, q1, q2, cond_false, q3, ih, q4, w1]
    exact ih2
end
end Go.OAI
