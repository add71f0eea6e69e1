/- Walking a network by breadth: what is reached, and the levels. -/
import Derived.Test.YtokaffjipngphaaPdn
namespace Go.OAI
set_option linter.unusedVariables false
noncomputable section

structure Bf where
  sn : List Bool
  lv : List Int
  L : List Int
def scan1 (N : Net) (l : List Int) (v : Nat) (t : Bf) (y : Int) : Bf :=
  if 0 < l.getD y.toNat 0 ∧ t.sn.getD (N.hd y.toNat) false = false then
    ⟨t.sn.set (N.hd y.toNat) true, t.lv.set (N.hd y.toNat) (t.lv.getD v 0 + 1), t.L ++ [(N.hd y.toNat : Int)]⟩
  else t
def scan (N : Net) (l : List Int) (v : Nat) (t : Bf) (es : List Int) : Bf := es.foldl (scan1 N l v) t
structure BI (N : Net) (l : List Int) (t : Bf) : Prop where
  snl : t.sn.length = N.n
  lvl : t.lv.length = N.n
  ran : ∀ y ∈ t.L, ∃ u : Nat, y = (u : Int) ∧ u < N.n
  cnt : t.L.length = t.sn.count true
  mem : ∀ u, u < N.n → (t.sn.getD u false = true ↔ (u : Int) ∈ t.L)
  zin : (0 : Int) ∈ t.L
  prd : ∀ u : Nat, (u : Int) ∈ t.L → u = 0 ∨ ∃ v e : Nat, (v : Int) ∈ t.L ∧ (e : Int) ∈ N.ad v ∧ 0 < l.getD e 0 ∧ N.hd e = u ∧ t.lv.getD u 0 = t.lv.getD v 0 + 1
  lv0 : t.lv.getD 0 0 = 0
  bnd : ∀ u : Nat, (u : Int) ∈ t.L → 0 ≤ t.lv.getD u 0 ∧ t.lv.getD u 0 < (t.L.length : Int)
  all : ∀ u : Nat, u < N.n → 0 ≤ t.lv.getD u 0 ∧ t.lv.getD u 0 ≤ (t.L.length : Int)
def Cl (N : Net) (l : List Int) (t : Bf) (v : Nat) : Prop := ∀ e : Nat, (e : Int) ∈ N.ad v → 0 < l.getD e 0 → t.sn.getD (N.hd e) false = true

variable {N : Net} {l : List Int} {t t' : Bf} {v : Nat}
theorem BI.len (h : BI N l t) : t.L.length ≤ N.n := by
  rw [h.cnt, ← h.snl]; exact List.count_le_length
theorem scan1_ok (hN : N.Ok) (h : BI N l t) (hv : (v : Int) ∈ t.L) {e : Nat} (he : (e : Int) ∈ N.ad v) :
    BI N l (scan1 N l v t e) ∧ (0 < l.getD e 0 → (scan1 N l v t e).sn.getD (N.hd e) false = true) ∧ (∀ u, t.sn.getD u false = true → (scan1 N l v t e).sn.getD u false = true) ∧ ∃ r, (scan1 N l v t e).L = t.L ++ r := by
  obtain ⟨e', h1, h2, h3⟩ := hN.adm v _ he
  have : e = e' := by omega
  subst this
  have hh := hN.hd_lt h2
  unfold scan1
  simp only [Int.toNat_natCast]
  by_cases c : 0 < l.getD e 0 ∧ t.sn.getD (N.hd e) false = false
  · rw [if_pos c]
    obtain ⟨c1, c2⟩ := c
    have hnew : ¬ (N.hd e : Int) ∈ t.L := fun hm => by rw [← h.mem _ hh] at hm; rw [hm] at c2; cases c2
    have hsl : N.hd e < t.sn.length := by rw [h.snl]; exact hh
    have hll : N.hd e < t.lv.length := by rw [h.lvl]; exact hh
    have keep : ∀ u : Nat, (u : Int) ∈ t.L → (t.lv.set (N.hd e) (t.lv.getD v 0 + 1)).getD u 0 = t.lv.getD u 0 := fun u hu => gs_ne fun c => hnew (by rw [c]; exact hu)
    refine ⟨⟨by simpa using h.snl, by simpa using h.lvl, ?_, ?_, ?_, List.mem_append_left _ h.zin, ?_, ?_, ?_, ?_⟩, fun _ => gs_eq hsl, fun u hu => ?_, _, rfl⟩
    · intro y hy
      rcases List.mem_append.1 hy with hy | hy
      · exact h.ran y hy
      · exact ⟨N.hd e, by simpa using hy, hh⟩
    · have hg : t.sn[N.hd e] = false := by simpa [List.getD_eq_getElem?_getD, List.getElem?_eq_getElem hsl] using c2
      show (t.L ++ [(N.hd e : Int)]).length = (t.sn.set (N.hd e) true).count true
      rw [List.count_set hsl, hg, List.length_append, h.cnt]
      simp
    · intro u hu
      by_cases c : N.hd e = u
      · subst c
        exact ⟨fun _ => by simp, fun _ => gs_eq hsl⟩
      · rw [gs_ne c, h.mem u hu]
        simp only [List.mem_append, List.mem_singleton]
        constructor
        · exact .inl
        · rintro (g | g)
          · exact g
          · omega
    · intro u hu
      rcases List.mem_append.1 hu with hu | hu
      · rcases h.prd u hu with g | ⟨w, f, g1, g2, g3, g4, g5⟩
        · exact .inl g
        · exact .inr ⟨w, f, List.mem_append_left _ g1, g2, g3, g4, by show (t.lv.set _ _).getD u 0 = (t.lv.set _ _).getD w 0 + 1; rw [keep u hu, keep w g1, g5]⟩
      · have : u = N.hd e := by have : (u : Int) = (N.hd e : Int) := by simpa using hu
                                omega
        subst this
        exact .inr ⟨v, e, List.mem_append_left _ hv, he, c1, rfl, by show (t.lv.set _ _).getD _ 0 = (t.lv.set _ _).getD v 0 + 1; rw [keep v hv, gs_eq hll]⟩
    · show (t.lv.set _ _).getD 0 0 = 0
      rw [keep 0 h.zin, h.lv0]
    · intro u hu
      show 0 ≤ (t.lv.set _ _).getD u 0 ∧ (t.lv.set _ _).getD u 0 < ((t.L ++ [(N.hd e : Int)]).length : Int)
      rw [List.length_append, List.length_singleton]
      rcases List.mem_append.1 hu with hu | hu
      · rw [keep u hu]
        have := h.bnd u hu; omega
      · have : u = N.hd e := by have : (u : Int) = (N.hd e : Int) := by simpa using hu
                                omega
        subst this
        rw [gs_eq hll]
        have := h.bnd v hv; omega
    · intro u hu
      show 0 ≤ (t.lv.set _ _).getD u 0 ∧ (t.lv.set _ _).getD u 0 ≤ ((t.L ++ [(N.hd e : Int)]).length : Int)
      rw [List.length_append, List.length_singleton]
      by_cases c : N.hd e = u
      · subst c
        rw [gs_eq hll]
        have := h.bnd v hv; omega
      · rw [gs_ne c]
        have := h.all u hu; omega
    · by_cases c : N.hd e = u
      · subst c; exact gs_eq hsl
      · show (t.sn.set _ _).getD u false = true
        rw [gs_ne c]; exact hu
  · rw [if_neg c]
    refine ⟨h, fun hl => ?_, fun u hu => hu, [], by simp⟩
    cases hs : t.sn.getD (N.hd e) false with
    | true => rfl
    | false => exact absurd ⟨hl, hs⟩ c
theorem scan_ok (hN : N.Ok) : ∀ (es : List Int) (t : Bf), BI N l t → (v : Int) ∈ t.L → (∀ y ∈ es, y ∈ N.ad v) →
    BI N l (scan N l v t es) ∧ (∀ e : Nat, (e : Int) ∈ es → 0 < l.getD e 0 → (scan N l v t es).sn.getD (N.hd e) false = true) ∧ (∀ u, t.sn.getD u false = true → (scan N l v t es).sn.getD u false = true) ∧ ∃ r, (scan N l v t es).L = t.L ++ r
  | [], t, h, _, _ => ⟨h, fun e he => by simp at he, fun _ hu => hu, [], by simp [scan]⟩
  | y :: es, t, h, hv, hs => by
    obtain ⟨e, he, _, _⟩ := hN.adm v y (hs y List.mem_cons_self)
    subst he
    obtain ⟨a1, a2, a3, r, a4⟩ := scan1_ok hN h hv (hs _ List.mem_cons_self)
    obtain ⟨b1, b2, b3, r', b4⟩ := scan_ok hN es (scan1 N l v t e) a1 (by rw [a4]; exact List.mem_append_left _ hv) fun y hy => hs y (List.mem_cons_of_mem _ hy)
    show BI N l (scan N l v (scan1 N l v t e) es) ∧ _
    refine ⟨b1, fun f hf hl => ?_, fun u hu => b3 u (a3 u hu), r ++ r', by show (scan N l v (scan1 N l v t e) es).L = _; rw [b4, a4, List.append_assoc]⟩
    rcases List.mem_cons.1 hf with g | g
    · have : f = e := by omega
      subst this
      exact b3 _ (a2 hl)
    · exact b2 f g hl
inductive Bs (N : Net) (l : List Int) : Nat → Bf → Bf → Prop
  | stop {i : Nat} {t : Bf} : t.L.length ≤ i → Bs N l i t t
  | step {i v : Nat} {t t' : Bf} : t.L[i]? = some (v : Int) → Bs N l (i + 1) (scan N l v t (N.ad v)) t' → Bs N l i t t'
theorem bs_total (hN : N.Ok) : ∀ (k i : Nat) (t : Bf), N.n - i ≤ k → BI N l t → ∃ t', Bs N l i t t' := by
  intro k
  induction k with
  | zero => intro i t hk h; exact ⟨t, .stop (by have := h.len; omega)⟩
  | succ k ih =>
    intro i t hk h
    by_cases c : t.L.length ≤ i
    · exact ⟨t, .stop c⟩
    · have hi : i < t.L.length := by omega
      obtain ⟨v, h1, h2⟩ := h.ran _ (List.getElem_mem hi)
      have hm : (v : Int) ∈ t.L := by rw [← h1]; exact List.getElem_mem hi
      have hlen := h.len
      obtain ⟨t', ht⟩ := ih (i + 1) (scan N l v t (N.ad v)) (by omega) (scan_ok hN _ t h hm fun _ h => h).1
      exact ⟨t', .step (by rw [List.getElem?_eq_getElem hi, h1]) ht⟩
theorem Bs.ok (hN : N.Ok) {i : Nat} (hb : Bs N l i t t') : BI N l t → (∀ k, k < i → ∀ v : Nat, t.L[k]? = some (v : Int) → Cl N l t v) → BI N l t' ∧ ∀ v : Nat, (v : Int) ∈ t'.L → Cl N l t' v := by
  induction hb with
  | @stop i t hi =>
    intro h hc
    refine ⟨h, fun v hv => ?_⟩
    obtain ⟨k, hk, e⟩ := List.getElem_of_mem hv
    exact hc k (by omega) v (by rw [List.getElem?_eq_getElem hk, e])
  | @step i v t t' hv _ ih =>
    intro h hc
    have hm : (v : Int) ∈ t.L := List.mem_of_getElem? hv
    obtain ⟨a1, a2, a3, r, a4⟩ := scan_ok hN _ t h hm fun _ h => h
    refine ih a1 fun k hk w hw => ?_
    by_cases c : k < i
    · have hlt : k < t.L.length := by have := (List.getElem?_eq_some_iff.1 hv).1; omega
      rw [a4, List.getElem?_append_left hlt] at hw
      exact fun e he hl => a3 _ (hc k c w hw e he hl)
    · have : k = i := by omega
      subst this
      have hlt : k < t.L.length := (List.getElem?_eq_some_iff.1 hv).1
      rw [a4, List.getElem?_append_left hlt, hv] at hw
      have : w = v := by have := Option.some.inj hw; omega
      subst this
      exact fun e he hl => a2 e he hl

/-- What is reached at the end. -/
structure Rd (N : Net) (l : List Int) (t : Bf) : Prop where
  bi : BI N l t
  cl : ∀ v : Nat, (v : Int) ∈ t.L → Cl N l t v
def start (n : Nat) : Bf := ⟨(List.replicate n false).set 0 true, List.replicate n 0, [0]⟩
theorem start_bi (hN : N.Ok) : BI N l (start N.n) := by
  have hn := hN.n2
  have g : ∀ u, (List.replicate N.n (0 : Int)).getD u 0 = 0 := fun u => by
    rw [List.getD_eq_getElem?_getD, List.getElem?_replicate]; split <;> rfl
  have only : ∀ u : Nat, (u : Int) ∈ [(0 : Int)] → u = 0 := fun u hu => by
    have : (u : Int) = 0 := by simpa using hu
    omega
  refine ⟨by simp [start], by simp [start], fun y hy => ⟨0, by simpa [start] using hy, by omega⟩, ?_, fun u hu => ?_, by simp [start], fun u hu => .inl (only u hu), g 0, fun u hu => ?_, fun u _ => by show 0 ≤ (List.replicate N.n (0 : Int)).getD u 0 ∧ (List.replicate N.n (0 : Int)).getD u 0 ≤ (1 : Int); rw [g u]; omega⟩
  · show 1 = ((List.replicate N.n false).set 0 true).count true
    have h0 : 0 < (List.replicate N.n false).length := by simp; omega
    rw [List.count_set h0]
    simp [List.count_replicate]
  · by_cases c : u = 0
    · subst c
      have h0 : 0 < (List.replicate N.n false).length := by simp; omega
      exact ⟨fun _ => by simp [start], fun _ => gs_eq h0⟩
    · have h1 : (start N.n).sn.getD u false = false := by
        show ((List.replicate N.n false).set 0 true).getD u false = false
        rw [gs_ne (Ne.symm c), List.getD_eq_getElem?_getD, List.getElem?_replicate]
        split <;> rfl
      rw [h1]
      constructor
      · intro h; cases h
      · intro h; exact absurd (only u h) c
  · rw [only u hu]
    show 0 ≤ (List.replicate N.n (0 : Int)).getD 0 0 ∧ (List.replicate N.n (0 : Int)).getD 0 0 < (1 : Int)
    rw [g 0]
    omega
theorem bfs_total (hN : N.Ok) : ∃ t, Bs N l 0 (start N.n) t ∧ Rd N l t := by
  obtain ⟨t, ht⟩ := bs_total hN N.n 0 (start N.n) (by omega) (start_bi (l := l) hN)
  obtain ⟨a, b⟩ := ht.ok hN (start_bi hN) fun k hk => absurd hk (by omega)
  exact ⟨t, ht, a, b⟩
def reach (t : Bf) (z : Int) : Bool := t.sn.getD z.toNat false
theorem arcs_ends (hN : N.Ok) (hl : WL N l) : ∀ a ∈ arcsOf N.to l, ∃ k, k < N.m ∧ a.a = (N.hd (2 * k + 1) : Int) ∧ a.b = (N.hd (2 * k) : Int) ∧ a.c = l.getD (2 * k) 0 + l.getD (2 * k + 1) 0 ∧ a.f = l.getD (2 * k + 1) 0 := by
  intro a ha
  obtain ⟨k, hk, rfl⟩ := arcs_mem N.m N.to l hN.tol hl.len a ha
  exact ⟨k, hk, hN.hd_int (by omega), hN.hd_int (by omega), rfl, rfl⟩
theorem mate_even (k : Nat) : mate (2 * k) = 2 * k + 1 := by
  unfold mate
  rw [if_pos (by omega)]
theorem mate_odd (k : Nat) : mate (2 * k + 1) = 2 * k := by
  unfold mate
  rw [if_neg (by omega)]; omega
theorem Rd.shut (hN : N.Ok) (hl : WL N l) (h : Rd N l t) : Shut (arcsOf N.to l) (reach t) := by
  intro a ha
  obtain ⟨k, hk, h1, h2, h3, h4⟩ := arcs_ends hN hl a ha
  unfold reach
  rw [h1, h2, h3, h4]
  simp only [Int.toNat_natCast]
  have a1 := hN.ada (2 * k) (by omega)
  have a2 := hN.ada (2 * k + 1) (by omega)
  rw [mate_even] at a1
  rw [mate_odd] at a2
  have b1 := hN.hd_lt (e := 2 * k) (by omega)
  have b2 := hN.hd_lt (e := 2 * k + 1) (by omega)
  refine ⟨fun c1 c2 => ?_, fun c1 c2 => ?_⟩
  · exact h.cl _ ((h.bi.mem _ b2).1 c1) _ a1 (by omega)
  · exact h.cl _ ((h.bi.mem _ b1).1 c1) _ a2 (by omega)
theorem Rd.ind (h : Rd N l t) {P : Nat → Prop} (h0 : P 0) (hs : ∀ v e : Nat, (v : Int) ∈ t.L → P v → (e : Int) ∈ N.ad v → 0 < l.getD e 0 → (N.hd e : Int) ∈ t.L → t.lv.getD (N.hd e) 0 = t.lv.getD v 0 + 1 → P (N.hd e)) :
    ∀ u : Nat, (u : Int) ∈ t.L → P u := by
  have key : ∀ (k u : Nat), (t.lv.getD u 0).toNat ≤ k → (u : Int) ∈ t.L → P u := by
    intro k
    induction k with
    | zero =>
      intro u hk hu
      rcases h.bi.prd u hu with g | ⟨v, e, g1, g2, g3, g4, g5⟩
      · rw [g]; exact h0
      · have := h.bi.bnd v g1; omega
    | succ k ih =>
      intro u hk hu
      rcases h.bi.prd u hu with g | ⟨v, e, g1, g2, g3, g4, g5⟩
      · rw [g]; exact h0
      · have hb := h.bi.bnd v g1
        subst g4
        exact hs v e g1 (ih v (by omega) g1) g2 g3 hu g5
  exact fun u hu => key _ u (Nat.le_refl _) hu
theorem Rd.least (hN : N.Ok) (hl : WL N l) (h : Rd N l t) (hx : ∀ v : Int, 0 < v → v < (N.n : Int) - 1 → exc (arcsOf N.to l) v = 0) (hs : t.sn.getD (N.n - 1) false = false) : Least N.n (ends (arcsOf N.to l)) (reach t) := by
  have hn := hN.n2
  refine least_of_flow (n := N.n) hn (fun a ha => ?_) (fun a ha => ?_) hx ?_ ?_ (h.shut hN hl) ?_
  · obtain ⟨k, hk, h1, h2, h3, h4⟩ := arcs_ends hN hl a ha
    have b1 := hN.hd_lt (e := 2 * k) (by omega)
    have b2 := hN.hd_lt (e := 2 * k + 1) (by omega)
    rw [h1, h2]; omega
  · obtain ⟨k, hk, h1, h2, h3, h4⟩ := arcs_ends hN hl a ha
    have b1 := hl.ge (2 * k) (by omega)
    have b2 := hl.ge (2 * k + 1) (by omega)
    rw [h3, h4]; omega
  · exact (h.bi.mem 0 (by omega)).2 h.bi.zin
  · unfold reach
    rw [show ((N.n : Int) - 1).toNat = N.n - 1 by omega, hs]
  · intro T t0 hT u u0 u1 hu
    have hin : ((u.toNat : Nat) : Int) ∈ t.L := (h.bi.mem _ (by omega)).1 hu
    have := h.ind (P := fun u => T (u : Int) = true) t0 (fun v e hv hp he hle hm _ => ?_) u.toNat hin
    · rwa [show ((u.toNat : Nat) : Int) = u by omega] at this
    · obtain ⟨e', q1, q2, q3⟩ := hN.adm v _ he
      have : e = e' := by omega
      subst this
      by_cases c : e % 2 = 0
      · have ha := arcs_get N.m N.to l hN.tol hl.len (e / 2) (by omega)
        have e1 : 2 * (e / 2) = e := by omega
        have e2 : mate e = e + 1 := by unfold mate; rw [if_pos c]
        rw [e1] at ha
        have hz := (hT _ ha).1
        simp only at hz
        rw [hN.hd_int (e := e + 1) (by omega), hN.hd_int q2, ← e2, q3] at hz
        exact hz hp (by omega)
      · have ha := arcs_get N.m N.to l hN.tol hl.len (e / 2) (by omega)
        have e1 : 2 * (e / 2) + 1 = e := by omega
        have e2 : mate e = 2 * (e / 2) := by unfold mate; rw [if_neg c]; omega
        rw [e1] at ha
        have hz := (hT _ ha).2
        simp only at hz
        rw [hN.hd_int q2, hN.hd_int (e := 2 * (e / 2)) (by omega), ← e2, q3] at hz
        exact hz hp hle
/-- The first push of a phase sends something. -/
theorem Rd.first (hN : N.Ok) (hl : WL N l) (h : Rd N l t) {d : Nat → Int} (hd : ∀ u : Nat, (u : Int) ∈ t.L → d u = t.lv.getD u 0) (hs : t.sn.getD (N.n - 1) false = true) {x : List Int} (hx : DInv N d l x) : ¬ Dead N x 0 := by
  intro h0
  have hn := hN.n2
  have := h.ind (P := fun u => Dead N x u) h0 (fun v e hv hp he hle hm hlv => ?_) (N.n - 1) ((h.bi.mem _ (by omega)).1 hs)
  · exact this.1 rfl
  · obtain ⟨k, hk, hke⟩ := List.getElem_of_mem he
    obtain ⟨u, hu1, hu2⟩ := h.bi.ran _ hv
    have hvn : v < N.n := by omega
    rcases hx v hvn k e (by have := hp.2; omega) (by rw [List.getElem?_eq_getElem hk, hke]) with g | g | g
    · omega
    · rw [hd _ hm, hd _ hv] at g; exact absurd hlv g
    · exact g
end
end Go.OAI
