/- Pushing flow along growing levels, as a relation: what it changes, that it ends, that the first push of a phase sends something. -/
import Derived.Test.YtokaffjipngphaaPcut
namespace Go.OAI
set_option linter.unusedVariables false
noncomputable section

theorem gs_ne {α : Type} {x : List α} {i j : Nat} {a b : α} (h : i ≠ j) : (x.set i a).getD j b = x.getD j b := by
  simp only [List.getD_eq_getElem?_getD, List.getElem?_set_ne h]
theorem gs_eq {α : Type} {x : List α} {i : Nat} {a b : α} (h : i < x.length) : (x.set i a).getD i b = a := by
  simp only [List.getD_eq_getElem?_getD, List.getElem?_set_self h, Option.getD_some]
theorem gs_out {α : Type} {x : List α} {i : Nat} {a : α} (h : ¬ i < x.length) : x.set i a = x := List.set_eq_of_length_le (by omega)

structure Net where
  n : Nat
  m : Nat
  to : List Int
  adj : List (List Int)
def Net.hd (N : Net) (e : Nat) : Nat := (N.to.getD e 0).toNat
def Net.ad (N : Net) (v : Nat) : List Int := N.adj.getD v []
structure Net.Ok (N : Net) : Prop where
  n2 : 2 ≤ N.n
  nb : N.n ≤ 1099511627776
  mb : N.m ≤ 549755813888
  tol : N.to.length = 2 * N.m
  tor : ∀ e, e < 2 * N.m → 0 ≤ N.to.getD e 0 ∧ N.to.getD e 0 < (N.n : Int)
  adl : N.adj.length = N.n
  adm : ∀ v, ∀ y ∈ N.ad v, ∃ e : Nat, y = (e : Int) ∧ e < 2 * N.m ∧ N.hd (mate e) = v
  ada : ∀ e, e < 2 * N.m → (e : Int) ∈ N.ad (N.hd (mate e))
  adb : ∀ v, (N.ad v).length ≤ 1099511627776
theorem Net.Ok.hd_lt {N : Net} (h : N.Ok) {e : Nat} (he : e < 2 * N.m) : N.hd e < N.n := by
  have := h.tor e he
  unfold Net.hd; omega
theorem Net.Ok.hd_int {N : Net} (h : N.Ok) {e : Nat} (he : e < 2 * N.m) : N.to.getD e 0 = (N.hd e : Int) := by
  have := h.tor e he
  unfold Net.hd; omega
def Net.ed (N : Net) (v : Nat) (k : Int) (e : Nat) : Prop := 0 ≤ k ∧ (N.ad v)[k.toNat]? = some (e : Int)
theorem Net.ed.lt {N : Net} {v : Nat} {k : Int} {e : Nat} (h : N.ed v k e) : k < ((N.ad v).length : Int) := by
  obtain ⟨h0, h1⟩ := h
  have := (List.getElem?_eq_some_iff.1 h1).1
  omega
theorem Net.ed.mem {N : Net} {v : Nat} {k : Int} {e : Nat} (h : N.ed v k e) : (e : Int) ∈ N.ad v := List.mem_of_getElem? h.2
theorem Net.Ok.edge {N : Net} (h : N.Ok) {v : Nat} {k : Int} {e : Nat} (he : N.ed v k e) : e < 2 * N.m ∧ N.hd (mate e) = v := by
  obtain ⟨e', h1, h2, h3⟩ := h.adm v _ he.mem
  have : e = e' := by omega
  subst this; exact ⟨h2, h3⟩
def bump (x : List Int) (v : Nat) : List Int := x.set v (x.getD v 0 + 1)
def shift (l : List Int) (e : Nat) (s : Int) : List Int := (l.set e (l.getD e 0 - s)).set (mate e) (l.getD (mate e) 0 + s)
theorem bump_ne {x : List Int} {v u : Nat} (h : v ≠ u) : (bump x v).getD u 0 = x.getD u 0 := gs_ne h
theorem bump_eq {x : List Int} {v : Nat} (h : v < x.length) : (bump x v).getD v 0 = x.getD v 0 + 1 := gs_eq h
theorem bump_len {x : List Int} {v : Nat} : (bump x v).length = x.length := by simp [bump]
theorem bump_le {x : List Int} {v u : Nat} : x.getD u 0 ≤ (bump x v).getD u 0 := by
  by_cases h : v = u
  · subst h
    by_cases hl : v < x.length
    · rw [bump_eq hl]; omega
    · unfold bump; rw [gs_out hl]; exact Int.le_refl _
  · rw [bump_ne h]; exact Int.le_refl _
theorem shift_len {l : List Int} {e : Nat} {s : Int} : (shift l e s).length = l.length := by simp [shift]
theorem shift_ne {l : List Int} {e f : Nat} {s : Int} (h1 : e ≠ f) (h2 : mate e ≠ f) : (shift l e s).getD f 0 = l.getD f 0 := by
  unfold shift; rw [gs_ne h2, gs_ne h1]
theorem shift_eq {l : List Int} {e : Nat} {s : Int} (h : e < l.length) : (shift l e s).getD e 0 = l.getD e 0 - s := by
  unfold shift; rw [gs_ne (mate_ne e), gs_eq h]
theorem shift_mate {l : List Int} {e : Nat} {s : Int} (h : mate e < l.length) : (shift l e s).getD (mate e) 0 = l.getD (mate e) 0 + s := by
  unfold shift; rw [gs_eq (by simpa using h)]

/-- One push (false), or the loop in it (true): where, how much at most, what is left, the next edges; what is sent, and what comes of the lists. -/
inductive Dn (N : Net) (d : Nat → Int) : Bool → Nat → Int → List Int → List Int → Int → List Int → List Int → Prop
  | sink {most : Int} {l x : List Int} : Dn N d false (N.n - 1) most l x most l x
  | loop {v : Nat} {most s : Int} {l x l' x' : List Int} : v ≠ N.n - 1 → Dn N d true v most l x s l' x' → Dn N d false v most l x s l' x'
  | done {v : Nat} {most : Int} {l x : List Int} : ((N.ad v).length : Int) ≤ x.getD v 0 → Dn N d true v most l x 0 l x
  | skip {v e : Nat} {most s : Int} {l x l' x' : List Int} : N.ed v (x.getD v 0) e → (l.getD e 0 = 0 ∨ d (N.hd e) ≠ d v + 1) → Dn N d true v most l (bump x v) s l' x' → Dn N d true v most l x s l' x'
  | sent {v e : Nat} {most s : Int} {l x l1 x1 : List Int} : N.ed v (x.getD v 0) e → l.getD e 0 ≠ 0 → d (N.hd e) = d v + 1 → Dn N d false (N.hd e) (min most (l.getD e 0)) l x s l1 x1 → 0 < s → Dn N d true v most l x s (shift l1 e s) x1
  | zero {v e : Nat} {most s : Int} {l x l1 x1 l' x' : List Int} : N.ed v (x.getD v 0) e → l.getD e 0 ≠ 0 → d (N.hd e) = d v + 1 → Dn N d false (N.hd e) (min most (l.getD e 0)) l x 0 l1 x1 →
      Dn N d true v most l1 (bump x1 v) s l' x' → Dn N d true v most l x s l' x'

variable {N : Net} {d : Nat → Int} {b : Bool} {v : Nat} {most s : Int} {l x l' x' : List Int}

theorem Dn.keepx (h : Dn N d b v most l x s l' x') : ∀ u, d u < d v → x'.getD u 0 = x.getD u 0 := by
  induction h with
  | sink => intro u _; rfl
  | loop _ _ ih => exact ih
  | done _ => intro u _; rfl
  | skip _ _ _ ih => intro u hu; rw [ih u hu, bump_ne (fun e => by subst e; omega)]
  | sent _ _ hd _ _ ih => intro u hu; exact ih u (by omega)
  | zero _ _ hd _ _ ih1 ih2 => intro u hu; rw [ih2 u hu, bump_ne (fun e => by subst e; omega), ih1 u (by omega)]
theorem Dn.keepl (hN : N.Ok) (h : Dn N d b v most l x s l' x') : ∀ f, d (N.hd (mate f)) < d v → d (N.hd f) = d (N.hd (mate f)) + 1 → l'.getD f 0 = l.getD f 0 := by
  induction h with
  | sink => intro u _ _; rfl
  | loop _ _ ih => exact ih
  | done _ => intro u _ _; rfl
  | skip _ _ _ ih => exact ih
  | @sent v e most s l x l1 x1 he _ hd _ _ ih =>
    intro f h1 h2
    obtain ⟨e1, e2⟩ := hN.edge he
    rw [shift_ne, ih f (by omega) h2]
    · intro e'; subst e'; rw [e2] at h1; omega
    · intro e'; subst e'; rw [mate_mate] at h1 h2; rw [e2] at h2; omega
  | zero _ _ hd _ _ ih1 ih2 => intro f h1 h2; rw [ih2 f h1 h2, ih1 f (by omega) h2]
theorem Dn.lens (h : Dn N d b v most l x s l' x') : l'.length = l.length ∧ x'.length = x.length := by
  induction h with
  | sink => exact ⟨rfl, rfl⟩
  | loop _ _ ih => exact ih
  | done _ => exact ⟨rfl, rfl⟩
  | skip _ _ _ ih => exact ⟨ih.1, by rw [ih.2, bump_len]⟩
  | sent _ _ _ _ _ ih => exact ⟨by rw [shift_len, ih.1], ih.2⟩
  | zero _ _ _ _ _ ih1 ih2 => exact ⟨by rw [ih2.1, ih1.1], by rw [ih2.2, bump_len, ih1.2]⟩
theorem Dn.mono (h : Dn N d b v most l x s l' x') : ∀ u, x.getD u 0 ≤ x'.getD u 0 := by
  induction h with
  | sink => intro u; exact Int.le_refl _
  | loop _ _ ih => exact ih
  | done _ => intro u; exact Int.le_refl _
  | skip _ _ _ ih => intro u; exact Int.le_trans bump_le (ih u)
  | sent _ _ _ _ _ ih => exact ih
  | zero _ _ _ _ _ ih1 ih2 => intro u; exact Int.le_trans (ih1 u) (Int.le_trans bump_le (ih2 u))
structure WL (N : Net) (l : List Int) : Prop where
  len : l.length = 2 * N.m
  ge : ∀ e, e < 2 * N.m → 0 ≤ l.getD e 0
  le : ∀ e, e < 2 * N.m → l.getD e 0 + l.getD (mate e) 0 ≤ 2305843009213693952
structure WX (N : Net) (x : List Int) : Prop where
  len : x.length = N.n
  ge : ∀ v, v < N.n → 0 ≤ x.getD v 0
  le : ∀ v, v < N.n → x.getD v 0 ≤ ((N.ad v).length : Int)
theorem WX.bump (h : WX N x) {e : Nat} (he : N.ed v (x.getD v 0) e) : WX N (bump x v) := by
  refine ⟨by rw [bump_len]; exact h.len, fun u hu => Int.le_trans (h.ge u hu) bump_le, fun u hu => ?_⟩
  by_cases c : v = u
  · subst c
    rw [bump_eq (by rw [h.len]; exact hu)]
    have := he.lt; omega
  · rw [bump_ne c]; exact h.le u hu
theorem WL.shift (h : WL N l) {e : Nat} (he : e < 2 * N.m) {s : Int} (h0 : 0 ≤ s) (h1 : s ≤ l.getD e 0) : WL N (shift l e s) := by
  have hm := mate_lt he
  have a1 := h.ge e he
  have a2 := h.ge _ hm
  have a3 := h.le e he
  have q1 : (Go.OAI.shift l e s).getD e 0 = l.getD e 0 - s := shift_eq (by rw [h.len]; exact he)
  have q2 : (Go.OAI.shift l e s).getD (mate e) 0 = l.getD (mate e) 0 + s := shift_mate (by rw [h.len]; exact hm)
  refine ⟨by rw [shift_len]; exact h.len, fun f hf => ?_, fun f hf => ?_⟩
  · by_cases c1 : e = f
    · subst c1; omega
    · by_cases c2 : mate e = f
      · subst c2; omega
      · rw [shift_ne c1 c2]; exact h.ge f hf
  · by_cases c1 : e = f
    · subst c1; omega
    · by_cases c2 : mate e = f
      · subst c2; rw [mate_mate]; omega
      · rw [shift_ne c1 c2, shift_ne (fun c => c2 (by rw [c, mate_mate])) (fun c => c1 (by rw [← mate_mate e, c, mate_mate]))]; exact h.le f hf
theorem Dn.wf (hN : N.Ok) (h : Dn N d b v most l x s l' x') : v < N.n → WL N l → WX N x → 0 ≤ most → WL N l' ∧ WX N x' ∧ 0 ≤ s ∧ s ≤ most := by
  induction h with
  | sink => intro _ h1 h2 h3; exact ⟨h1, h2, h3, Int.le_refl _⟩
  | loop _ _ ih => exact ih
  | done _ => intro _ h1 h2 h3; exact ⟨h1, h2, Int.le_refl _, h3⟩
  | skip he _ _ ih => intro hv h1 h2 h3; exact ih hv h1 (h2.bump he) h3
  | @sent v e most s l x l1 x1 he _ hd hr _ ih =>
    intro hv h1 h2 h3
    obtain ⟨e1, e2⟩ := hN.edge he
    have hl := h1.ge e e1
    obtain ⟨g1, g2, g3, g4⟩ := ih (hN.hd_lt e1) h1 h2 (by omega)
    have hk := hr.keepl hN e (by rw [e2]; omega) (by rw [e2]; omega)
    exact ⟨g1.shift e1 g3 (by rw [hk]; omega), g2, g3, by omega⟩
  | @zero v e most s l x l1 x1 l' x' he _ hd hr _ ih1 ih2 =>
    intro hv h1 h2 h3
    obtain ⟨e1, e2⟩ := hN.edge he
    have hl := h1.ge e e1
    obtain ⟨g1, g2, g3, g4⟩ := ih1 (hN.hd_lt e1) h1 h2 (by omega)
    have hk := hr.keepx v (by omega)
    exact ih2 hv g1 (g2.bump (e := e) (by rw [hk]; exact he)) h3
/-- What comes into a node changes at the two ends alone. -/
theorem Dn.exc (hN : N.Ok) (h : Dn N d b v most l x s l' x') : v < N.n → l.length = 2 * N.m → ends (arcsOf N.to l') = ends (arcsOf N.to l) ∧
    ∀ u : Int, Go.OAI.exc (arcsOf N.to l') u = Go.OAI.exc (arcsOf N.to l) u + (if ((N.n - 1 : Nat) : Int) = u then s else 0) - (if (v : Int) = u then s else 0) := by
  induction h with
  | sink => intro _ _; exact ⟨rfl, fun u => by split <;> omega⟩
  | loop _ _ ih => exact ih
  | done _ => intro _ _; exact ⟨rfl, fun u => by split <;> split <;> omega⟩
  | skip he _ _ ih => exact ih
  | @sent v e most s l x l1 x1 he _ hd hr _ ih =>
    intro hv hl
    obtain ⟨e1, e2⟩ := hN.edge he
    have hl1 : l1.length = 2 * N.m := by rw [hr.lens.1, hl]
    obtain ⟨g1, g2⟩ := ih (hN.hd_lt e1) hl
    refine ⟨by unfold shift; rw [ends_push N.m N.to l1 e s hN.tol hl1 e1, g1], fun u => ?_⟩
    unfold shift
    rw [exc_push N.m N.to l1 e s u hN.tol hl1 e1, g2 u, hN.hd_int e1, hN.hd_int (mate_lt e1), e2]
    split <;> split <;> split <;> omega
  | @zero v e most s l x l1 x1 l' x' he _ hd hr _ ih1 ih2 =>
    intro hv hl
    obtain ⟨e1, e2⟩ := hN.edge he
    have hl1 : l1.length = 2 * N.m := by rw [hr.lens.1, hl]
    obtain ⟨g1, g2⟩ := ih1 (hN.hd_lt e1) hl
    obtain ⟨k1, k2⟩ := ih2 hv hl1
    refine ⟨k1.trans g1, fun u => ?_⟩
    rw [k2 u, g2 u]
    split <;> split <;> split <;> omega

/-! ### Nodes from which the sink is not reached -/
def Dead (N : Net) (x : List Int) (u : Nat) : Prop := u ≠ N.n - 1 ∧ ((N.ad u).length : Int) ≤ x.getD u 0
def DInv (N : Net) (d : Nat → Int) (l x : List Int) : Prop := ∀ u, u < N.n → ∀ (k e : Nat), (k : Int) < x.getD u 0 → (N.ad u)[k]? = some (e : Int) → l.getD e 0 = 0 ∨ d (N.hd e) ≠ d u + 1 ∨ Dead N x (N.hd e)
theorem Dead.mono {x x' : List Int} {u : Nat} (h : Dead N x u) (hx : ∀ u, x.getD u 0 ≤ x'.getD u 0) : Dead N x' u := ⟨h.1, Int.le_trans h.2 (hx u)⟩
theorem DInv.bump (h : DInv N d l x) (hx : WX N x) (hv : v < N.n) {e : Nat} (he : N.ed v (x.getD v 0) e) (hu : l.getD e 0 = 0 ∨ d (N.hd e) ≠ d v + 1 ∨ Dead N x (N.hd e)) : DInv N d l (bump x v) := by
  intro u hu' k f hk hf
  have mono : ∀ w, Dead N x w → Dead N (Go.OAI.bump x v) w := fun w hw => hw.mono fun _ => bump_le
  by_cases c : v = u
  · subst c
    rw [bump_eq (by rw [hx.len]; exact hv)] at hk
    by_cases c2 : (k : Int) < x.getD v 0
    · exact (h v hv k f c2 hf).imp id fun g => g.imp id (mono _)
    · obtain ⟨h0, h1⟩ := he
      have : (x.getD v 0).toNat = k := by omega
      rw [this, hf] at h1
      have : f = e := by have := Option.some.inj h1; omega
      subst this
      exact hu.imp id fun g => g.imp id (mono _)
  · rw [bump_ne c] at hk
    exact (h u hu' k f hk hf).imp id fun g => g.imp id (mono _)
theorem Dn.dead (hN : N.Ok) (h : Dn N d b v most l x s l' x') : v < N.n → WL N l → WX N x → 0 < most → s = 0 → DInv N d l x → (b = true → v ≠ N.n - 1) → l' = l ∧ DInv N d l x' ∧ Dead N x' v := by
  induction h with
  | sink => intro _ _ _ h1 h2; omega
  | loop hv _ ih => intro h1 h2 h3 h4 h5 h6 _; exact ih h1 h2 h3 h4 h5 h6 fun _ => hv
  | done hd => intro h1 h2 h3 h4 h5 h6 h7; exact ⟨rfl, h6, h7 rfl, hd⟩
  | skip he hu _ ih =>
    intro h1 h2 h3 h4 h5 h6 h7
    exact ih h1 h2 (h3.bump he) h4 h5 (h6.bump h3 h1 he (hu.imp id .inl)) h7
  | sent _ _ _ _ hs _ => intro _ _ _ _ h5; omega
  | @zero v e most s l x l1 x1 l' x' he hne hd hr _ ih1 ih2 =>
    intro h1 h2 h3 h4 h5 h6 h7
    obtain ⟨e1, e2⟩ := hN.edge he
    have hl := h2.ge e e1
    obtain ⟨g1, g2, g3⟩ := ih1 (hN.hd_lt e1) h2 h3 (by omega) rfl h6 (fun c => by cases c)
    obtain ⟨w1, w2, _⟩ := hr.wf hN (hN.hd_lt e1) h2 h3 (by omega)
    have hk := hr.keepx v (by omega)
    have he' : N.ed v (x1.getD v 0) e := by rw [hk]; exact he
    subst g1
    exact ih2 h1 h2 (w2.bump he') h4 h5 (g2.bump w2 h1 he' (.inr (.inr g3))) h7
/-- It ends. -/
theorem dn_total (hN : N.Ok) {D : Int} (hD : ∀ u, u < N.n → d u ≤ D) : ∀ (k : Nat) (v : Nat), v < N.n → (D - d v).toNat ≤ k → ∀ (most : Int) (l x : List Int), 0 ≤ most → WL N l → WX N x → ∃ s l' x', Dn N d false v most l x s l' x' := by
  intro k
  induction k using Nat.strongRecOn with
  | _ k ih =>
    intro v hv hk most l x hm hl hx
    by_cases hs : v = N.n - 1
    · subst hs; exact ⟨_, _, _, .sink⟩
    · have loop : ∀ (j : Nat) (l x : List Int), (((N.ad v).length : Int) - x.getD v 0).toNat ≤ j → WL N l → WX N x → ∃ s l' x', Dn N d true v most l x s l' x' := by
        intro j
        induction j with
        | zero =>
          intro l x hj hl hx
          exact ⟨_, _, _, .done (by omega)⟩
        | succ j ihj =>
          intro l x hj hl hx
          by_cases hd : ((N.ad v).length : Int) ≤ x.getD v 0
          · exact ⟨_, _, _, .done hd⟩
          · have h0 := hx.ge v hv
            have hlt : (x.getD v 0).toNat < (N.ad v).length := by omega
            obtain ⟨e, h1, h2, h3⟩ := hN.adm v _ (List.getElem_mem hlt)
            have he : N.ed v (x.getD v 0) e := ⟨h0, by rw [List.getElem?_eq_getElem hlt, h1]⟩
            have hb : (((N.ad v).length : Int) - (bump x v).getD v 0).toNat ≤ j := by rw [bump_eq (by rw [hx.len]; exact hv)]; omega
            by_cases c1 : l.getD e 0 = 0
            · obtain ⟨s, l', x', hr⟩ := ihj l (bump x v) hb hl (hx.bump he)
              exact ⟨s, l', x', .skip he (.inl c1) hr⟩
            · by_cases c2 : d (N.hd e) = d v + 1
              · have hh := hN.hd_lt h2
                have := hD _ hh
                have hle := hl.ge e h2
                obtain ⟨s1, l1, x1, hr⟩ := ih ((D - d (N.hd e)).toNat) (by omega) (N.hd e) hh (Nat.le_refl _) (min most (l.getD e 0)) l x (by omega) hl hx
                obtain ⟨w1, w2, w3, w4⟩ := hr.wf hN hh hl hx (by omega)
                by_cases c3 : 0 < s1
                · exact ⟨_, _, _, .sent he c1 c2 hr c3⟩
                · have : s1 = 0 := by omega
                  subst this
                  have hk' := hr.keepx v (by omega)
                  have he' : N.ed v (x1.getD v 0) e := by rw [hk']; exact he
                  obtain ⟨s, l', x', hr'⟩ := ihj l1 (bump x1 v) (by rw [bump_eq (by rw [w2.len]; exact hv), hk']; omega) w1 (w2.bump he')
                  exact ⟨_, _, _, .zero he c1 c2 hr hr'⟩
              · obtain ⟨s, l', x', hr⟩ := ihj l (bump x v) hb hl (hx.bump he)
                exact ⟨s, l', x', .skip he (.inr c2) hr⟩
      obtain ⟨s, l', x', hr⟩ := loop _ l x (Nat.le_refl _) hl hx
      exact ⟨s, l', x', .loop hs hr⟩
end
end Go.OAI
