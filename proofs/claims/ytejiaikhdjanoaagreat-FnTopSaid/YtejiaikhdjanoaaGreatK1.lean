/- Contracts by the kinds of their arguments; loops by the kinds of their slots. Contracts by kinds: what comes in may be taken in the printed form. -/
import Derived.Test.YtejiaikhdjanoaaGreatR1
namespace Go.OAI
set_option linter.unusedVariables false
inductive CK where
  | ro (T : Ty) | sl (T : Ty) | mat (T : Ty)
@[reducible] def CK.den : CK → Type
  | .ro T => T.den | .sl T => List T.den | .mat T => List (List T.den)
@[reducible] def CK.dens : List CK → Type
  | [] => Unit
  | c :: r => match r with
    | [] => c.den
    | _ :: _ => c.den × CK.dens r
def CK.out : (c : CK) → c.den → List AVal
  | .ro T, x => T.flat x | .sl T, l => [.osl T l] | .mat T, l => [.omat T l]
def CK.outs : (cs : List CK) → CK.dens cs → List AVal
  | [], _ => []
  | [c], x => c.out x
  | c :: d :: r, x => c.out x.1 ++ CK.outs (d :: r) x.2
def CK.inn : (c : CK) → List AVal → Option (c.den × List AVal)
  | .ro T, cs => T.unflat cs
  | .sl T, .osl U l :: r => if h : U = T then some (Ty.castL h l, r) else none
  | .mat T, .omat U l :: r => if h : U = T then some (h ▸ l, r) else none
  | _, _ => none
def CK.inns : (cs : List CK) → List AVal → Option (CK.dens cs × List AVal)
  | [], vs => some ((), vs)
  | [c], vs => c.inn vs
  | c :: d :: r, vs => match c.inn vs with
    | some (x, vs') => match CK.inns (d :: r) vs' with
      | some (y, vs'') => some ((x, y), vs'')
      | none => none
    | none => none
inductive PK where
  | one (c : CK) | agg (cs : List CK) | box (cs : List CK) | gone | lit (b : Bool) | nil
  | rp (ts : List Nat) | cf (f : Nat) (ts : List Nat)   -- a pointer to a box that stands still; a function literal
@[reducible] def PK.den : PK → Type
  | .one c => c.den | .agg cs => CK.dens cs | .box cs => CK.dens cs | .gone | .lit _ | .nil | .rp _ | .cf _ _ => Unit
def PK.out : (p : PK) → p.den → AVal
  | .one c, x => (c.out x).headD .undef | .agg cs, x => .agg (CK.outs cs x) | .box cs, x => .obox (CK.outs cs x) | .gone, _ => .undef | .lit b, _ => .bool b | .nil, _ => .nils | .rp ts, _ => .rptr ts 0 | .cf f ts, _ => .cfn f ts
def oneOf {α : Type} : Option (α × List AVal) → Option α
  | some (x, []) => some x
  | _ => none
def PK.inn : (p : PK) → AVal → Option p.den
  | .one c, v => oneOf (c.inn [v])
  | .agg cs, .agg vs => oneOf (CK.inns cs vs)
  | .box cs, .obox vs => oneOf (CK.inns cs vs)
  | .nil, .nils => some ()
  | .rp ts, .rptr us c => match decide (us = ts), decide (c = 0) with
    | true, true => some ()
    | _, _ => none
  | .cf f ts, .cfn g us => match decide (us = ts), decide (g = f) with
    | true, true => some ()
    | _, _ => none
  | _, _ => none
@[reducible] def PK.dens : List PK → Type
  | [] => Unit
  | c :: r => match r with
    | [] => c.den
    | _ :: _ => c.den × PK.dens r
def PK.outs : (cs : List PK) → PK.dens cs → List AVal
  | [], _ => []
  | [c], x => [c.out x]
  | c :: d :: r, x => c.out x.1 :: PK.outs (d :: r) x.2
def PK.inns : (cs : List PK) → List AVal → Option (PK.dens cs)
  | [], [] => some ()
  | [c], [v] => c.inn v
  | c :: d :: r, v :: vs => match c.inn v with
    | some x => match PK.inns (d :: r) vs with
      | some y => some (x, y)
      | none => none
    | none => none
  | _, _ => none
def PK.owned : PK → Bool
  | .one (.ro _) => false
  | .one _ => true
  | .agg cs => cs.any fun c => match c with | .ro _ => false | _ => true
  | .box _ | .gone | .lit _ | .nil | .rp _ | .cf _ _ => false
def CK.shy : CK → Bool
  | .ro T => !T.plain | .sl T => !T.plain | .mat T => !T.plain
def PK.shy : PK → Bool
  | .one c => c.shy | .agg cs => cs.any CK.shy | .box cs => cs.any CK.shy | _ => false
def mkC (ps : List PK) (nr : Nat) (rs : List PK) (G : PK.dens ps → Option (PK.dens rs)) : Callee :=
  { own := ps.map PK.owned, shy := rs.any PK.shy, X := PK.dens ps, Y := PK.dens rs, inn := PK.inns ps, G := G, out := fun y => (tupOf ((PK.outs rs y).take nr), (PK.outs rs y).drop nr) }
def PK.form : PK → Option AVal
  | .rp ts => some (.rptr ts 0)
  | .cf f ts => some (.cfn f ts)
  | _ => none
def mkG (ps : List PK) (nr : Nat) (rs : List PK) (gp : List GP) (gb : Nat) (G : PK.dens ps → Option (PK.dens rs)) : Callee :=
  { own := ps.map PK.owned, shy := rs.any PK.shy, gp := gp, fm := ps.map PK.form, gb := gb, X := PK.dens ps, Y := PK.dens rs, inn := PK.inns ps, G := G, out := fun y => (tupOf ((PK.outs rs y).take nr), (PK.outs rs y).drop nr) }
def sumO {A B R : Type} (y : A ⊕ B) (f : A → Option R) (g : B → Option R) : Option R :=
  match y with
  | .inl a => f a
  | .inr b => g b
variable {P : Program} {gw : W0} {w : World} {R : Nat → Prop} {env : Nat → Option Callee} {or : Ora}
def Eqv (a b : AVal) : Prop := a = b ∨ (a = .nils ∧ ∃ t, b = .sl t [])
def Canon : List AVal → List AVal → Prop
  | [], [] => True
  | a :: asv, b :: bs => Eqv a b ∧ Canon asv bs
  | _, _ => False
theorem Canon.append : ∀ {asv bs cs ds : List AVal}, Canon asv bs → Canon cs ds → Canon (asv ++ cs) (bs ++ ds)
  | [], [], _, _, _, h => h
  | a :: asv, b :: bs, cs, ds, h, h' => ⟨h.1, Canon.append h.2 h'⟩
  | [], _ :: _, _, _, h, _ => h.elim
  | _ :: _, [], _, _, h, _ => h.elim
theorem Canon.len : ∀ {asv bs : List AVal}, Canon asv bs → asv.length = bs.length
  | [], [], _ => rfl
  | a :: asv, b :: bs, h => by simp [Canon.len h.2]
  | [], _ :: _, h => h.elim
  | _ :: _, [], h => h.elim
theorem Canon.get : ∀ {asv bs : List AVal}, Canon asv bs → ∀ (i : Nat) b, bs[i]? = some b → ∃ a, asv[i]? = some a ∧ Eqv a b
  | [], [], _, i, b, hb => by simp at hb
  | a :: asv, b :: bs, h, 0, x, hx => by simp at hx; subst hx; exact ⟨a, rfl, h.1⟩
  | a :: asv, b :: bs, h, i + 1, x, hx => by simpa using Canon.get h.2 i x (by simpa using hx)
  | [], _ :: _, h, _, _, _ => h.elim
  | _ :: _, [], h, _, _, _ => h.elim
theorem unflat_canon : ∀ {T : Ty} {cs r : List AVal} {x : T.den}, T.unflat cs = some (x, r) → ∃ pre, cs = pre ++ r ∧ Canon pre (T.flat x)
  | .int k, .int k' n :: cs, r, x, h => by
    simp only [Ty.unflat] at h
    split at h
    · rename_i hk; cases h; subst hk; exact ⟨[.int k' n], rfl, .inl rfl, trivial⟩
    · cases h
  | .bool, .bool b :: cs, r, x, h => by cases h; exact ⟨[.bool _], rfl, .inl rfl, trivial⟩
  | .str, .str b :: cs, r, x, h => by cases h; exact ⟨[.str _], rfl, .inl rfl, trivial⟩
  | .slice t, .sl t' l :: cs, r, x, h => by
    simp only [Ty.unflat] at h
    split at h
    · rename_i hk; cases h; subst hk; exact ⟨[.sl t' l], rfl, .inl rfl, trivial⟩
    · cases h
  | .slice t, .nils :: cs, r, x, h => by cases h; exact ⟨[.nils], rfl, .inr ⟨rfl, t, rfl⟩, trivial⟩
  | .pair a b, cs, r, x, h => by
    simp only [Ty.unflat] at h
    split at h
    · rename_i x1 r1 h1
      split at h
      · rename_i x2 r2 h2
        cases h
        obtain ⟨p1, e1, c1⟩ := unflat_canon h1
        obtain ⟨p2, e2, c2⟩ := unflat_canon h2
        exact ⟨p1 ++ p2, by rw [e1, e2, List.append_assoc], c1.append c2⟩
      · cases h
    · cases h
  | .unit, cs, r, x, h => by cases h; exact ⟨[], rfl, trivial⟩
  | .int _, [], _, _, h | .bool, [], _, _, h | .str, [], _, _, h | .slice _, [], _, _, h => by simp [Ty.unflat] at h
theorem CK.inn_canon : ∀ {c : CK} {cs r : List AVal} {x : c.den}, c.inn cs = some (x, r) → ∃ pre, cs = pre ++ r ∧ Canon pre (c.out x)
  | .ro T, cs, r, x, h => unflat_canon h
  | .sl T, [], r, x, h => by simp [CK.inn] at h
  | .mat T, [], r, x, h => by simp [CK.inn] at h
  | .sl T, d :: cs, r, x, h => by
    cases d <;> simp only [CK.inn] at h <;> first
      | (cases h; done)
      | skip
    split at h
    · rename_i hU
      cases h
      subst hU
      exact ⟨[.osl _ _], rfl, .inl rfl, trivial⟩
    · cases h
  | .mat T, d :: cs, r, x, h => by
    cases d <;> simp only [CK.inn] at h <;> first
      | (cases h; done)
      | skip
    split at h
    · rename_i hU
      cases h
      subst hU
      exact ⟨[.omat _ _], rfl, .inl rfl, trivial⟩
    · cases h
theorem CK.inns_canon : ∀ {cs : List CK} {vs r : List AVal} {x : CK.dens cs}, CK.inns cs vs = some (x, r) → ∃ pre, vs = pre ++ r ∧ Canon pre (CK.outs cs x)
  | [], vs, r, x, h => by cases h; exact ⟨[], rfl, trivial⟩
  | [c], vs, r, x, h => CK.inn_canon (c := c) h
  | c :: d :: cs, vs, r, x, h => by
    simp only [CK.inns] at h
    split at h
    · rename_i x1 r1 h1
      split at h
      · rename_i x2 r2 h2
        cases h
        obtain ⟨p1, e1, c1⟩ := CK.inn_canon h1
        obtain ⟨p2, e2, c2⟩ := CK.inns_canon h2
        exact ⟨p1 ++ p2, by rw [e1, e2, List.append_assoc], c1.append c2⟩
      · cases h
    · cases h
theorem Eqv.ct {a b : AVal} (h : Eqv a b) {v : Value} {S : Nat → Prop} (hv : CT w R v S a) : CT w R v S b := by
  rcases h with rfl | ⟨rfl, t, rfl⟩
  · exact hv
  · have hv : v = .slice none 0 0 := hv
    subst hv
    exact ⟨none, 0, rfl, Nat.le_refl _, fun _ => rfl, fun i x hx => by simp at hx⟩
theorem Eqv.own1 {a b : AVal} (h : Eqv a b) : isOwn1 a = isOwn1 b := by
  rcases h with rfl | ⟨rfl, t, rfl⟩ <;> rfl
theorem Canon.cts {asv bs : List AVal} (h : Canon asv bs) {vs : Nat → Option Value} {S : Nat → Prop} (hc : CTs w R vs asv S) : CTs w R vs bs S := by
  obtain ⟨Ss, h1, h2, h3⟩ := hc
  refine ⟨Ss, fun i y hy => ?_, h2, h3⟩
  obtain ⟨x, hx, he⟩ := h.get i y hy
  obtain ⟨u, g1, g2⟩ := h1 i x hx
  exact ⟨u, g1, he.ct g2⟩
theorem Canon.any : ∀ {asv bs : List AVal}, Canon asv bs → asv.any isOwn1 = bs.any isOwn1
  | [], [], _ => rfl
  | a :: asv, b :: bs, h => by simp [h.1.own1, Canon.any h.2]
  | [], _ :: _, h => h.elim
  | _ :: _, [], h => h.elim
theorem oneOf_some {α : Type} {o : Option (α × List AVal)} {x : α} (h : oneOf o = some x) : o = some (x, []) := by
  unfold oneOf at h
  split at h
  · cases h; rfl
  · cases h
theorem CK.out_plain : ∀ {c : CK} {x : c.den} {a b : AVal}, Canon [a] (c.out x) → b = (c.out x).headD .undef → Eqv a b ∧ (∀ cs, b ≠ .agg cs) ∧ (∀ cs, b ≠ .obox cs) := by
  intro c x a b h hb
  have flat : ∀ {T : Ty} {x : T.den} {b : AVal}, b ∈ T.flat x → (∀ cs, b ≠ .agg cs) ∧ (∀ cs, b ≠ .obox cs) := by
    intro T
    induction T with
    | int k => intro x b hb; simp [Ty.flat] at hb; subst hb; simp
    | bool => intro x b hb; simp [Ty.flat] at hb; subst hb; simp
    | str => intro x b hb; simp [Ty.flat] at hb; subst hb; simp
    | slice t _ => intro x b hb; simp [Ty.flat] at hb; subst hb; simp
    | pair p q ih1 ih2 => intro x b hb; simp only [Ty.flat, List.mem_append] at hb; exact hb.elim ih1 ih2
    | unit => intro x b hb; simp [Ty.flat] at hb
  cases hx : c.out x with
  | nil => rw [hx] at h; exact h.elim
  | cons y ys =>
    rw [hx] at h hb
    have hb : b = y := hb
    subst hb
    refine ⟨h.1, ?_⟩
    have hm : b ∈ c.out x := by rw [hx]; exact List.mem_cons_self
    cases c with
    | ro T => exact flat hm
    | sl T => simp [CK.out] at hm; subst hm; simp
    | mat T => simp [CK.out] at hm; subst hm; simp
theorem flat_nu : ∀ {T : Ty} {x : T.den} {b : AVal}, b ∈ T.flat x → b ≠ .undef := by
  intro T
  induction T with
  | int k => intro x b hb; simp [Ty.flat] at hb; subst hb; simp
  | bool => intro x b hb; simp [Ty.flat] at hb; subst hb; simp
  | str => intro x b hb; simp [Ty.flat] at hb; subst hb; simp
  | slice t _ => intro x b hb; simp [Ty.flat] at hb; subst hb; simp
  | pair p q ih1 ih2 => intro x b hb; simp only [Ty.flat, List.mem_append] at hb; exact hb.elim ih1 ih2
  | unit => intro x b hb; simp [Ty.flat] at hb
theorem flat_nopv : ∀ {T : Ty} {x : T.den} {b : AVal}, b ∈ T.flat x → (∀ ts c, b ≠ .rptr ts c) ∧ ∀ f ts, b ≠ .cfn f ts := by
  intro T
  induction T with
  | int k => intro x b hb; simp [Ty.flat] at hb; subst hb; simp
  | bool => intro x b hb; simp [Ty.flat] at hb; subst hb; simp
  | str => intro x b hb; simp [Ty.flat] at hb; subst hb; simp
  | slice t _ => intro x b hb; simp [Ty.flat] at hb; subst hb; simp
  | pair p q ih1 ih2 => intro x b hb; simp only [Ty.flat, List.mem_append] at hb; exact hb.elim ih1 ih2
  | unit => intro x b hb; simp [Ty.flat] at hb
theorem CK.out_nopv {c : CK} {x : c.den} : (∀ ts d, (PK.one c).out x ≠ .rptr ts d) ∧ ∀ f ts, (PK.one c).out x ≠ .cfn f ts := by
  show (∀ ts d, (c.out x).headD .undef ≠ .rptr ts d) ∧ ∀ f ts, (c.out x).headD .undef ≠ .cfn f ts
  cases c with
  | ro T =>
    show (∀ ts d, (T.flat x).headD .undef ≠ .rptr ts d) ∧ ∀ f ts, (T.flat x).headD .undef ≠ .cfn f ts
    cases hf : T.flat x with
    | nil => simp
    | cons y ys => exact flat_nopv (T := T) (x := x) (by rw [hf]; exact List.mem_cons_self)
  | sl T => simp [CK.out]
  | mat T => simp [CK.out]
theorem CK.out_nu {c : CK} {x : c.den} (hl : (c.out x).length ≠ 0) : (PK.one c).out x ≠ .undef := by
  show (c.out x).headD .undef ≠ .undef
  cases c with
  | ro T =>
    have hl : (T.flat x).length ≠ 0 := hl
    show (T.flat x).headD .undef ≠ .undef
    cases hf : T.flat x with
    | nil => rw [hf] at hl; exact absurd rfl hl
    | cons y ys => exact flat_nu (T := T) (x := x) (by rw [hf]; exact List.mem_cons_self)
  | sl T => simp [CK.out]
  | mat T => simp [CK.out]
theorem PK.inn_canon {p : PK} {d : AVal} {x : p.den} (h : p.inn d = some x) : (∀ v S, AT gw w R v S d → AT gw w R v S (p.out x)) ∧ isOwn d = isOwn (p.out x) := by
  cases p with
  | one c =>
    have h := oneOf_some h
    obtain ⟨pre, e1, e2⟩ := CK.inn_canon h
    rw [List.append_nil] at e1
    subst e1
    obtain ⟨g1, g2, g3⟩ := CK.out_plain (b := (PK.one c).out x) e2 rfl
    have hd : (∀ cs, d ≠ .agg cs) ∧ ∀ cs, d ≠ .obox cs := by
      rcases g1 with e | ⟨e, _⟩
      · rw [e]; exact ⟨g2, g3⟩
      · rw [e]; simp
    refine ⟨fun v S hv => ?_, ?_⟩
    · have hu : (PK.one c).out x ≠ .undef := CK.out_nu (c := c) (x := x) (by rw [← e2.len]; simp)
      have hdu : d ≠ .undef := by
        rcases g1 with e | ⟨e, _⟩
        · rw [e]; exact hu
        · rw [e]; simp
      have hnp := CK.out_nopv (c := c) (x := x)
      have hdp : (∀ ts c, d ≠ .rptr ts c) ∧ ∀ f ts, d ≠ .cfn f ts := by
        rcases g1 with e | ⟨e, _⟩
        · rw [e]; exact hnp
        · rw [e]; simp
      rw [at_ct _ hd.1 hd.2 hdu hdp.1 hdp.2] at hv
      rw [at_ct _ g2 g3 hu hnp.1 hnp.2]
      exact g1.ct hv
    · have own : ∀ a : AVal, (∀ cs, a ≠ .agg cs) → (∀ cs, a ≠ .obox cs) → isOwn a = isOwn1 a := fun a h1 h2 => by
        cases a <;> first | rfl | exact absurd rfl (h1 _) | exact absurd rfl (h2 _)
      rw [own d hd.1 hd.2, own _ g2 g3]
      exact g1.own1
  | agg cs =>
    cases d <;> simp only [PK.inn] at h <;> first
      | (cases h; done)
      | skip
    have h := oneOf_some h
    obtain ⟨pre, e1, e2⟩ := CK.inns_canon h
    rw [List.append_nil] at e1
    subst e1
    refine ⟨fun v S ⟨us, h1, h2, h3⟩ => ⟨us, h1, by rw [h2]; exact e2.len, e2.cts h3⟩, e2.any⟩
  | gone => cases d <;> simp [PK.inn] at h
  | lit b => cases d <;> simp [PK.inn] at h
  | nil =>
    cases d <;> simp only [PK.inn] at h <;> first
      | (cases h; done)
      | skip
    exact ⟨fun v S hv => hv, rfl⟩
  | rp ts =>
    cases d <;> simp only [PK.inn] at h <;> first
      | (cases h; done)
      | skip
    split at h
    · rename_i h1 h2
      have h1 := of_decide_eq_true h1
      have h2 := of_decide_eq_true h2
      subst h1; subst h2
      exact ⟨fun v S hv => hv, rfl⟩
    · cases h
  | cf f ts =>
    cases d <;> simp only [PK.inn] at h <;> first
      | (cases h; done)
      | skip
    split at h
    · rename_i h1 h2
      have h1 := of_decide_eq_true h1
      have h2 := of_decide_eq_true h2
      subst h1; subst h2
      exact ⟨fun v S hv => hv, rfl⟩
    · cases h
  | box cs =>
    cases d <;> simp only [PK.inn] at h <;> first
      | (cases h; done)
      | skip
    have h := oneOf_some h
    obtain ⟨pre, e1, e2⟩ := CK.inns_canon h
    rw [List.append_nil] at e1
    subst e1
    exact ⟨fun v S ⟨b, off, arr, E, h1, h2, h3, S', h4, h5⟩ => ⟨b, off, arr, E, h1, h2, h3, S', e2.cts h4, h5⟩, rfl⟩
def Conv (gw : W0) (w : World) (R : Nat → Prop) : List AVal → List AVal → Prop
  | [], [] => True
  | a :: asv, b :: bs => ((∀ v S, AT gw w R v S a → AT gw w R v S b) ∧ isOwn a = isOwn b) ∧ Conv gw w R asv bs
  | _, _ => False
theorem PK.inns_canon : ∀ {ps : List PK} {ds : List AVal} {x : PK.dens ps}, PK.inns ps ds = some x → Conv gw w R ds (PK.outs ps x)
  | [], [], x, h => trivial
  | [p], [d], x, h => ⟨PK.inn_canon (p := p) h, trivial⟩
  | p :: q :: ps, d :: ds, x, h => by
    simp only [PK.inns] at h
    split at h
    · rename_i x1 h1
      split at h
      · rename_i x2 h2
        cases h
        exact ⟨PK.inn_canon h1, PK.inns_canon h2⟩
      · cases h
    · cases h
  | [], _ :: _, x, h => by simp [PK.inns] at h
  | [p], [], x, h => by simp [PK.inns] at h
  | [p], _ :: _ :: _, x, h => by simp [PK.inns] at h
  | _ :: _ :: _, [], x, h => by simp [PK.inns] at h
theorem Conv.als : ∀ {asv bs : List AVal} {vs : List Value} {C : Nat → Prop}, Conv gw w R asv bs → ALs gw w R (vs.zip asv) C → ALs gw w R (vs.zip bs) C
  | [], [], vs, C, _, h => h
  | a :: asv, b :: bs, [], C, _, h => h
  | a :: asv, b :: bs, v :: vs, C, hc, h => by
    obtain ⟨S0, S1, g2, g3, g4, g5⟩ := ALs.tail (show ALs gw w R ((v, a) :: vs.zip asv) C from h)
    exact ALs.cons (p := (v, b)) (hc.1.1 v S0 g2) (Conv.als hc.2 g3) g4 g5
  | [], _ :: _, _, _, h, _ => h.elim
  | _ :: _, [], _, _, h, _ => h.elim
theorem Conv.own : ∀ {asv bs : List AVal} {vs : List Value}, Conv gw w R asv bs → ownVals asv vs = ownVals bs vs ∧ asv.length = bs.length
  | [], [], vs, _ => ⟨rfl, rfl⟩
  | a :: asv, b :: bs, [], h => ⟨rfl, by simp [(Conv.own (vs := []) h.2).2]⟩
  | a :: asv, b :: bs, v :: vs, h => by
    obtain ⟨g1, g2⟩ := Conv.own (vs := vs) h.2
    refine ⟨?_, by simp [g2]⟩
    simp only [ownVals, h.1.2, g1]
  | [], _ :: _, _, h => h.elim
  | _ :: _, [], _, h => h.elim
theorem callee_mkG {f : Nat} {fn : Func} {code : Code} {ps rs : List PK} {nr : Nat} {gp : List GP} {gb : Nat} {G : PK.dens ps → Option (PK.dens rs)} (hf : P.funcs[f]? = some fn) (hb : fn.body = some code) (henv : EnvOk P env) (hm : P.follows .mixedOrders = true)
    (hlo : LoOk P env or fn.ntmps (loopsIn code)) (hgb : gp = [] ∨ gb = fn.ntmps) (hev : ∀ x y, G x = some y → evalFn P env or fn (PK.outs ps x) gp.length = some (tupOf ((PK.outs rs y).take nr), (PK.outs rs y).drop nr)) : CalleeOk P f (mkG ps nr rs gp gb G) := by
  intro w R Io F vs us ds x y hlen hgl _ hals hF hIo hR hinn hG
  have hgl : us.length = gp.length := hgl
  have hc : ∀ gw, Conv gw w R ds (PK.outs ps x) := fun gw => PK.inns_canon hinn
  obtain ⟨o1, o2⟩ := (hc (gnil w)).own (vs := vs ++ us)
  have hals : ALs ⟨w, R, parG vs us fn.ntmps, F⟩ w R ((vs ++ us).zip ds) Io := by
    rcases hgb with e | e
    · have hu : us = [] := List.eq_nil_of_length_eq_zero (by rw [hgl, e]; rfl)
      subst hu
      rw [parG_nil vs fn.ntmps gb]; exact hals
    · rw [← e]; exact hals
  have := call_of hf hb henv hm hlo (by rw [hlen, o2]) ((hc _).als hals) hF hIo hR (by rw [hgl]; exact hev x y hG)
  refine this.mono fun e w' h => ?_
  unfold Left at h
  rw [← o1] at h
  exact h
theorem callee_mk {f : Nat} {fn : Func} {code : Code} {ps rs : List PK} {nr : Nat} {G : PK.dens ps → Option (PK.dens rs)} (hf : P.funcs[f]? = some fn) (hb : fn.body = some code) (henv : EnvOk P env) (hm : P.follows .mixedOrders = true)
    (hlo : LoOk P env or fn.ntmps (loopsIn code)) (hev : ∀ x y, G x = some y → evalFn P env or fn (PK.outs ps x) = some (tupOf ((PK.outs rs y).take nr), (PK.outs rs y).drop nr)) : CalleeOk P f (mkC ps nr rs G) := by
  intro w R Io F vs us ds x y hlen hgl hgb hals hF hIo hR hinn hG
  exact callee_mkG (gp := []) (gb := 0) hf hb henv hm hlo (.inl rfl) hev w R Io F vs us ds x y hlen hgl hgb hals hF hIo hR hinn hG
theorem LoOk.nil {n : Nat} {l : List Code} (h : l = []) : LoOk P env or n l := fun b hb => by rw [h] at hb; simp at hb
def addE (f : Nat) (c : Callee) (env : Nat → Option Callee) (n : Nat) : Option Callee := if n = f then some c else env n
theorem EnvOk.add {f : Nat} {fn : Func} {code : Code} {c : Callee} (h : EnvOk P env) (hf : P.funcs[f]? = some fn) (hb : fn.body = some code) (hname : (fn.name == "runtime.NumGoroutine") = false) (hc : CalleeOk P f c) : EnvOk P (addE f c env) where
  ok := fun g cl hg => by
    unfold addE at hg
    split at hg
    · rename_i e; cases hg; subst e; exact hc
    · exact h.ok g cl hg
  enter := fun g cl hg args w => by
    unfold addE at hg
    split at hg
    · rename_i e
      subst e
      have h1 : fn.name ≠ "runtime.NumGoroutine" := by simpa using hname
      simp [callFunc, hf, h1, hb]
    · exact h.enter g cl hg args w
def env0 : Nat → Option Callee := fun _ => none
theorem EnvOk.nil : EnvOk P env0 := ⟨fun _ _ h => (by cases h), fun _ _ h => (by cases h)⟩
def Par {α β : Type} (f : α → Option β) (A : Option α) (B : Option β) : Prop := ∀ y, A = some y → B = f y
theorem Par.cond {α β : Type} {f : α → Option β} {c : Bool} {A A' : Option α} {B B' : Option β} (h : Par f A B) (h' : Par f A' B') : Par f (cond c A A') (cond c B B') := by
  cases c
  · exact h'
  · exact h
theorem Par.bind {α β γ : Type} {f : α → Option β} {e : Option γ} {A : γ → Option α} {B : γ → Option β} (h : ∀ v, Par f (A v) (B v)) : Par f (e.bind A) (e.bind B) := by
  cases e with
  | none => exact fun y hy => (by cases hy)
  | some v => exact h v
theorem Par.fin {α β : Type} {f : α → Option β} {y : α} : Par f (some y) (f y) := fun z hz => by cases hz; rfl
theorem Par.of_eq {α β : Type} {f : α → Option β} {A : Option α} {B B' : Option β} (e : B = B') (h : Par f A B') : Par f A B := by rw [e]; exact h
theorem Par.none {α β : Type} {f : α → Option β} {B : Option β} : Par f Option.none B := fun z hz => (by cases hz)
end Go.OAI
