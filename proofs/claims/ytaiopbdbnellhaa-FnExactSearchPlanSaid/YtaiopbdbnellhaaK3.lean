/- Limits of rounds: loops and recursions without fuel. -/
import Derived.Test.YtaiopbdbnellhaaK2
namespace Go.OAI
set_option linter.unusedVariables false

section
variable {X Y : Type}
def iter (F : (X → Option Y) → X → Option Y) : Nat → X → Option Y
  | 0, _ => none
  | k + 1, x => F (iter F k) x
open Classical in
/-- What the rounds come to, if they come to an end. -/
noncomputable def lim (F : (X → Option Y) → X → Option Y) (x : X) : Option Y :=
  if h : ∃ y, ∃ k, iter F k x = some y then some h.choose else none

/-- Continuity in what is called. -/
def Ct {Z : Type} (A : (X → Option Y) → Option Z) : Prop :=
  ∀ (r : X → Option Y) (c : Nat → X → Option Y), (∀ i j, i ≤ j → ∀ x y, c i x = some y → c j x = some y) →
    (∀ x y, r x = some y → ∃ k, c k x = some y) → ∀ z, A r = some z → ∃ k, A (c k) = some z
variable {Z V : Type}
theorem Ct.mono {A : (X → Option Y) → Option Z} (h : Ct A) {r r' : X → Option Y} (hr : ∀ x y, r x = some y → r' x = some y) {z : Z} (hz : A r = some z) : A r' = some z := by
  obtain ⟨_, hk⟩ := h r (fun _ => r') (fun _ _ _ _ _ h => h) (fun x y h => ⟨0, hr x y h⟩) z hz
  exact hk
theorem Ct.const {a : Option Z} : Ct (X := X) (Y := Y) fun _ => a := fun _ _ _ _ z hz => ⟨0, hz⟩
theorem Ct.call {x : X} : Ct (Y := Y) fun r => r x := fun r c _ h z hz => h x z hz
theorem Ct.cond {b : Bool} {A B : (X → Option Y) → Option Z} (h : Ct A) (h' : Ct B) : Ct fun r => _root_.cond b (A r) (B r) := by
  cases b
  · exact h'
  · exact h
theorem Ct.bind {A : (X → Option Y) → Option V} {B : V → (X → Option Y) → Option Z} (h : Ct A) (h' : ∀ v, Ct (B v)) : Ct fun r => (A r).bind fun v => B v r := by
  intro r c hc hr z hz
  have hz : (A r).bind (fun v => B v r) = some z := hz
  cases hA : A r with
  | none => rw [hA] at hz; cases hz
  | some v =>
    rw [hA] at hz
    have hz : B v r = some z := hz
    obtain ⟨k, hk⟩ := h r c hc hr v hA
    obtain ⟨l, hl⟩ := h' v r c hc hr z hz
    refine ⟨max k l, ?_⟩
    have e1 := h.mono (hc k (max k l) (Nat.le_max_left _ _)) hk
    have e2 := (h' v).mono (hc l (max k l) (Nat.le_max_right _ _)) hl
    show (A (c (max k l))).bind _ = _
    rw [e1]
    exact e2
theorem Ct.sum {A B : Type} {y : A ⊕ B} {f : A → (X → Option Y) → Option Z} {g : B → (X → Option Y) → Option Z} (h : ∀ a, Ct (f a)) (h' : ∀ b, Ct (g b)) : Ct fun r => sumO y (fun a => f a r) (fun b => g b r) := by
  cases y with
  | inl a => exact h a
  | inr b => exact h' b

theorem iter_up {F : (X → Option Y) → X → Option Y} (h : ∀ x, Ct fun r => F r x) : ∀ i j, i ≤ j → ∀ x y, iter F i x = some y → iter F j x = some y
  | 0, j, _, x, y, e => by cases e
  | i + 1, j + 1, hij, x, y, e => (h x).mono (iter_up h i j (Nat.le_of_succ_le_succ hij)) e
theorem lim_some {F : (X → Option Y) → X → Option Y} {x : X} {y : Y} (e : lim F x = some y) : ∃ k, iter F k x = some y := by
  unfold lim at e
  split at e
  · rename_i h
    cases e
    exact h.choose_spec
  · cases e
theorem lim_of {F : (X → Option Y) → X → Option Y} (h : ∀ x, Ct fun r => F r x) {x : X} {y : Y} {k : Nat} (e : iter F k x = some y) : lim F x = some y := by
  unfold lim
  split
  · rename_i hx
    obtain ⟨k', hk'⟩ := hx.choose_spec
    have a := iter_up h k (max k k') (Nat.le_max_left _ _) x _ e
    have b := iter_up h k' (max k k') (Nat.le_max_right _ _) x _ hk'
    rw [a] at b
    exact b.symm
  · rename_i hx
    exact absurd ⟨y, k, e⟩ hx
theorem lim_eq {F : (X → Option Y) → X → Option Y} (h : ∀ x, Ct fun r => F r x) (x : X) : lim F x = F (lim F) x := by
  cases hA : F (lim F) x with
  | some y =>
    obtain ⟨k, hk⟩ := h x (lim F) (iter F) (iter_up h) (fun x y e => lim_some e) y hA
    exact lim_of h (k := k + 1) hk
  | none =>
    cases hB : lim F x with
    | none => rfl
    | some y =>
      obtain ⟨k, hk⟩ := lim_some hB
      cases k with
      | zero => cases hk
      | succ k =>
        have := (h x).mono (r' := lim F) (fun x y e => lim_of h e) hk
        rw [hA] at this
        cases this
end

section
variable {X Y A B : Type}
/-- A loop inside a function that calls itself. -/
theorem Ct.lim {F : (X → Option Y) → (A → Option B) → A → Option B} (hF : ∀ r a, Ct fun l => F r l a) (h : ∀ (D : A → (X → Option Y) → Option B), (∀ a, Ct (D a)) → ∀ a, Ct fun r => F r (fun a => D a r) a) (a : A) : Ct fun r => Go.OAI.lim (F r) a := by
  have key : ∀ k a, Ct fun r => iter (F r) k a := by
    intro k
    induction k with
    | zero => exact fun a => Ct.const
    | succ k ih => exact fun a => h (fun a r => iter (F r) k a) ih a
  intro r c hc hr z hz
  obtain ⟨k, hk⟩ := lim_some hz
  obtain ⟨l, hl⟩ := key k a r c hc hr z hk
  exact ⟨l, lim_of (hF _) hl⟩
end

variable {P : Program} {env : Nat → Option Callee} {or : Ora}

/-- A loop by its round. -/
theorem loop_lim {n : Nat} {b : Code} {h : GCH} {hs : LS} {I : Type} {xs : List (XS I)} {X : Type} {ι : hs.den → I} {φ : hs.den → X} {ψ : I → X → hs.den} {F : I → (X → Option (XS.Y xs)) → X → Option (XS.Y xs)}
    (hψ : ∀ x, ψ (ι x) (φ x) = x)
    (hstep : ∀ i k, (∀ v, Par (fun y => some (XS.out xs i y)) (iter (F i) k v) (loopC P env or b h (XS.ho xs) n k (hs.out (ψ i v)))) → ∀ v, Par (fun y => some (XS.out xs i y)) (F i (iter (F i) k) v) (loopC P env or b h (XS.ho xs) n (k + 1) (hs.out (ψ i v)))) :
    LoopOk P env or n b (mkL h hs xs ι fun x => lim (F (ι x)) (φ x)) := by
  intro c x y hx hy
  have hc : c = hs.out x := LS.inn_eq hx
  subst hc
  obtain ⟨k, hk⟩ := lim_some hy
  have key : ∀ i k v, Par (fun y => some (XS.out xs i y)) (iter (F i) k v) (loopC P env or b h (XS.ho xs) n k (hs.out (ψ i v))) := by
    intro i k
    induction k with
    | zero => intro v y hy; cases hy
    | succ k ih => exact hstep i k ih
  have := key (ι x) k (φ x) y hk
  have e : ψ (ι x) (φ x) = x := hψ x
  rw [e] at this
  exact ⟨k, this⟩

/-- A function that calls itself, by its round. -/
theorem callee_rec {f : Nat} {ps rs : List PK} {nr : Nat} {F : (PK.dens ps → Option (PK.dens rs)) → PK.dens ps → Option (PK.dens rs)}
    (hstep : ∀ G, CalleeOk P f (mkC ps nr rs G) → CalleeOk P f (mkC ps nr rs (F G))) : CalleeOk P f (mkC ps nr rs (lim F)) := by
  have key : ∀ k, CalleeOk P f (mkC ps nr rs (iter F k)) := by
    intro k
    induction k with
    | zero => intro w R Io vs ds x y hlen hals hIo hR hinn hG; cases hG
    | succ k ih => exact hstep _ ih
  intro w R Io vs ds x y hlen hals hIo hR hinn hG
  obtain ⟨k, hk⟩ := lim_some hG
  exact key k w R Io vs ds x y hlen hals hIo hR hinn hk
end Go.OAI
