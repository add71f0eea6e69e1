/- Loops by the kinds of their slots and objects. Limits of rounds: loops and recursions without fuel. -/
import Derived.Test.YtejiaikhdjanoaaGreatK1
namespace Go.OAI
set_option linter.unusedVariables false
variable {P : Program} {env : Nat → Option Callee} {or : Ora}
inductive FV where
  | und | nils | ptr (id c : Nat) | sref (id : Nat) | fn (f : Nat) (caps : List (Nat × Nat)) | rptr (ts : List Nat) (c : Nat) | cfn (f : Nat) (ts : List Nat)
def FV.av : FV → AVal
  | .und => .undef | .nils => .nils | .ptr id c => .ptr id c | .sref id => .sref id none none | .fn f caps => .fn f (caps.map fun p => .ptr p.1 p.2) | .rptr ts c => .rptr ts c | .cfn f ts => .cfn f ts
def capsFit : List (Nat × Nat) → List AVal → Bool
  | [], [] => true
  | (i, c) :: r, .ptr j d :: s => (decide (i = j) && decide (c = d)) && capsFit r s
  | _, _ => false
theorem capsFit_eq : ∀ {r : List (Nat × Nat)} {s : List AVal}, capsFit r s = true → s = r.map fun p => .ptr p.1 p.2
  | [], [], _ => rfl
  | (i, c) :: r, .ptr j d :: s, h => by
    simp only [capsFit, Bool.and_eq_true, decide_eq_true_eq] at h
    rw [capsFit_eq h.2, ← h.1.1, ← h.1.2]; rfl
  | [], _ :: _, h => by simp [capsFit] at h
  | _ :: _, [], h => by simp [capsFit] at h
  | (_, _) :: _, x :: _, h => by cases x <;> first | (simp [capsFit] at h; done) | (simp only [capsFit, Bool.and_eq_true, decide_eq_true_eq] at h; obtain ⟨⟨h1, h2⟩, h3⟩ := h; rw [capsFit_eq h3, ← h1, ← h2]; rfl)
def FV.fits : FV → AVal → Bool
  | .und, .undef => true | .nils, .nils => true
  | .ptr i c, .ptr j d => decide (i = j) && decide (c = d)
  | .sref i, .sref j none none => decide (i = j)
  | .fn f cs, .fn g ds => decide (f = g) && capsFit cs ds
  | .rptr ts c, .rptr us d => decide (ts = us) && decide (c = d)
  | .cfn f ts, .cfn g us => decide (f = g) && decide (ts = us)
  | _, _ => false
theorem FV.fits_eq : ∀ {f : FV} {v : AVal}, f.fits v = true → v = f.av := by
  intro f v h
  unfold FV.fits at h
  split at h
  · rfl
  · rfl
  · simp at h; simp [FV.av, h]
  · simp at h; simp [FV.av, h]
  · simp only [Bool.and_eq_true, decide_eq_true_eq] at h
    simp only [FV.av, h.1, capsFit_eq h.2]
  · simp at h; simp [FV.av, h]
  · simp at h; simp [FV.av, h]
  · cases h
inductive SK where
  | dat (T : Ty) | fix (v : FV) | win (id : Nat)
@[reducible] def SK.den : SK → Type
  | .dat T => T.den | .fix _ => Unit | .win _ => Nat × Nat
def SK.out : (s : SK) → s.den → AVal
  | .dat T, x => (T.flat x).headD .undef | .fix v, _ => v.av | .win id, x => .sref id none (some x)
def datIn : (T : Ty) → AVal → Option T.den
  | .int k, .int k' n => if k' = k then some n else none
  | .bool, .bool b => some b
  | .str, .str s => some s
  | .slice t, .sl t' l => if h : t' = t then some (Ty.castL h l) else none
  | _, _ => none
def SK.inn : (s : SK) → AVal → Option s.den
  | .dat T, v => datIn T v
  | .fix f, v => match f.fits v with
    | true => some ()
    | false => none
  | .win id, .sref j none (some x) => match decide (j = id) with
    | true => some x
    | false => none
  | .win _, _ => none
theorem datIn_eq : ∀ {T : Ty} {v : AVal} {x : T.den}, datIn T v = some x → v = (T.flat x).headD .undef
  | .int k, .int k' n, x, h => by
    simp only [datIn] at h
    split at h
    · rename_i e; cases h; subst e; rfl
    · cases h
  | .bool, .bool b, x, h => by cases h; rfl
  | .str, .str b, x, h => by cases h; rfl
  | .slice t, .sl t' l, x, h => by
    simp only [datIn] at h
    split at h
    · rename_i e; cases h; subst e; rfl
    · cases h
  | .pair _ _, v, _, h => by simp [datIn] at h
  | .unit, v, _, h => by simp [datIn] at h
  | .int _, .undef, _, h | .int _, .bool _, _, h | .int _, .str _, _, h | .int _, .sl _ _, _, h | .int _, .nils, _, h | .int _, .agg _, _, h | .int _, .tup _, _, h | .int _, .vptr _ _, _, h | .int _, .sref _ _ _, _, h | .int _, .ptr _ _, _, h | .int _, .eptr _ _ _ _, _, h | .int _, .osl _ _, _, h | .int _, .omat _ _, _, h | .int _, .obox _, _, h | .int _, .fn _ _, _, h => by simp [datIn] at h
  | .bool, .undef, _, h | .bool, .int _ _, _, h | .bool, .str _, _, h | .bool, .sl _ _, _, h | .bool, .nils, _, h | .bool, .agg _, _, h | .bool, .tup _, _, h | .bool, .vptr _ _, _, h | .bool, .sref _ _ _, _, h | .bool, .ptr _ _, _, h | .bool, .eptr _ _ _ _, _, h | .bool, .osl _ _, _, h | .bool, .omat _ _, _, h | .bool, .obox _, _, h | .bool, .fn _ _, _, h => by simp [datIn] at h
  | .str, .undef, _, h | .str, .int _ _, _, h | .str, .bool _, _, h | .str, .sl _ _, _, h | .str, .nils, _, h | .str, .agg _, _, h | .str, .tup _, _, h | .str, .vptr _ _, _, h | .str, .sref _ _ _, _, h | .str, .ptr _ _, _, h | .str, .eptr _ _ _ _, _, h | .str, .osl _ _, _, h | .str, .omat _ _, _, h | .str, .obox _, _, h | .str, .fn _ _, _, h => by simp [datIn] at h
  | .slice _, .undef, _, h | .slice _, .int _ _, _, h | .slice _, .bool _, _, h | .slice _, .str _, _, h | .slice _, .nils, _, h | .slice _, .agg _, _, h | .slice _, .tup _, _, h | .slice _, .vptr _ _, _, h | .slice _, .sref _ _ _, _, h | .slice _, .ptr _ _, _, h | .slice _, .eptr _ _ _ _, _, h | .slice _, .osl _ _, _, h | .slice _, .omat _ _, _, h | .slice _, .obox _, _, h | .slice _, .fn _ _, _, h => by simp [datIn] at h
theorem SK.inn_eq {s : SK} {v : AVal} {x : s.den} (h : s.inn v = some x) : v = s.out x := by
  cases s with
  | dat T => exact datIn_eq h
  | fix f =>
    simp only [SK.inn] at h
    split at h
    · rename_i e; exact FV.fits_eq e
    · cases h
  | win id =>
    cases v
    case sref j row w =>
      cases row with
      | some r => simp [SK.inn] at h
      | none =>
        cases w with
        | none => simp [SK.inn] at h
        | some y =>
          simp only [SK.inn] at h
          split at h
          · rename_i e
            have e := of_decide_eq_true e
            subst e
            cases h
            rfl
          · cases h
    all_goals simp [SK.inn] at h
@[reducible] def SK.dens : List SK → Type
  | [] => Unit
  | s :: r => s.den × SK.dens r
def SK.outs : (l : List SK) → SK.dens l → List AVal
  | [], _ => []
  | s :: r, x => s.out x.1 :: SK.outs r x.2
def SK.inns : (l : List SK) → List AVal → Option (SK.dens l)
  | [], [] => some ()
  | s :: r, v :: vs => match s.inn v with
    | some x => match SK.inns r vs with
      | some y => some (x, y)
      | none => none
    | none => none
  | _, _ => none
theorem SK.inns_eq : ∀ {l : List SK} {vs : List AVal} {x : SK.dens l}, SK.inns l vs = some x → vs = SK.outs l x
  | [], [], x, h => rfl
  | s :: r, v :: vs, x, h => by
    simp only [SK.inns] at h
    split at h
    · rename_i x1 h1
      split at h
      · rename_i x2 h2
        cases h
        simp only [SK.outs]
        rw [← SK.inn_eq h1, ← SK.inns_eq h2]
      · cases h
    · cases h
  | [], _ :: _, x, h => by simp [SK.inns] at h
  | _ :: _, [], x, h => by simp [SK.inns] at h
inductive SS where
  | one (s : SK) | agg (cs : List SK)
@[reducible] def SS.den : SS → Type
  | .one s => s.den | .agg cs => SK.dens cs
def SS.out : (s : SS) → s.den → AVal
  | .one s, x => s.out x | .agg cs, x => .agg (SK.outs cs x)
def SS.inn : (s : SS) → AVal → Option s.den
  | .one s, v => s.inn v
  | .agg cs, .agg vs => SK.inns cs vs
  | .agg _, _ => none
theorem SS.inn_eq {s : SS} {v : AVal} {x : s.den} (h : s.inn v = some x) : v = s.out x := by
  cases s with
  | one s => exact SK.inn_eq (s := s) h
  | agg cs =>
    cases v <;> simp only [SS.inn] at h <;> first
      | (cases h; done)
      | (simp only [SS.out]; rw [SK.inns_eq h])
@[reducible] def SS.dens : List SS → Type
  | [] => Unit
  | s :: r => s.den × SS.dens r
def SS.outs : (l : List SS) → SS.dens l → List AVal
  | [], _ => []
  | s :: r, x => s.out x.1 :: SS.outs r x.2
def SS.inns : (l : List SS) → List AVal → Option (SS.dens l)
  | [], [] => some ()
  | s :: r, v :: vs => match s.inn v with
    | some x => match SS.inns r vs with
      | some y => some (x, y)
      | none => none
    | none => none
  | _, _ => none
theorem SS.inns_eq : ∀ {l : List SS} {vs : List AVal} {x : SS.dens l}, SS.inns l vs = some x → vs = SS.outs l x
  | [], [], x, h => rfl
  | s :: r, v :: vs, x, h => by
    simp only [SS.inns] at h
    split at h
    · rename_i x1 h1
      split at h
      · rename_i x2 h2
        cases h
        simp only [SS.outs]
        rw [← SS.inn_eq h1, ← SS.inns_eq h2]
      · cases h
    · cases h
  | [], _ :: _, x, h => by simp [SS.inns] at h
  | _ :: _, [], x, h => by simp [SS.inns] at h
inductive OK where
  | box (cs : List SK) | sl (T : Ty) | mat (T : Ty)
@[reducible] def OK.den : OK → Type
  | .box cs => SK.dens cs | .sl T => List T.den | .mat T => List (List T.den)
def OK.out : (o : OK) → o.den → Obj
  | .box cs, x => .box (SK.outs cs x) | .sl T, l => .sl T l | .mat T, l => .mat T l
def OK.inn : (o : OK) → Obj → Option o.den
  | .box cs, .box vs => SK.inns cs vs
  | .sl T, .sl U l => if h : U = T then some (Ty.castL h l) else none
  | .mat T, .mat U l => if h : U = T then some (h ▸ l) else none
  | _, _ => none
theorem OK.inn_eq {o : OK} {v : Obj} {x : o.den} (h : o.inn v = some x) : v = o.out x := by
  cases o <;> cases v <;> simp only [OK.inn] at h <;> first
    | (cases h; done)
    | skip
  · simp only [OK.out]; rw [SK.inns_eq h]
  · split at h
    · rename_i e; cases h; subst e; rfl
    · cases h
  · split at h
    · rename_i e; cases h; subst e; rfl
    · cases h
@[reducible] def OK.dens : List OK → Type
  | [] => Unit
  | s :: r => s.den × OK.dens r
def OK.outs : (l : List OK) → OK.dens l → List Obj
  | [], _ => []
  | s :: r, x => s.out x.1 :: OK.outs r x.2
def OK.inns : (l : List OK) → List Obj → Option (OK.dens l)
  | [], [] => some ()
  | s :: r, v :: vs => match s.inn v with
    | some x => match OK.inns r vs with
      | some y => some (x, y)
      | none => none
    | none => none
  | _, _ => none
theorem OK.inns_eq : ∀ {l : List OK} {vs : List Obj} {x : OK.dens l}, OK.inns l vs = some x → vs = OK.outs l x
  | [], [], x, h => rfl
  | s :: r, v :: vs, x, h => by
    simp only [OK.inns] at h
    split at h
    · rename_i x1 h1
      split at h
      · rename_i x2 h2
        cases h
        simp only [OK.outs]
        rw [← OK.inn_eq h1, ← OK.inns_eq h2]
      · cases h
    · cases h
  | [], _ :: _, x, h => by simp [OK.inns] at h
  | _ :: _, [], x, h => by simp [OK.inns] at h
structure LS where
  slots : List (Nat × SS)
  objs : List OK
  pr : List Nat := []
@[reducible] def LS.den (s : LS) : Type := SS.dens (s.slots.map (·.2)) × OK.dens s.objs
def zipS : List (Nat × SS) → List AVal → List (Nat × AVal)
  | (n, _) :: r, v :: vs => (n, v) :: zipS r vs
  | _, _ => []
def LS.out (s : LS) (x : s.den) : Can := ⟨zipS s.slots (SS.outs _ x.1), OK.outs _ x.2, s.pr⟩
def nums : List (Nat × SS) → List (Nat × AVal) → Bool
  | [], [] => true
  | (n, _) :: r, (m, _) :: vs => decide (m = n) && nums r vs
  | _, _ => false
def LS.inn (s : LS) (c : Can) : Option s.den :=
  match nums s.slots c.slots && decide (c.pr = s.pr) with
  | true => match SS.inns (s.slots.map (·.2)) (c.slots.map (·.2)), OK.inns s.objs c.objs with
    | some x, some y => some (x, y)
    | _, _ => none
  | false => none
theorem zipS_map : ∀ {l : List (Nat × SS)} {vs : List (Nat × AVal)}, nums l vs = true → zipS l (vs.map (·.2)) = vs
  | [], [], _ => rfl
  | (n, s) :: r, (m, v) :: vs, h => by
    simp only [nums, Bool.and_eq_true, decide_eq_true_eq] at h
    simp only [List.map_cons, zipS]
    rw [zipS_map h.2, h.1]
  | [], _ :: _, h => by simp [nums] at h
  | _ :: _, [], h => by simp [nums] at h
theorem LS.inn_eq {s : LS} {c : Can} {x : s.den} (h : s.inn c = some x) : c = s.out x := by
  unfold LS.inn at h
  split at h
  · rename_i hn
    rw [Bool.and_eq_true] at hn
    have hp := of_decide_eq_true hn.2
    split at h
    · rename_i x1 x2 h1 h2
      cases h
      have e1 := SS.inns_eq h1
      have e2 := OK.inns_eq h2
      obtain ⟨sl, ob, pr⟩ := c
      simp only [LS.out] at *
      rw [← e1, zipS_map hn.1, ← e2, hp]
    · cases h
  · cases h
structure XS (I : Type) where
  e : Ex
  h : GCH
  s : LS
  D : Type
  θ : I → D → s.den
@[reducible] def XS.Y {I : Type} : List (XS I) → Type
  | [] => Empty
  | x :: r => match r with
    | [] => x.D
    | _ :: _ => x.D ⊕ XS.Y r
def XS.out {I : Type} : (l : List (XS I)) → I → XS.Y l → Ex × Can
  | [], i, y => nomatch y
  | [x], i, y => (x.e, x.s.out (x.θ i y))
  | x :: x' :: r, i, y => match y with
    | .inl a => (x.e, x.s.out (x.θ i a))
    | .inr b => XS.out (x' :: r) i b
def XS.elim {I R : Type} : (l : List (XS I)) → I → XS.Y l → (Ex → Can → Option R) → Option R
  | [], i, y, _ => nomatch y
  | [x], i, y, K => K x.e (x.s.out (x.θ i y))
  | x :: x' :: r, i, y, K => sumO y (fun a => K x.e (x.s.out (x.θ i a))) (fun b => XS.elim (x' :: r) i b K)
theorem XS.law {I R : Type} : ∀ (l : List (XS I)) (i : I) (y : XS.Y l) (K : Ex → Can → Option R), XS.elim l i y K = K (XS.out l i y).1 (XS.out l i y).2
  | [], i, y, _ => nomatch y
  | [x], i, y, K => rfl
  | x :: x' :: r, i, .inl a, K => rfl
  | x :: x' :: r, i, .inr b, K => XS.law (x' :: r) i b K
def XS.ho {I : Type} : List (XS I) → Ex → GCH
  | [], _ => ⟨[], [], [], []⟩
  | x :: r, e => if e = x.e then x.h else XS.ho r e
def mkL (h : GCH) (hs : LS) {I : Type} (xs : List (XS I)) (ι : hs.den → I) (G : hs.den → Option (XS.Y xs)) : Loop :=
  { h := h, ho := XS.ho xs, X := hs.den, Y := XS.Y xs, inn := hs.inn, G := G, out := fun x => XS.out xs (ι x), elim := fun x => XS.elim xs (ι x), law := fun x => XS.law xs (ι x) }
def addL (k : Nat) (L : Loop) (lo : Nat → Option Loop) (n : Nat) : Option Loop := if n = k then some L else lo n
def lo0 : Nat → Option Loop := fun _ => none
theorem Par.sum {A B α β : Type} {f : α → Option β} {y : A ⊕ B} {g : A → Option α} {g' : A → Option β} {k : B → Option α} {k' : B → Option β} (h : ∀ a, Par f (g a) (g' a)) (h' : ∀ b, Par f (k b) (k' b)) : Par f (sumO y g k) (sumO y g' k') := by
  cases y with
  | inl a => exact h a
  | inr b => exact h' b
def LoopOk (P : Program) (env : Nat → Option Callee) (or : Ora) (n : Nat) (b : Code) (L : Loop) : Prop :=
  ∀ c x y, L.inn c = some x → L.G x = some y → ∃ m, loopC P env or b L.h L.ho n m c = some (L.out x y)
def codeOf (fn : Func) : Code :=
  match fn.body with
  | some c => c
  | none => .skip
theorem LoOk.mk {n m : Nat} {l : List Code} (hl : l.length = m) (h : ∀ i, i < m → ∃ L, or.lo (keyOf (l.getD i .skip)) = some L ∧ LoopOk P env or n (l.getD i .skip) L) : LoOk P env or n l := by
  intro b hb L hL
  obtain ⟨i, hi, rfl⟩ := List.getElem_of_mem hb
  obtain ⟨L', h1, h2⟩ := h i (by omega)
  have e : l.getD i .skip = l[i] := by simp [List.getD, hi]
  rw [e] at h1 h2
  rw [hL] at h1
  cases h1
  exact h2
section
variable {X Y : Type}
def iter (F : (X → Option Y) → X → Option Y) : Nat → X → Option Y
  | 0, _ => none
  | k + 1, x => F (iter F k) x
open Classical in
/-- What the rounds come to, if they come to an end. -/
noncomputable def lim (F : (X → Option Y) → X → Option Y) (x : X) : Option Y :=
  if h : ∃ y, ∃ k, iter F k x = some y then some h.choose else none
def Ct {Z : Type} (A : (X → Option Y) → Option Z) : Prop :=
  ∀ (r : X → Option Y) (c : Nat → X → Option Y), (∀ i j, i ≤ j → ∀ x y, c i x = some y → c j x = some y) →
    (∀ x y, r x = some y → ∃ k, c k x = some y) → ∀ z, A r = some z → ∃ k, A (c k) = some z
variable {Z V : Type}
theorem Ct.mono {A : (X → Option Y) → Option Z} (h : Ct A) {r r' : X → Option Y} (hr : ∀ x y, r x = some y → r' x = some y) {z : Z} (hz : A r = some z) : A r' = some z := by
  obtain ⟨_, hk⟩ := h r (fun _ => r') (fun _ _ _ _ _ h => h) (fun x y h => ⟨0, hr x y h⟩) z hz
  exact hk
theorem Ct.const {a : Option Z} : Ct (X := X) (Y := Y) fun _ => a := fun _ _ _ _ z hz => ⟨0, hz⟩
theorem Ct.call {x : X} : Ct (Y := Y) fun r => r x := fun r c _ h z hz => h x z hz
theorem Ct.cond {b : Bool} {A B : (X → Option Y) → Option Z} (h : Ct A) (h' : Ct B) : Ct fun r => _root_.cond b (A r) (B r) := by
  cases b
  · exact h'
  · exact h
theorem Ct.bind {A : (X → Option Y) → Option V} {B : V → (X → Option Y) → Option Z} (h : Ct A) (h' : ∀ v, Ct (B v)) : Ct fun r => (A r).bind fun v => B v r := by
  intro r c hc hr z hz
  have hz : (A r).bind (fun v => B v r) = some z := hz
  cases hA : A r with
  | none => rw [hA] at hz; cases hz
  | some v =>
    rw [hA] at hz
    have hz : B v r = some z := hz
    obtain ⟨k, hk⟩ := h r c hc hr v hA
    obtain ⟨l, hl⟩ := h' v r c hc hr z hz
    refine ⟨max k l, ?_⟩
    have e1 := h.mono (hc k (max k l) (Nat.le_max_left _ _)) hk
    have e2 := (h' v).mono (hc l (max k l) (Nat.le_max_right _ _)) hl
    show (A (c (max k l))).bind _ = _
    rw [e1]
    exact e2
theorem Ct.sum {A B : Type} {y : A ⊕ B} {f : A → (X → Option Y) → Option Z} {g : B → (X → Option Y) → Option Z} (h : ∀ a, Ct (f a)) (h' : ∀ b, Ct (g b)) : Ct fun r => sumO y (fun a => f a r) (fun b => g b r) := by
  cases y with
  | inl a => exact h a
  | inr b => exact h' b
theorem iter_up {F : (X → Option Y) → X → Option Y} (h : ∀ x, Ct fun r => F r x) : ∀ i j, i ≤ j → ∀ x y, iter F i x = some y → iter F j x = some y
  | 0, j, _, x, y, e => by cases e
  | i + 1, j + 1, hij, x, y, e => (h x).mono (iter_up h i j (Nat.le_of_succ_le_succ hij)) e
theorem lim_some {F : (X → Option Y) → X → Option Y} {x : X} {y : Y} (e : lim F x = some y) : ∃ k, iter F k x = some y := by
  unfold lim at e
  split at e
  · rename_i h
    cases e
    exact h.choose_spec
  · cases e
theorem lim_of {F : (X → Option Y) → X → Option Y} (h : ∀ x, Ct fun r => F r x) {x : X} {y : Y} {k : Nat} (e : iter F k x = some y) : lim F x = some y := by
  unfold lim
  split
  · rename_i hx
    obtain ⟨k', hk'⟩ := hx.choose_spec
    have a := iter_up h k (max k k') (Nat.le_max_left _ _) x _ e
    have b := iter_up h k' (max k k') (Nat.le_max_right _ _) x _ hk'
    rw [a] at b
    exact b.symm
  · rename_i hx
    exact absurd ⟨y, k, e⟩ hx
theorem lim_eq {F : (X → Option Y) → X → Option Y} (h : ∀ x, Ct fun r => F r x) (x : X) : lim F x = F (lim F) x := by
  cases hA : F (lim F) x with
  | some y =>
    obtain ⟨k, hk⟩ := h x (lim F) (iter F) (iter_up h) (fun x y e => lim_some e) y hA
    exact lim_of h (k := k + 1) hk
  | none =>
    cases hB : lim F x with
    | none => rfl
    | some y =>
      obtain ⟨k, hk⟩ := lim_some hB
      cases k with
      | zero => cases hk
      | succ k =>
        have := (h x).mono (r' := lim F) (fun x y e => lim_of h e) hk
        rw [hA] at this
        cases this
end
section
variable {X Y A B : Type}
theorem Ct.lim {F : (X → Option Y) → (A → Option B) → A → Option B} (hF : ∀ r a, Ct fun l => F r l a) (h : ∀ (D : A → (X → Option Y) → Option B), (∀ a, Ct (D a)) → ∀ a, Ct fun r => F r (fun a => D a r) a) (a : A) : Ct fun r => Go.OAI.lim (F r) a := by
  have key : ∀ k a, Ct fun r => iter (F r) k a := by
    intro k
    induction k with
    | zero => exact fun a => Ct.const
    | succ k ih => exact fun a => h (fun a r => iter (F r) k a) ih a
  intro r c hc hr z hz
  obtain ⟨k, hk⟩ := lim_some hz
  obtain ⟨l, hl⟩ := key k a r c hc hr z hk
  exact ⟨l, lim_of (hF _) hl⟩
end
variable {P : Program} {env : Nat → Option Callee} {or : Ora}
theorem loop_lim {n : Nat} {b : Code} {h : GCH} {hs : LS} {I : Type} {xs : List (XS I)} {X : Type} {ι : hs.den → I} {φ : hs.den → X} {ψ : I → X → hs.den} {F : I → (X → Option (XS.Y xs)) → X → Option (XS.Y xs)}
    (hψ : ∀ x, ψ (ι x) (φ x) = x)
    (hstep : ∀ i k, (∀ v, Par (fun y => some (XS.out xs i y)) (iter (F i) k v) (loopC P env or b h (XS.ho xs) n k (hs.out (ψ i v)))) → ∀ v, Par (fun y => some (XS.out xs i y)) (F i (iter (F i) k) v) (loopC P env or b h (XS.ho xs) n (k + 1) (hs.out (ψ i v)))) :
    LoopOk P env or n b (mkL h hs xs ι fun x => lim (F (ι x)) (φ x)) := by
  intro c x y hx hy
  have hc : c = hs.out x := LS.inn_eq hx
  subst hc
  obtain ⟨k, hk⟩ := lim_some hy
  have key : ∀ i k v, Par (fun y => some (XS.out xs i y)) (iter (F i) k v) (loopC P env or b h (XS.ho xs) n k (hs.out (ψ i v))) := by
    intro i k
    induction k with
    | zero => intro v y hy; cases hy
    | succ k ih => exact hstep i k ih
  have := key (ι x) k (φ x) y hk
  have e : ψ (ι x) (φ x) = x := hψ x
  rw [e] at this
  exact ⟨k, this⟩
theorem callee_rec {f : Nat} {ps rs : List PK} {nr : Nat} {F : (PK.dens ps → Option (PK.dens rs)) → PK.dens ps → Option (PK.dens rs)}
    (hstep : ∀ G, CalleeOk P f (mkC ps nr rs G) → CalleeOk P f (mkC ps nr rs (F G))) : CalleeOk P f (mkC ps nr rs (lim F)) := by
  have key : ∀ k, CalleeOk P f (mkC ps nr rs (iter F k)) := by
    intro k
    induction k with
    | zero => intro w R Io Fx vs us ds x y hlen hgl hgb hals hF hIo hR hinn hG; cases hG
    | succ k ih => exact hstep _ ih
  intro w R Io Fx vs us ds x y hlen hgl hgb hals hF hIo hR hinn hG
  obtain ⟨k, hk⟩ := lim_some hG
  exact key k w R Io Fx vs us ds x y hlen hgl hgb hals hF hIo hR hinn hk
inductive CtI {X Y : Type} : {Z : Type} → ((X → Option Y) → Option Z) → Prop
  | const {Z : Type} {a : Option Z} : CtI fun _ => a
  | call {x : X} : CtI fun r => r x
  | cond {Z : Type} {b : Bool} {A B : (X → Option Y) → Option Z} : CtI A → CtI B → CtI fun r => _root_.cond b (A r) (B r)
  | bind {Z V : Type} {A : (X → Option Y) → Option V} {B : V → (X → Option Y) → Option Z} : CtI A → (∀ v, CtI (B v)) → CtI fun r => (A r).bind fun v => B v r
  | sum {Z A B : Type} {y : A ⊕ B} {f : A → (X → Option Y) → Option Z} {g : B → (X → Option Y) → Option Z} : (∀ a, CtI (f a)) → (∀ b, CtI (g b)) → CtI fun r => sumO y (fun a => f a r) (fun b => g b r)
  | of {Z : Type} {A : (X → Option Y) → Option Z} : Ct A → CtI A
theorem CtI.ok {X Y Z : Type} {A : (X → Option Y) → Option Z} (h : CtI A) : Ct A := by
  induction h with
  | const => exact .const
  | call => exact .call
  | cond _ _ h h' => exact .cond h h'
  | bind _ _ h h' => exact .bind h h'
  | sum _ _ h h' => exact .sum h h'
  | of h => exact h
theorem lim_eqI {X Y : Type} {F : (X → Option Y) → X → Option Y} (h : ∀ x, CtI fun r => F r x) (x : X) : lim F x = F (lim F) x := lim_eq (fun x => (h x).ok) x
inductive ParI {α β : Type} (f : α → Option β) : Option α → Option β → Prop
  | fin {y : α} : ParI f (some y) (f y)
  | none {B : Option β} : ParI f Option.none B
  | cond {c : Bool} {A A' : Option α} {B B' : Option β} : ParI f A B → ParI f A' B' → ParI f (_root_.cond c A A') (_root_.cond c B B')
  | bind {γ : Type} {e : Option γ} {A : γ → Option α} {B : γ → Option β} : (∀ v, ParI f (A v) (B v)) → ParI f (e.bind A) (e.bind B)
  | sum {S T : Type} {y : S ⊕ T} {g : S → Option α} {g' : S → Option β} {k : T → Option α} {k' : T → Option β} : (∀ a, ParI f (g a) (g' a)) → (∀ b, ParI f (k b) (k' b)) → ParI f (sumO y g k) (sumO y g' k')
  | of {A : Option α} {B : Option β} : Par f A B → ParI f A B
theorem ParI.ok {α β : Type} {f : α → Option β} {A : Option α} {B : Option β} (h : ParI f A B) : Par f A B := by
  induction h with
  | fin => exact .fin
  | none => exact .none
  | cond _ _ h h' => exact .cond h h'
  | bind _ h => exact .bind h
  | sum _ _ h h' => exact .sum h h'
  | of h => exact h
variable {P : Program} {env : Nat → Option Callee} {or : Ora}
structure Cal (P : Program) (f : Nat) (c : Callee) : Prop where
  en : ∃ fn code, P.funcs[f]? = some fn ∧ fn.body = some code ∧ (fn.name == "runtime.NumGoroutine") = false
  ok : CalleeOk P f c
theorem EnvOk.a {f : Nat} {c : Callee} (h : EnvOk P env) (k : Cal P f c) : EnvOk P (addE f c env) := by
  obtain ⟨⟨fn, code, h1, h2, h3⟩, h4⟩ := k
  exact h.add h1 h2 h3 h4
theorem cal_mk {f nr : Nat} {fn : Func} {ps rs : List PK} {G : PK.dens ps → Option (PK.dens rs)} (hf : P.funcs[f]? = some fn) (hb : fn.body = some (codeOf fn)) (hn : (fn.name == "runtime.NumGoroutine") = false)
    (hm : P.follows .mixedOrders = true) (henv : EnvOk P env) (hlo : LoOk P env or fn.ntmps (loopsIn (codeOf fn))) (K : (R : Type) → (PK.dens rs → Option R) → PK.dens ps → Option R) (hG : ∀ x, G x = K _ some x)
    (he : ∀ x, evalFn P env or fn (PK.outs ps x) = K _ (fun y => some (tupOf ((PK.outs rs y).take nr), (PK.outs rs y).drop nr)) x)
    (hp : ∀ x R (fin : PK.dens rs → Option R), ParI fin (K _ some x) (K R fin x)) : Cal P f (mkC ps nr rs G) :=
  ⟨⟨fn, _, hf, hb, hn⟩, callee_mk hf hb henv hm hlo fun x y h => (he x).trans ((hp x _ _).ok y ((hG x).symm.trans h))⟩
def mkM (h : GCH) (hs : LS) (xs : List (XS hs.den)) (G : hs.den → Option (XS.Y xs)) : Loop := mkL h hs xs id G
theorem loop_rnd {n : Nat} {b : Code} {h : GCH} {hs : LS} {xs : List (XS hs.den)} {G : hs.den → Option (XS.Y xs)} {X : Type} (φ : hs.den → X) (ψ : hs.den → X → hs.den) (K : hs.den → (R : Type) → (X → Option R) → (XS.Y xs → Option R) → X → Option R)
    (hψ : ∀ x, ψ x (φ x) = x) (hG : ∀ x, G x = lim (fun r => K x _ r some) (φ x)) (he : ∀ i k v, loopC P env or b h (XS.ho xs) n (k + 1) (hs.out (ψ i v)) = K i _ (fun v => loopC P env or b h (XS.ho xs) n k (hs.out (ψ i v))) (fun y => some (XS.out xs i y)) v)
    (hp : ∀ i R (rc : X → Option (XS.Y xs)) (rc' : X → Option R) (fin : XS.Y xs → Option R), (∀ v, Par fin (rc v) (rc' v)) → ∀ v, ParI fin (K i _ rc some v) (K i R rc' fin v)) :
    LoopOk P env or n b (mkM h hs xs G) := by
  obtain rfl : G = fun x => lim (fun r => K x _ r some) (φ x) := funext hG
  exact loop_lim (ι := id) (φ := φ) (ψ := ψ) (F := fun i r => K i _ r some) hψ fun i k hk v => Par.of_eq (he i k v) (hp i _ _ _ _ hk v).ok
theorem all1 {p : Nat → Prop} (h0 : p 0) : ∀ i, i < 1 → p i
  | 0, _ => h0
  | i + 1, h => absurd h (by omega)
theorem all2 {p : Nat → Prop} (h0 : p 0) (h1 : p 1) : ∀ i, i < 2 → p i
  | 0, _ => h0
  | 1, _ => h1
  | i + 2, h => absurd h (by omega)
theorem all3 {p : Nat → Prop} (h0 : p 0) (h1 : p 1) (h2 : p 2) : ∀ i, i < 3 → p i
  | 0, _ => h0
  | 1, _ => h1
  | 2, _ => h2
  | i + 3, h => absurd h (by omega)
end Go.OAI
