/- Networks over blocks and periods: two numberings, one least cut. -/
import Derived.Test.YtokaffjipngphaaPnet
namespace Go.OAI
set_option linter.unusedVariables false
noncomputable section

def sm : Nat → (Nat → Int) → Int
  | 0, _ => 0
  | n + 1, f => sm n f + f n
theorem sm_congr {f g : Nat → Int} : ∀ n, (∀ i, i < n → f i = g i) → sm n f = sm n g
  | 0, _ => rfl
  | n + 1, h => by
    simp only [sm]
    rw [sm_congr n fun i hi => h i (by omega), h n (by omega)]
theorem sm_add (f g : Nat → Int) : ∀ n, sm n (fun i => f i + g i) = sm n f + sm n g
  | 0 => by simp [sm]
  | n + 1 => by simp only [sm, sm_add f g n]; omega
theorem sm_zero : ∀ n, sm n (fun _ => 0) = 0
  | 0 => rfl
  | n + 1 => by simp only [sm, sm_zero n]; omega
theorem sm_mul (c : Int) (f : Nat → Int) : ∀ n, sm n (fun i => c * f i) = c * sm n f
  | 0 => by simp [sm]
  | n + 1 => by simp only [sm, sm_mul c f n, Int.mul_add]
theorem sm_swap (f : Nat → Nat → Int) (m : Nat) : ∀ n, sm n (fun i => sm m (f i)) = sm m (fun t => sm n (fun i => f i t))
  | 0 => by simp only [sm]; rw [sm_zero]
  | n + 1 => by
    simp only [sm, sm_swap f m n]
    rw [← sm_add (fun t => sm n (fun i => f i t)) (f n)]
theorem sm_nn {f : Nat → Int} : ∀ n, (∀ i, i < n → 0 ≤ f i) → 0 ≤ sm n f
  | 0, _ => Int.le_refl _
  | n + 1, h => by
    have h1 := sm_nn n fun i hi => h i (by omega)
    have h2 := h n (by omega)
    simp only [sm]; omega
theorem sm_each {f : Nat → Int} : ∀ n, (∀ i, i < n → 0 ≤ f i) → sm n f = 0 → ∀ i, i < n → f i = 0
  | 0, _, _ => fun i hi => by omega
  | n + 1, h, hz => fun i hi => by
    have h1 := sm_nn n fun i hi => h i (by omega)
    have h2 := h n (by omega)
    simp only [sm] at hz
    by_cases c : i = n
    · subst c; omega
    · exact sm_each n (fun i hi => h i (by omega)) (by omega) i (by omega)
theorem sm_le {f : Nat → Int} {c : Int} (hc : 0 ≤ c) : ∀ n : Nat, (∀ i, i < n → f i ≤ c) → sm n f ≤ n * c
  | 0, _ => by simp [sm]
  | n + 1, h => by
    have h1 := sm_le hc n fun i hi => h i (by omega)
    have h2 := h n (by omega)
    simp only [sm]
    have : ((n + 1 : Nat) : Int) * c = (n : Int) * c + c := by rw [show ((n + 1 : Nat) : Int) = (n : Int) + 1 by omega, Int.add_mul]; omega
    omega
theorem cap_append (T : Int → Bool) : ∀ A B : List (Int × Int × Int), capS T (A ++ B) = capS T A + capS T B
  | [], B => by simp [capS]
  | e :: A, B => by
    simp only [List.cons_append, capS, cap_append T A B]; omega
theorem eds_append (A B : List DEdge) : eds (A ++ B) = eds A ++ eds B := by simp [eds]
theorem cap_flat (T : Int → Bool) (f : Nat → List DEdge) : ∀ n, capS T (eds ((List.range n).flatMap f)) = sm n fun i => capS T (eds (f i))
  | 0 => rfl
  | n + 1 => by
    rw [List.range_succ, List.flatMap_append, eds_append, cap_append, cap_flat T f n]
    simp [sm]

/-- The edges of block i in period t. -/
structure Gr where
  n : Nat
  P : Nat
  arcs : Nat → List Nat
  v : Nat → Nat → Int
variable (g : Gr)
def eV (nd : Nat → Nat → Int) (z : Int) (i t : Nat) : List DEdge :=
  if 0 < g.v i t then [(0, nd i t, g.v i t, ())] else if g.v i t < 0 then [(nd i t, z, - g.v i t, ())] else []
def eT (nd : Nat → Nat → Int) (B : Int) (i t : Nat) : List DEdge := if t + 1 < g.P then [(nd i t, nd i (t + 1), B, ())] else []
def eA (nd : Nat → Nat → Int) (B : Int) (i t : Nat) : List DEdge := (g.arcs i).map fun k => (nd i t, nd k t, B, ())
def pf (Q : Nat → Nat → Bool) (i t : Nat) : Int := if 0 < g.v i t then (if Q i t then 0 else g.v i t) else if g.v i t < 0 then (if Q i t then - g.v i t else 0) else 0
def cntA (Q : Nat → Nat → Bool) (i t : Nat) : List Nat → Int
  | [] => 0
  | k :: l => cntA Q i t l + (if Q i t = true ∧ Q k t = false then 1 else 0)
def pv (Q : Nat → Nat → Bool) (i t : Nat) : Int := (if t + 1 < g.P then (if Q i t = true ∧ Q i (t + 1) = false then 1 else 0) else 0) + cntA Q i t (g.arcs i)
theorem cntA_nn {Q : Nat → Nat → Bool} {i t : Nat} : ∀ l, 0 ≤ cntA Q i t l
  | [] => Int.le_refl _
  | k :: l => by
    have := cntA_nn (Q := Q) (i := i) (t := t) l
    simp only [cntA]; split <;> omega
theorem pv_nn {Q : Nat → Nat → Bool} {i t : Nat} : 0 ≤ pv g Q i t := by
  have := cntA_nn (Q := Q) (i := i) (t := t) (g.arcs i)
  unfold pv
  split
  · split <;> omega
  · omega
theorem pf_nn {Q : Nat → Nat → Bool} {i t : Nat} : 0 ≤ pf g Q i t := by
  unfold pf
  split
  · split <;> omega
  · split
    · split <;> omega
    · omega
variable {g}
theorem cap_v {T : Int → Bool} {nd : Nat → Nat → Int} {z : Int} (h0 : T 0 = true) (hz : T z = false) (i t : Nat) : capS T (eds (eV g nd z i t)) = pf g (fun i t => T (nd i t)) i t := by
  unfold eV pf
  split
  · cases hq : T (nd i t) <;> simp [eds, capS, h0, hq]
  · split
    · cases hq : T (nd i t) <;> simp [eds, capS, hz, hq]
    · rfl
theorem cap_t {T : Int → Bool} {nd : Nat → Nat → Int} {B : Int} (i t : Nat) : capS T (eds (eT g nd B i t)) = B * (if t + 1 < g.P then (if T (nd i t) = true ∧ T (nd i (t + 1)) = false then 1 else 0) else 0) := by
  unfold eT
  split
  · simp only [eds, List.map_cons, List.map_nil, capS]
    split <;> simp
  · simp [eds, capS]
theorem cap_a {T : Int → Bool} {nd : Nat → Nat → Int} {B : Int} (i t : Nat) : ∀ l : List Nat, capS T (eds (l.map fun k => ((nd i t, nd k t, B, ()) : DEdge))) = B * cntA (fun i t => T (nd i t)) i t l
  | [] => by simp [eds, capS, cntA]
  | k :: l => by
    have ih := cap_a (T := T) (nd := nd) (B := B) i t l
    simp only [List.map_cons, eds, capS, cntA] at ih ⊢
    rw [ih, Int.mul_add]
    split <;> simp
theorem cap_vta {T : Int → Bool} {nd : Nat → Nat → Int} {z B : Int} (h0 : T 0 = true) (hz : T z = false) (i t : Nat) :
    capS T (eds (eV g nd z i t ++ eT g nd B i t ++ eA g nd B i t)) = pf g (fun i t => T (nd i t)) i t + B * pv g (fun i t => T (nd i t)) i t := by
  rw [eds_append, eds_append, cap_append, cap_append, cap_v h0 hz, cap_t, eA, cap_a, pv, Int.mul_add]; omega
theorem cap_vat {T : Int → Bool} {nd : Nat → Nat → Int} {z B : Int} (h0 : T 0 = true) (hz : T z = false) (i t : Nat) :
    capS T (eds (eV g nd z i t ++ eA g nd B i t ++ eT g nd B i t)) = pf g (fun i t => T (nd i t)) i t + B * pv g (fun i t => T (nd i t)) i t := by
  rw [eds_append, eds_append, cap_append, cap_append, cap_v h0 hz, cap_t, eA, cap_a, pv, Int.mul_add]; omega
variable (g)
def nI (i t : Nat) : Int := ((i * g.P + t + 1 : Nat) : Int)
def nS (i t : Nat) : Int := ((t * g.n + i + 1 : Nat) : Int)
def zN : Int := ((g.n * g.P + 1 : Nat) : Int)
def XI (B : Int) : List DEdge := (List.range g.n).flatMap fun i => (List.range g.P).flatMap fun t => eV g (nI g) (zN g) i t ++ eT g (nI g) B i t ++ eA g (nI g) B i t
def XE (B : Int) : List DEdge := (List.range g.P).flatMap fun t => (List.range g.n).flatMap fun i => eV g (nS g) (zN g) i t ++ eA g (nS g) B i t ++ eT g (nS g) B i t
def FF (Q : Nat → Nat → Bool) : Int := sm g.n fun i => sm g.P fun t => pf g Q i t
def VV (Q : Nat → Nat → Bool) : Int := sm g.n fun i => sm g.P fun t => pv g Q i t
theorem sum_fv (B : Int) (Q : Nat → Nat → Bool) : (sm g.n fun i => sm g.P fun t => pf g Q i t + B * pv g Q i t) = FF g Q + B * VV g Q := by
  unfold FF VV
  rw [← sm_mul B, ← sm_add]
  refine sm_congr _ fun i _ => ?_
  rw [sm_add (fun t => pf g Q i t) (fun t => B * pv g Q i t), sm_mul]
theorem cap_XI {T : Int → Bool} {B : Int} (h0 : T 0 = true) (hz : T (zN g) = false) : capS T (eds (XI g B)) = FF g (fun i t => T (nI g i t)) + B * VV g (fun i t => T (nI g i t)) := by
  unfold XI
  rw [cap_flat, ← sum_fv]
  refine sm_congr _ fun i _ => ?_
  rw [cap_flat]
  exact sm_congr _ fun t _ => cap_vta h0 hz i t
theorem cap_XE {T : Int → Bool} {B : Int} (h0 : T 0 = true) (hz : T (zN g) = false) : capS T (eds (XE g B)) = FF g (fun i t => T (nS g i t)) + B * VV g (fun i t => T (nS g i t)) := by
  unfold XE
  rw [cap_flat, ← sum_fv, sm_swap]
  refine sm_congr _ fun i _ => ?_
  rw [cap_flat]
  exact sm_congr _ fun t _ => cap_vat h0 hz t i
structure Gr.Ok : Prop where
  n1 : 1 ≤ g.n
  P1 : 1 ≤ g.P
  ar : ∀ i, i < g.n → ∀ k ∈ g.arcs i, k < g.n
def tI (Q : Nat → Nat → Bool) (z : Int) : Bool := decide (z = 0) || (decide (z.toNat ≤ g.n * g.P) && Q ((z.toNat - 1) / g.P) ((z.toNat - 1) % g.P))
def tS (Q : Nat → Nat → Bool) (z : Int) : Bool := decide (z = 0) || (decide (z.toNat ≤ g.n * g.P) && Q ((z.toNat - 1) % g.n) ((z.toNat - 1) / g.n))
variable {g}
theorem node_lt {a b A B : Nat} (ha : a < A) (hb : b < B) : a * B + b < A * B := by
  have h1 : (a + 1) * B ≤ A * B := Nat.mul_le_mul_right B (by omega)
  rw [Nat.add_mul] at h1
  omega
theorem tI_get {Q : Nat → Nat → Bool} {i t : Nat} (hi : i < g.n) (ht : t < g.P) : tI g Q (nI g i t) = Q i t := by
  have h1 := node_lt hi ht
  unfold tI nI
  have e0 : ((i * g.P + t + 1 : Nat) : Int).toNat = i * g.P + t + 1 := Int.toNat_natCast _
  have e1 : i * g.P + t + 1 - 1 = i * g.P + t := by omega
  have e2 : (i * g.P + t) / g.P = i := by rw [Nat.mul_comm, Nat.mul_add_div (by omega), Nat.div_eq_of_lt ht]; omega
  have e3 : (i * g.P + t) % g.P = t := by rw [Nat.mul_comm, Nat.mul_add_mod, Nat.mod_eq_of_lt ht]
  rw [e0, e1, e2, e3]
  have c1 : decide (((i * g.P + t + 1 : Nat) : Int) = 0) = false := decide_eq_false (by omega)
  have c2 : decide (i * g.P + t + 1 ≤ g.n * g.P) = true := decide_eq_true (by omega)
  rw [c1, c2]; simp
theorem tS_get {Q : Nat → Nat → Bool} {i t : Nat} (hi : i < g.n) (ht : t < g.P) : tS g Q (nS g i t) = Q i t := by
  have h1 := node_lt ht hi
  rw [Nat.mul_comm g.P] at h1
  unfold tS nS
  have e0 : ((t * g.n + i + 1 : Nat) : Int).toNat = t * g.n + i + 1 := Int.toNat_natCast _
  have e1 : t * g.n + i + 1 - 1 = t * g.n + i := by omega
  have e2 : (t * g.n + i) / g.n = t := by rw [Nat.mul_comm, Nat.mul_add_div (by omega), Nat.div_eq_of_lt hi]; omega
  have e3 : (t * g.n + i) % g.n = i := by rw [Nat.mul_comm, Nat.mul_add_mod, Nat.mod_eq_of_lt hi]
  rw [e0, e1, e2, e3]
  have c1 : decide (((t * g.n + i + 1 : Nat) : Int) = 0) = false := decide_eq_false (by omega)
  have c2 : decide (t * g.n + i + 1 ≤ g.n * g.P) = true := decide_eq_true (by omega)
  rw [c1, c2]; simp
theorem pf_congr {Q R : Nat → Nat → Bool} {i t : Nat} (h : Q i t = R i t) : pf g Q i t = pf g R i t := by unfold pf; rw [h]
theorem cntA_congr {Q R : Nat → Nat → Bool} {i t : Nat} (h : Q i t = R i t) : ∀ l : List Nat, (∀ k ∈ l, Q k t = R k t) → cntA Q i t l = cntA R i t l
  | [], _ => rfl
  | k :: l, hl => by
    simp only [cntA]
    rw [cntA_congr h l fun x hx => hl x (List.mem_cons_of_mem _ hx), h, hl k List.mem_cons_self]
theorem pv_congr (hg : g.Ok) {Q R : Nat → Nat → Bool} (h : ∀ i t, i < g.n → t < g.P → Q i t = R i t) {i t : Nat} (hi : i < g.n) (ht : t < g.P) : pv g Q i t = pv g R i t := by
  unfold pv
  rw [cntA_congr (h i t hi ht) (g.arcs i) fun k hk => h k t (hg.ar i hi k hk) ht, h i t hi ht]
  by_cases c : t + 1 < g.P
  · rw [if_pos c, if_pos c, h i (t + 1) hi c]
  · rw [if_neg c, if_neg c]
theorem FF_congr {Q R : Nat → Nat → Bool} (h : ∀ i t, i < g.n → t < g.P → Q i t = R i t) : FF g Q = FF g R :=
  sm_congr _ fun i hi => sm_congr _ fun t ht => pf_congr (h i t hi ht)
theorem VV_congr (hg : g.Ok) {Q R : Nat → Nat → Bool} (h : ∀ i t, i < g.n → t < g.P → Q i t = R i t) : VV g Q = VV g R :=
  sm_congr _ fun i hi => sm_congr _ fun t ht => pv_congr hg h hi ht
theorem FF_nn {Q : Nat → Nat → Bool} : 0 ≤ FF g Q := sm_nn _ fun i _ => sm_nn _ fun t _ => pf_nn g
theorem VV_nn {Q : Nat → Nat → Bool} : 0 ≤ VV g Q := sm_nn _ fun i _ => sm_nn _ fun t _ => pv_nn g
theorem VV_none (hg : g.Ok) : VV g (fun _ _ => false) = 0 := by
  unfold VV
  have : ∀ i t, pv g (fun _ _ => false) i t = 0 := fun i t => by
    have hc : ∀ l : List Nat, cntA (fun _ _ => false) i t l = 0 := fun l => by
      induction l with
      | nil => rfl
      | cons k l ih => simp [cntA, ih]
    unfold pv
    rw [hc]; simp
  rw [sm_congr (g := fun _ => 0) _ fun i _ => by rw [sm_congr (g := fun _ => 0) _ fun t _ => this i t, sm_zero], sm_zero]
/-- What a cut of no infinite edge keeps: later periods, blocks above. -/
theorem VV_up {Q : Nat → Nat → Bool} (h : VV g Q = 0) {i t : Nat} (hi : i < g.n) (ht : t + 1 < g.P) (hq : Q i t = true) : Q i (t + 1) = true := by
  have h1 := sm_each _ (fun i _ => sm_nn _ fun t _ => pv_nn g) h i hi
  have h2 := sm_each _ (fun t _ => pv_nn g) h1 t (by omega)
  have h3 := cntA_nn (Q := Q) (i := i) (t := t) (g.arcs i)
  cases hn : Q i (t + 1) with
  | true => rfl
  | false => unfold pv at h2; rw [if_pos ht, if_pos ⟨hq, hn⟩] at h2; omega
theorem least_match (hg : g.Ok) {A C : Int → Bool} {B1 B2 : Int} (hb1 : FF g (fun _ _ => false) < B1) (hb2 : FF g (fun _ _ => false) < B2)
    (hA : Least ((g.n * g.P + 2 : Nat) : Int) (eds (XI g B1)) A) (hC : Least ((g.n * g.P + 2 : Nat) : Int) (eds (XE g B2)) C) :
    (∀ i t, i < g.n → t < g.P → A (nI g i t) = C (nS g i t)) ∧ VV g (fun i t => A (nI g i t)) = 0 := by
  have ez : ((g.n * g.P + 2 : Nat) : Int) - 1 = zN g := by unfold zN; omega
  have a0 := hA.s0
  have a1 := hA.s1
  have c0 := hC.s0
  have c1 := hC.s1
  rw [ez] at a1 c1
  have i0 : ∀ Q, tI g Q 0 = true := fun Q => by simp [tI]
  have s0 : ∀ Q, tS g Q 0 = true := fun Q => by simp [tS]
  have zt : (zN g).toNat = g.n * g.P + 1 := by unfold zN; omega
  have z0 : ¬ zN g = 0 := by unfold zN; omega
  have i1 : ∀ Q, tI g Q (zN g) = false := fun Q => by
    unfold tI; rw [zt]
    rw [decide_eq_false (show ¬ g.n * g.P + 1 ≤ g.n * g.P by omega), decide_eq_false z0]; rfl
  have s1 : ∀ Q, tS g Q (zN g) = false := fun Q => by
    unfold tS; rw [zt]
    rw [decide_eq_false (show ¬ g.n * g.P + 1 ≤ g.n * g.P by omega), decide_eq_false z0]; rfl
  have capI : ∀ Q, capS (tI g Q) (eds (XI g B1)) = FF g Q + B1 * VV g Q := fun Q => by
    rw [cap_XI g (i0 Q) (i1 Q), FF_congr (R := Q) fun i t hi ht => tI_get hi ht, VV_congr hg (R := Q) fun i t hi ht => tI_get hi ht]
  have capC : ∀ Q, capS (tS g Q) (eds (XE g B2)) = FF g Q + B2 * VV g Q := fun Q => by
    rw [cap_XE g (s0 Q) (s1 Q), FF_congr (R := Q) fun i t hi ht => tS_get hi ht, VV_congr hg (R := Q) fun i t hi ht => tS_get hi ht]
  have kA := cap_XI g (B := B1) a0 a1
  have kC := cap_XE g (B := B2) c0 c1
  have none : ∀ {B x y : Int}, 0 ≤ x → 0 ≤ y → 0 < B → x + B * y ≤ FF g (fun _ _ => false) → FF g (fun _ _ => false) < B → y = 0 := fun {B x y} hx hy hB h1 h2 => by
    by_cases c : y = 0
    · exact c
    · have h3 : B * 1 ≤ B * y := Int.mul_le_mul_of_nonneg_left (by omega) (by omega)
      omega
  have f0 : 0 ≤ FF g (fun _ _ => false) := FF_nn
  have vA : VV g (fun i t => A (nI g i t)) = 0 := by
    have h1 := hA.le (tI g fun _ _ => false) (i0 _) (by rw [ez]; exact i1 _)
    rw [kA, capI, VV_none hg, Int.mul_zero, Int.add_zero] at h1
    exact none FF_nn VV_nn (by omega) h1 hb1
  have vC : VV g (fun i t => C (nS g i t)) = 0 := by
    have h1 := hC.le (tS g fun _ _ => false) (s0 _) (by rw [ez]; exact s1 _)
    rw [kC, capC, VV_none hg, Int.mul_zero, Int.add_zero] at h1
    exact none FF_nn VV_nn (by omega) h1 hb2
  rw [vA, Int.mul_zero, Int.add_zero] at kA
  rw [vC, Int.mul_zero, Int.add_zero] at kC
  have l1 := hA.le (tI g fun i t => C (nS g i t)) (i0 _) (by rw [ez]; exact i1 _)
  have l2 := hC.le (tS g fun i t => A (nI g i t)) (s0 _) (by rw [ez]; exact s1 _)
  rw [kA, capI, vC, Int.mul_zero, Int.add_zero] at l1
  rw [kC, capC, vA, Int.mul_zero, Int.add_zero] at l2
  have u1 := hA.sub (tI g fun i t => C (nS g i t)) (i0 _) (by rw [ez]; exact i1 _) (by rw [kA, capI, vC, Int.mul_zero, Int.add_zero]; omega)
  have u2 := hC.sub (tS g fun i t => A (nI g i t)) (s0 _) (by rw [ez]; exact s1 _) (by rw [kC, capC, vA, Int.mul_zero, Int.add_zero]; omega)
  refine ⟨fun i t hi ht => ?_, vA⟩
  have n1 := node_lt hi ht
  have n2 := node_lt ht hi
  rw [Nat.mul_comm g.P] at n2
  cases hq : A (nI g i t) with
  | true =>
    have := u1 (nI g i t) (by unfold nI; omega) (by unfold nI; omega) hq
    rw [tI_get hi ht] at this
    exact this.symm
  | false =>
    cases hq2 : C (nS g i t) with
    | false => rfl
    | true =>
      have := u2 (nS g i t) (by unfold nS; omega) (by unfold nS; omega) hq2
      rw [tS_get hi ht, hq] at this
      cases this
end
end Go.OAI
