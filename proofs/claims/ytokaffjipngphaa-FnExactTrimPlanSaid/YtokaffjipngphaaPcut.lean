/- Flows and cuts in plain words: a flow that cannot grow shows the least cut. -/
import Derived.Test.YtokaffjipngphaaP0
namespace Go.OAI
set_option linter.unusedVariables false
noncomputable section

/-- An arc from a to b, its capacity, its flow. -/
structure Arc where
  a : Int
  b : Int
  c : Int
  f : Int
/-- What flows into a node more than out of it. -/
def exc : List Arc → Int → Int
  | [], _ => 0
  | e :: L, v => exc L v + (if e.b = v then e.f else 0) - (if e.a = v then e.f else 0)
def capS (T : Int → Bool) : List (Int × Int × Int) → Int
  | [] => 0
  | e :: L => capS T L + (if T e.1 = true ∧ T e.2.1 = false then e.2.2 else 0)
def net (T : Int → Bool) : List Arc → Int
  | [] => 0
  | e :: L => net T L + (if T e.a = true then e.f else 0) - (if T e.b = true then e.f else 0)
def slack (T : Int → Bool) : List Arc → Int
  | [] => 0
  | e :: L => slack T L + (if T e.a = true ∧ T e.b = false then e.c - e.f else 0) + (if T e.a = false ∧ T e.b = true then e.f else 0)
def ends (L : List Arc) : List (Int × Int × Int) := L.map fun e => (e.a, e.b, e.c)
def sumN : Nat → (Int → Int) → Int
  | 0, _ => 0
  | n + 1, g => sumN n g + g (n : Int)
theorem sumN_add (g h : Int → Int) : ∀ n, sumN n (fun v => g v + h v) = sumN n g + sumN n h
  | 0 => by simp [sumN]
  | n + 1 => by simp only [sumN, sumN_add g h n]; omega
theorem sumN_zero : ∀ n, sumN n (fun _ => 0) = 0
  | 0 => rfl
  | n + 1 => by simp only [sumN, sumN_zero n]; omega
theorem sumN_congr {g h : Int → Int} : ∀ n : Nat, (∀ v : Int, 0 ≤ v → v < n → g v = h v) → sumN n g = sumN n h
  | 0, _ => rfl
  | n + 1, e => by
    simp only [sumN]
    rw [sumN_congr n fun v h0 h1 => e v h0 (by omega), e n (by omega) (by omega)]
theorem sumN_point (w x : Int) : ∀ n : Nat, 0 ≤ w → sumN n (fun v => if w = v then x else 0) = if w < n then x else 0
  | 0, h => by simp [sumN]; omega
  | n + 1, h => by
    simp only [sumN, sumN_point w x n h]
    repeat' split
    all_goals omega
theorem sum_exc {n : Nat} (T : Int → Bool) : ∀ L : List Arc, (∀ e ∈ L, (0 ≤ e.a ∧ e.a < n) ∧ (0 ≤ e.b ∧ e.b < n)) → sumN n (fun v => if T v = true then exc L v else 0) = - net T L
  | [], _ => by
    rw [sumN_congr (h := fun _ => 0) n fun v _ _ => by simp [exc], sumN_zero]; rfl
  | e :: L, h => by
    have ih := sum_exc T L fun x hx => h x (List.mem_cons_of_mem _ hx)
    obtain ⟨⟨a0, a1⟩, b0, b1⟩ := h e (List.mem_cons_self ..)
    have e1 := sumN_point e.b (if T e.b = true then e.f else 0) n b0
    have e2 := sumN_point e.a (-(if T e.a = true then e.f else 0)) n a0
    have key : ∀ v : Int, 0 ≤ v → v < n → (if T v = true then exc (e :: L) v else 0) =
        ((if T v = true then exc L v else 0) + (if e.b = v then (if T e.b = true then e.f else 0) else 0)) + (if e.a = v then -(if T e.a = true then e.f else 0) else 0) := fun v _ _ => by
      simp only [exc]
      by_cases c : T v = true
      · by_cases c1 : e.b = v <;> by_cases c2 : e.a = v <;> simp [c, c1, c2] <;> omega
      · by_cases c1 : e.b = v <;> by_cases c2 : e.a = v <;> simp [c, c1, c2]
    rw [sumN_congr n key, sumN_add (fun v => (if T v = true then exc L v else 0) + (if e.b = v then (if T e.b = true then e.f else 0) else 0)), sumN_add (fun v => if T v = true then exc L v else 0), ih, e1, e2, if_pos b1, if_pos a1]
    simp only [net]; omega
theorem sum_only {n : Nat} (hn : 1 ≤ n) {g : Int → Int} (h : ∀ v : Int, 0 < v → v < n → g v = 0) : sumN n g = g 0 := by
  have key : ∀ m : Nat, m + 1 ≤ n → sumN (m + 1) g = g 0 := by
    intro m
    induction m with
    | zero => intro _; simp [sumN]
    | succ m ih => intro hm; rw [sumN, ih (by omega), h ((m + 1 : Nat) : Int) (by omega) (by omega)]; omega
  have := key (n - 1) (by omega)
  rwa [show n - 1 + 1 = n by omega] at this
theorem cap_net (T : Int → Bool) : ∀ L : List Arc, capS T (ends L) = net T L + slack T L
  | [] => rfl
  | e :: L => by
    have ih := cap_net T L
    show capS T (ends L) + (if T e.a = true ∧ T e.b = false then e.c else 0) = _
    simp only [net, slack]
    cases T e.a <;> cases T e.b <;> simp <;> omega
theorem slack_pos (T : Int → Bool) : ∀ L : List Arc, (∀ e ∈ L, 0 ≤ e.f ∧ e.f ≤ e.c) → 0 ≤ slack T L
  | [], _ => Int.le_refl _
  | e :: L, h => by
    have ih := slack_pos T L fun x hx => h x (List.mem_cons_of_mem _ hx)
    have he := h e (List.mem_cons_self ..)
    simp only [slack]
    cases T e.a <;> cases T e.b <;> simp <;> omega
theorem slack_zero (T : Int → Bool) : ∀ L : List Arc, (∀ e ∈ L, 0 ≤ e.f ∧ e.f ≤ e.c) → slack T L = 0 → ∀ e ∈ L, (T e.a = true → T e.b = false → e.f = e.c) ∧ (T e.a = false → T e.b = true → e.f = 0)
  | [], _, _ => fun e he => by simp at he
  | e :: L, h, hz => by
    have hp := slack_pos T L fun x hx => h x (List.mem_cons_of_mem _ hx)
    have he := h e (List.mem_cons_self ..)
    simp only [slack] at hz
    intro x hx
    rcases List.mem_cons.1 hx with rfl | hx
    · refine ⟨fun c1 c2 => ?_, fun c1 c2 => ?_⟩
      · simp [c1, c2] at hz; omega
      · simp [c1, c2] at hz; omega
    · refine slack_zero T L (fun y hy => h y (List.mem_cons_of_mem _ hy)) ?_ x hx
      cases c1 : T e.a <;> cases c2 : T e.b <;> simp [c1, c2] at hz <;> omega
theorem slack_of (T : Int → Bool) : ∀ L : List Arc, (∀ e ∈ L, (T e.a = true → T e.b = false → e.f = e.c) ∧ (T e.a = false → T e.b = true → e.f = 0)) → slack T L = 0
  | [], _ => rfl
  | e :: L, h => by
    have ih := slack_of T L fun x hx => h x (List.mem_cons_of_mem _ hx)
    obtain ⟨h1, h2⟩ := h e (List.mem_cons_self ..)
    simp only [slack, ih]
    cases c1 : T e.a <;> cases c2 : T e.b <;> simp
    · exact h2 c1 c2
    · have := h1 c1 c2; omega
/-- The least cut: none has less capacity, and it lies in each other one with this capacity. -/
structure Least (n : Int) (E : List (Int × Int × Int)) (S : Int → Bool) : Prop where
  s0 : S 0 = true
  s1 : S (n - 1) = false
  le : ∀ T : Int → Bool, T 0 = true → T (n - 1) = false → capS S E ≤ capS T E
  sub : ∀ T : Int → Bool, T 0 = true → T (n - 1) = false → capS T E = capS S E → ∀ v, 0 ≤ v → v < n → S v = true → T v = true
/-- No more may flow out of T. -/
def Shut (L : List Arc) (T : Int → Bool) : Prop := ∀ e ∈ L, (T e.a = true → e.f < e.c → T e.b = true) ∧ (T e.b = true → 0 < e.f → T e.a = true)
theorem least_of_flow {n : Nat} (hn : 2 ≤ n) {L : List Arc} (hL : ∀ e ∈ L, (0 ≤ e.a ∧ e.a < n) ∧ (0 ≤ e.b ∧ e.b < n)) (hf : ∀ e ∈ L, 0 ≤ e.f ∧ e.f ≤ e.c) (hx : ∀ v : Int, 0 < v → v < (n : Int) - 1 → exc L v = 0)
    {S : Int → Bool} (h0 : S 0 = true) (h1 : S ((n : Int) - 1) = false) (hS : Shut L S) (hmin : ∀ T : Int → Bool, T 0 = true → Shut L T → ∀ v, 0 ≤ v → v < (n : Int) → S v = true → T v = true) : Least n (ends L) S := by
  have val : ∀ T : Int → Bool, T 0 = true → T ((n : Int) - 1) = false → net T L = - exc L 0 := fun T t0 t1 => by
    have e := sum_exc T L hL
    rw [sum_only (n := n) (by omega) (g := fun v => if T v = true then exc L v else 0) fun v v0 v1 => by
      by_cases c : v = (n : Int) - 1
      · subst c; simp [t1]
      · simp [hx v v0 (by omega)]] at e
    simp only [t0, if_true] at e
    omega
  have sS : slack S L = 0 := slack_of S L fun e he => by
    obtain ⟨g1, g2⟩ := hS e he
    have hb := hf e he
    refine ⟨fun c1 c2 => ?_, fun c1 c2 => ?_⟩
    · by_cases c : e.f < e.c
      · have := g1 c1 c; rw [c2] at this; cases this
      · omega
    · by_cases c : 0 < e.f
      · have := g2 c2 c; rw [c1] at this; cases this
      · omega
  have cS : capS S (ends L) = - exc L 0 := by rw [cap_net, sS, val S h0 h1]; omega
  refine ⟨h0, h1, fun T t0 t1 => ?_, fun T t0 t1 he => ?_⟩
  · have := slack_pos T L hf
    rw [cS, cap_net, val T t0 t1]; omega
  · rw [cS, cap_net, val T t0 t1] at he
    have hz := slack_zero T L hf (by omega)
    refine hmin T t0 fun e he' => ?_
    obtain ⟨g1, g2⟩ := hz e he'
    refine ⟨fun c1 c2 => ?_, fun c1 c2 => ?_⟩
    · cases c3 : T e.b with
      | true => rfl
      | false => have := g1 c1 c3; omega
    · cases c3 : T e.a with
      | true => rfl
      | false => have := g2 c3 c1; omega

/-! ### What is left of capacities, edge by edge and back -/
def mate (e : Nat) : Nat := if e % 2 = 0 then e + 1 else e - 1
theorem mate_add (e : Nat) : mate (e + 2) = mate e + 2 := by
  unfold mate
  have : (e + 2) % 2 = e % 2 := by omega
  rw [this]
  split <;> omega
theorem mate_lt {e m : Nat} (h : e < 2 * m) : mate e < 2 * m := by
  unfold mate; split <;> omega
theorem mate_mate (e : Nat) : mate (mate e) = e := by
  unfold mate
  by_cases c : e % 2 = 0
  · have : ¬ (e + 1) % 2 = 0 := by omega
    simp [c, this]
  · have : (e - 1) % 2 = 0 := by omega
    simp [c, this]; omega
theorem mate_ne (e : Nat) : mate e ≠ e := by
  unfold mate; split <;> omega
def arcsOf : List Int → List Int → List Arc
  | t0 :: t1 :: to, l0 :: l1 :: left => ⟨t1, t0, l0 + l1, l1⟩ :: arcsOf to left
  | _, _ => []
theorem exc_push : ∀ (m : Nat) (to left : List Int) (e : Nat) (x v : Int), to.length = 2 * m → left.length = 2 * m → e < 2 * m →
    exc (arcsOf to ((left.set e (left.getD e 0 - x)).set (mate e) (left.getD (mate e) 0 + x))) v = exc (arcsOf to left) v + (if to.getD e 0 = v then x else 0) - (if to.getD (mate e) 0 = v then x else 0)
  | 0, _, _, e, _, _, _, _, h => absurd h (by omega)
  | m + 1, t0 :: t1 :: to, l0 :: l1 :: left, e, x, v, h1, h2, h => by
    match e with
    | 0 =>
      simp only [mate, arcsOf, exc, List.set_cons_zero, List.set_cons_succ, List.getD_cons_zero, List.getD_cons_succ, Nat.zero_mod, if_true, Nat.zero_add]
      by_cases c1 : t0 = v <;> by_cases c2 : t1 = v <;> simp [c1, c2] <;> omega
    | 1 =>
      simp only [mate, arcsOf, exc, List.set_cons_zero, List.set_cons_succ, List.getD_cons_zero, List.getD_cons_succ, Nat.one_mod, Nat.one_ne_zero, if_false, Nat.sub_self]
      by_cases c1 : t0 = v <;> by_cases c2 : t1 = v <;> simp [c1, c2] <;> omega
    | e + 2 =>
      have ih := exc_push m to left e x v (by simp at h1 <;> omega) (by simp at h2 <;> omega) (by omega)
      rw [mate_add]
      simp only [arcsOf, exc, List.set_cons_succ, List.getD_cons_succ, ih]
      omega
  | m + 1, [], _, _, _, _, h1, _, _ => by simp at h1 <;> omega
  | m + 1, [_], _, _, _, _, h1, _, _ => by simp at h1 <;> omega
  | m + 1, _ :: _ :: _, [], _, _, _, _, h2, _ => by simp at h2 <;> omega
  | m + 1, _ :: _ :: _, [_], _, _, _, _, h2, _ => by simp at h2 <;> omega
theorem ends_push : ∀ (m : Nat) (to left : List Int) (e : Nat) (x : Int), to.length = 2 * m → left.length = 2 * m → e < 2 * m →
    ends (arcsOf to ((left.set e (left.getD e 0 - x)).set (mate e) (left.getD (mate e) 0 + x))) = ends (arcsOf to left)
  | 0, _, _, e, _, _, _, h => absurd h (by omega)
  | m + 1, t0 :: t1 :: to, l0 :: l1 :: left, e, x, h1, h2, h => by
    match e with
    | 0 =>
      have : l0 - x + (l1 + x) = l0 + l1 := by omega
      simp [mate, arcsOf, ends, this]
    | 1 =>
      have : l0 + x + (l1 - x) = l0 + l1 := by omega
      simp [mate, arcsOf, ends, this]
    | e + 2 =>
      have ih := ends_push m to left e x (by simp at h1 <;> omega) (by simp at h2 <;> omega) (by omega)
      rw [mate_add]
      simp only [arcsOf, ends, List.set_cons_succ, List.getD_cons_succ, List.map_cons] at ih ⊢
      rw [ih]
  | m + 1, [], _, _, _, h1, _, _ => by simp at h1 <;> omega
  | m + 1, [_], _, _, _, h1, _, _ => by simp at h1 <;> omega
  | m + 1, _ :: _ :: _, [], _, _, _, h2, _ => by simp at h2 <;> omega
  | m + 1, _ :: _ :: _, [_], _, _, _, h2, _ => by simp at h2 <;> omega
/-- The arcs, by their edges. -/
theorem arcs_mem : ∀ (m : Nat) (to left : List Int), to.length = 2 * m → left.length = 2 * m → ∀ a ∈ arcsOf to left, ∃ k, k < m ∧ a = ⟨to.getD (2 * k + 1) 0, to.getD (2 * k) 0, left.getD (2 * k) 0 + left.getD (2 * k + 1) 0, left.getD (2 * k + 1) 0⟩
  | 0, [], _, _, _ => fun a ha => by simp [arcsOf] at ha
  | m + 1, t0 :: t1 :: to, l0 :: l1 :: left, h1, h2 => fun a ha => by
    simp only [arcsOf] at ha
    rcases List.mem_cons.1 ha with rfl | ha
    · exact ⟨0, by omega, rfl⟩
    · obtain ⟨k, hk, rfl⟩ := arcs_mem m to left (by simp at h1 <;> omega) (by simp at h2 <;> omega) a ha
      refine ⟨k + 1, by omega, ?_⟩
      rw [show 2 * (k + 1) + 1 = 2 * k + 1 + 2 by omega, show 2 * (k + 1) = 2 * k + 2 by omega]
      simp only [List.getD_cons_succ]
  | 0, _ :: _, _, h1, _ => by simp at h1
  | m + 1, [], _, h1, _ => by simp at h1 <;> omega
  | m + 1, [_], _, h1, _ => by simp at h1 <;> omega
  | m + 1, _ :: _ :: _, [], _, h2 => by simp at h2 <;> omega
  | m + 1, _ :: _ :: _, [_], _, h2 => by simp at h2 <;> omega
theorem arcs_get : ∀ (m : Nat) (to left : List Int), to.length = 2 * m → left.length = 2 * m → ∀ k, k < m → (⟨to.getD (2 * k + 1) 0, to.getD (2 * k) 0, left.getD (2 * k) 0 + left.getD (2 * k + 1) 0, left.getD (2 * k + 1) 0⟩ : Arc) ∈ arcsOf to left
  | 0, _, _, _, _ => fun k hk => absurd hk (by omega)
  | m + 1, t0 :: t1 :: to, l0 :: l1 :: left, h1, h2 => fun k hk => by
    simp only [arcsOf]
    match k with
    | 0 => exact List.mem_cons_self ..
    | k + 1 =>
      have := arcs_get m to left (by simp at h1 <;> omega) (by simp at h2 <;> omega) k (by omega)
      rw [show 2 * (k + 1) + 1 = 2 * k + 1 + 2 by omega, show 2 * (k + 1) = 2 * k + 2 by omega]
      simp only [List.getD_cons_succ]
      exact List.mem_cons_of_mem _ this
  | m + 1, [], _, h1, _ => by simp at h1 <;> omega
  | m + 1, [_], _, h1, _ => by simp at h1 <;> omega
  | m + 1, _ :: _ :: _, [], _, h2 => by simp at h2 <;> omega
  | m + 1, _ :: _ :: _, [_], _, h2 => by simp at h2 <;> omega
theorem xor_one (e : Nat) : e ^^^ 1 = mate e := by
  unfold mate
  apply Nat.eq_of_testBit_eq
  intro i
  rw [Nat.testBit_xor]
  cases i with
  | zero =>
    by_cases c : e % 2 = 0
    · have c2 : (e + 1) % 2 = 1 := by omega
      simp [c, c2, Nat.testBit_zero]
    · have c1 : e % 2 = 1 := by omega
      have c2 : (e - 1) % 2 = 0 := by omega
      simp [c1, c2, Nat.testBit_zero]
  | succ i =>
    by_cases c : e % 2 = 0
    · have c2 : (e + 1) / 2 = e / 2 := by omega
      simp [c, Nat.testBit_succ, c2]
    · have c2 : (e - 1) / 2 = e / 2 := by omega
      simp [c, Nat.testBit_succ, c2]
theorem xorI_one {e : Nat} (h : e < 4611686018427387904) : xorI .i64 (e : Int) 1 = (mate e : Int) := by
  have hb : (BitVec.ofInt IntKind.i64.bits (e : Int) ^^^ BitVec.ofInt IntKind.i64.bits 1).toNat = e ^^^ 1 := by
    rw [BitVec.toNat_xor]
    have h1 : (BitVec.ofInt IntKind.i64.bits (e : Int)).toNat = e := by
      rw [BitVec.toNat_ofInt]
      show ((e : Int) % ((2 ^ 64 : Nat) : Int)).toNat = e
      omega
    have h2 : (BitVec.ofInt IntKind.i64.bits 1).toNat = 1 := by decide
    rw [h1, h2]
  unfold xorI
  rw [hb, xor_one]
  have : mate e ≤ e + 1 := by unfold mate; split <;> omega
  exact wr (by omega) (by omega)
end
end Go.OAI
