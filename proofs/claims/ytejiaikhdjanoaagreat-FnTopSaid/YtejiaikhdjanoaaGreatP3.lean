/- Flows and cuts, in plain words. -/
import Derived.Test.YtejiaikhdjanoaaGreatP1
namespace Go.OAI
set_option linter.unusedVariables false
noncomputable section
structure Arc where
  a : Int
  b : Int
  c : Int
  f : Int
def exc : List Arc → Int → Int
  | [], _ => 0
  | e :: L, v => exc L v + (if e.b = v then e.f else 0) - (if e.a = v then e.f else 0)
def capS (T : Int → Bool) : List (Int × Int × Int) → Int
  | [] => 0
  | e :: L => capS T L + (if T e.1 = true ∧ T e.2.1 = false then e.2.2 else 0)
def net (T : Int → Bool) : List Arc → Int
  | [] => 0
  | e :: L => net T L + (if T e.a = true then e.f else 0) - (if T e.b = true then e.f else 0)
def slack (T : Int → Bool) : List Arc → Int
  | [] => 0
  | e :: L => slack T L + (if T e.a = true ∧ T e.b = false then e.c - e.f else 0) + (if T e.a = false ∧ T e.b = true then e.f else 0)
def ends (L : List Arc) : List (Int × Int × Int) := L.map fun e => (e.a, e.b, e.c)
def sumN : Nat → (Int → Int) → Int
  | 0, _ => 0
  | n + 1, g => sumN n g + g (n : Int)
theorem sumN_add (g h : Int → Int) : ∀ n, sumN n (fun v => g v + h v) = sumN n g + sumN n h
  | 0 => by simp [sumN]
  | n + 1 => by simp only [sumN, sumN_add g h n]; omega
theorem sumN_zero : ∀ n, sumN n (fun _ => 0) = 0
  | 0 => rfl
  | n + 1 => by simp only [sumN, sumN_zero n]; omega
theorem sumN_congr {g h : Int → Int} : ∀ n : Nat, (∀ v : Int, 0 ≤ v → v < n → g v = h v) → sumN n g = sumN n h
  | 0, _ => rfl
  | n + 1, e => by
    simp only [sumN]
    rw [sumN_congr n fun v h0 h1 => e v h0 (by omega), e n (by omega) (by omega)]
theorem sumN_point (w x : Int) : ∀ n : Nat, 0 ≤ w → sumN n (fun v => if w = v then x else 0) = if w < n then x else 0
  | 0, h => by simp [sumN]; omega
  | n + 1, h => by
    simp only [sumN, sumN_point w x n h]
    repeat' split
    all_goals omega
theorem sum_exc {n : Nat} (T : Int → Bool) : ∀ L : List Arc, (∀ e ∈ L, (0 ≤ e.a ∧ e.a < n) ∧ (0 ≤ e.b ∧ e.b < n)) → sumN n (fun v => if T v = true then exc L v else 0) = - net T L
  | [], _ => by
    rw [sumN_congr (h := fun _ => 0) n fun v _ _ => by simp [exc], sumN_zero]; rfl
  | e :: L, h => by
    have ih := sum_exc T L fun x hx => h x (List.mem_cons_of_mem _ hx)
    obtain ⟨⟨a0, a1⟩, b0, b1⟩ := h e (List.mem_cons_self ..)
    have e1 := sumN_point e.b (if T e.b = true then e.f else 0) n b0
    have e2 := sumN_point e.a (-(if T e.a = true then e.f else 0)) n a0
    have key : ∀ v : Int, 0 ≤ v → v < n → (if T v = true then exc (e :: L) v else 0) =
        ((if T v = true then exc L v else 0) + (if e.b = v then (if T e.b = true then e.f else 0) else 0)) + (if e.a = v then -(if T e.a = true then e.f else 0) else 0) := fun v _ _ => by
      simp only [exc]
      by_cases c : T v = true
      · by_cases c1 : e.b = v <;> by_cases c2 : e.a = v <;> simp [c, c1, c2] <;> omega
      · by_cases c1 : e.b = v <;> by_cases c2 : e.a = v <;> simp [c, c1, c2]
    rw [sumN_congr n key, sumN_add (fun v => (if T v = true then exc L v else 0) + (if e.b = v then (if T e.b = true then e.f else 0) else 0)), sumN_add (fun v => if T v = true then exc L v else 0), ih, e1, e2, if_pos b1, if_pos a1]
    simp only [net]; omega
theorem sum_only {n : Nat} (hn : 1 ≤ n) {g : Int → Int} (h : ∀ v : Int, 0 < v → v < n → g v = 0) : sumN n g = g 0 := by
  have key : ∀ m : Nat, m + 1 ≤ n → sumN (m + 1) g = g 0 := by
    intro m
    induction m with
    | zero => intro _; simp [sumN]
    | succ m ih => intro hm; rw [sumN, ih (by omega), h ((m + 1 : Nat) : Int) (by omega) (by omega)]; omega
  have := key (n - 1) (by omega)
  rwa [show n - 1 + 1 = n by omega] at this
theorem cap_net (T : Int → Bool) : ∀ L : List Arc, capS T (ends L) = net T L + slack T L
  | [] => rfl
  | e :: L => by
    have ih := cap_net T L
    show capS T (ends L) + (if T e.a = true ∧ T e.b = false then e.c else 0) = _
    simp only [net, slack]
    cases T e.a <;> cases T e.b <;> simp <;> omega
theorem slack_pos (T : Int → Bool) : ∀ L : List Arc, (∀ e ∈ L, 0 ≤ e.f ∧ e.f ≤ e.c) → 0 ≤ slack T L
  | [], _ => Int.le_refl _
  | e :: L, h => by
    have ih := slack_pos T L fun x hx => h x (List.mem_cons_of_mem _ hx)
    have he := h e (List.mem_cons_self ..)
    simp only [slack]
    cases T e.a <;> cases T e.b <;> simp <;> omega
theorem slack_zero (T : Int → Bool) : ∀ L : List Arc, (∀ e ∈ L, 0 ≤ e.f ∧ e.f ≤ e.c) → slack T L = 0 → ∀ e ∈ L, (T e.a = true → T e.b = false → e.f = e.c) ∧ (T e.a = false → T e.b = true → e.f = 0)
  | [], _, _ => fun e he => by simp at he
  | e :: L, h, hz => by
    have hp := slack_pos T L fun x hx => h x (List.mem_cons_of_mem _ hx)
    have he := h e (List.mem_cons_self ..)
    simp only [slack] at hz
    intro x hx
    rcases List.mem_cons.1 hx with rfl | hx
    · refine ⟨fun c1 c2 => ?_, fun c1 c2 => ?_⟩
      · simp [c1, c2] at hz; omega
      · simp [c1, c2] at hz; omega
    · refine slack_zero T L (fun y hy => h y (List.mem_cons_of_mem _ hy)) ?_ x hx
      cases c1 : T e.a <;> cases c2 : T e.b <;> simp [c1, c2] at hz <;> omega
theorem slack_of (T : Int → Bool) : ∀ L : List Arc, (∀ e ∈ L, (T e.a = true → T e.b = false → e.f = e.c) ∧ (T e.a = false → T e.b = true → e.f = 0)) → slack T L = 0
  | [], _ => rfl
  | e :: L, h => by
    have ih := slack_of T L fun x hx => h x (List.mem_cons_of_mem _ hx)
    obtain ⟨h1, h2⟩ := h e (List.mem_cons_self ..)
    simp only [slack, ih]
    cases c1 : T e.a <;> cases c2 : T e.b <;> simp
    · exact h2 c1 c2
    · have := h1 c1 c2; omega
structure Least (n : Int) (E : List (Int × Int × Int)) (S : Int → Bool) : Prop where
  s0 : S 0 = true
  s1 : S (n - 1) = false
  le : ∀ T : Int → Bool, T 0 = true → T (n - 1) = false → capS S E ≤ capS T E
  sub : ∀ T : Int → Bool, T 0 = true → T (n - 1) = false → capS T E = capS S E → ∀ v, 0 ≤ v → v < n → S v = true → T v = true
def Shut (L : List Arc) (T : Int → Bool) : Prop := ∀ e ∈ L, (T e.a = true → e.f < e.c → T e.b = true) ∧ (T e.b = true → 0 < e.f → T e.a = true)
theorem least_of_flow {n : Nat} (hn : 2 ≤ n) {L : List Arc} (hL : ∀ e ∈ L, (0 ≤ e.a ∧ e.a < n) ∧ (0 ≤ e.b ∧ e.b < n)) (hf : ∀ e ∈ L, 0 ≤ e.f ∧ e.f ≤ e.c) (hx : ∀ v : Int, 0 < v → v < (n : Int) - 1 → exc L v = 0)
    {S : Int → Bool} (h0 : S 0 = true) (h1 : S ((n : Int) - 1) = false) (hS : Shut L S) (hmin : ∀ T : Int → Bool, T 0 = true → Shut L T → ∀ v, 0 ≤ v → v < (n : Int) → S v = true → T v = true) : Least n (ends L) S := by
  have val : ∀ T : Int → Bool, T 0 = true → T ((n : Int) - 1) = false → net T L = - exc L 0 := fun T t0 t1 => by
    have e := sum_exc T L hL
    rw [sum_only (n := n) (by omega) (g := fun v => if T v = true then exc L v else 0) fun v v0 v1 => by
      by_cases c : v = (n : Int) - 1
      · subst c; simp [t1]
      · simp [hx v v0 (by omega)]] at e
    simp only [t0, if_true] at e
    omega
  have sS : slack S L = 0 := slack_of S L fun e he => by
    obtain ⟨g1, g2⟩ := hS e he
    have hb := hf e he
    refine ⟨fun c1 c2 => ?_, fun c1 c2 => ?_⟩
    · by_cases c : e.f < e.c
      · have := g1 c1 c; rw [c2] at this; cases this
      · omega
    · by_cases c : 0 < e.f
      · have := g2 c2 c; rw [c1] at this; cases this
      · omega
  have cS : capS S (ends L) = - exc L 0 := by rw [cap_net, sS, val S h0 h1]; omega
  refine ⟨h0, h1, fun T t0 t1 => ?_, fun T t0 t1 he => ?_⟩
  · have := slack_pos T L hf
    rw [cS, cap_net, val T t0 t1]; omega
  · rw [cS, cap_net, val T t0 t1] at he
    have hz := slack_zero T L hf (by omega)
    refine hmin T t0 fun e he' => ?_
    obtain ⟨g1, g2⟩ := hz e he'
    refine ⟨fun c1 c2 => ?_, fun c1 c2 => ?_⟩
    · cases c3 : T e.b with
      | true => rfl
      | false => have := g1 c1 c3; omega
    · cases c3 : T e.a with
      | true => rfl
      | false => have := g2 c3 c1; omega
def mate (e : Nat) : Nat := if e % 2 = 0 then e + 1 else e - 1
theorem mate_add (e : Nat) : mate (e + 2) = mate e + 2 := by
  unfold mate
  have : (e + 2) % 2 = e % 2 := by omega
  rw [this]
  split <;> omega
theorem mate_lt {e m : Nat} (h : e < 2 * m) : mate e < 2 * m := by
  unfold mate; split <;> omega
theorem mate_mate (e : Nat) : mate (mate e) = e := by
  unfold mate
  by_cases c : e % 2 = 0
  · have : ¬ (e + 1) % 2 = 0 := by omega
    simp [c, this]
  · have : (e - 1) % 2 = 0 := by omega
    simp [c, this]; omega
theorem mate_ne (e : Nat) : mate e ≠ e := by
  unfold mate; split <;> omega
def arcsOf : List Int → List Int → List Arc
  | t0 :: t1 :: to, l0 :: l1 :: left => ⟨t1, t0, l0 + l1, l1⟩ :: arcsOf to left
  | _, _ => []
theorem exc_push : ∀ (m : Nat) (to left : List Int) (e : Nat) (x v : Int), to.length = 2 * m → left.length = 2 * m → e < 2 * m →
    exc (arcsOf to ((left.set e (left.getD e 0 - x)).set (mate e) (left.getD (mate e) 0 + x))) v = exc (arcsOf to left) v + (if to.getD e 0 = v then x else 0) - (if to.getD (mate e) 0 = v then x else 0)
  | 0, _, _, e, _, _, _, _, h => absurd h (by omega)
  | m + 1, t0 :: t1 :: to, l0 :: l1 :: left, e, x, v, h1, h2, h => by
    match e with
    | 0 =>
      simp only [mate, arcsOf, exc, List.set_cons_zero, List.set_cons_succ, List.getD_cons_zero, List.getD_cons_succ, Nat.zero_mod, if_true, Nat.zero_add]
      by_cases c1 : t0 = v <;> by_cases c2 : t1 = v <;> simp [c1, c2] <;> omega
    | 1 =>
      simp only [mate, arcsOf, exc, List.set_cons_zero, List.set_cons_succ, List.getD_cons_zero, List.getD_cons_succ, Nat.one_mod, Nat.one_ne_zero, if_false, Nat.sub_self]
      by_cases c1 : t0 = v <;> by_cases c2 : t1 = v <;> simp [c1, c2] <;> omega
    | e + 2 =>
      have ih := exc_push m to left e x v (by simp at h1 <;> omega) (by simp at h2 <;> omega) (by omega)
      rw [mate_add]
      simp only [arcsOf, exc, List.set_cons_succ, List.getD_cons_succ, ih]
      omega
  | m + 1, [], _, _, _, _, h1, _, _ => by simp at h1 <;> omega
  | m + 1, [_], _, _, _, _, h1, _, _ => by simp at h1 <;> omega
  | m + 1, _ :: _ :: _, [], _, _, _, _, h2, _ => by simp at h2 <;> omega
  | m + 1, _ :: _ :: _, [_], _, _, _, _, h2, _ => by simp at h2 <;> omega
theorem ends_push : ∀ (m : Nat) (to left : List Int) (e : Nat) (x : Int), to.length = 2 * m → left.length = 2 * m → e < 2 * m →
    ends (arcsOf to ((left.set e (left.getD e 0 - x)).set (mate e) (left.getD (mate e) 0 + x))) = ends (arcsOf to left)
  | 0, _, _, e, _, _, _, h => absurd h (by omega)
  | m + 1, t0 :: t1 :: to, l0 :: l1 :: left, e, x, h1, h2, h => by
    match e with
    | 0 =>
      have : l0 - x + (l1 + x) = l0 + l1 := by omega
      simp [mate, arcsOf, ends, this]
    | 1 =>
      have : l0 + x + (l1 - x) = l0 + l1 := by omega
      simp [mate, arcsOf, ends, this]
    | e + 2 =>
      have ih := ends_push m to left e x (by simp at h1 <;> omega) (by simp at h2 <;> omega) (by omega)
      rw [mate_add]
      simp only [arcsOf, ends, List.set_cons_succ, List.getD_cons_succ, List.map_cons] at ih ⊢
      rw [ih]
  | m + 1, [], _, _, _, h1, _, _ => by simp at h1 <;> omega
  | m + 1, [_], _, _, _, h1, _, _ => by simp at h1 <;> omega
  | m + 1, _ :: _ :: _, [], _, _, _, h2, _ => by simp at h2 <;> omega
  | m + 1, _ :: _ :: _, [_], _, _, _, h2, _ => by simp at h2 <;> omega
theorem arcs_mem : ∀ (m : Nat) (to left : List Int), to.length = 2 * m → left.length = 2 * m → ∀ a ∈ arcsOf to left, ∃ k, k < m ∧ a = ⟨to.getD (2 * k + 1) 0, to.getD (2 * k) 0, left.getD (2 * k) 0 + left.getD (2 * k + 1) 0, left.getD (2 * k + 1) 0⟩
  | 0, [], _, _, _ => fun a ha => by simp [arcsOf] at ha
  | m + 1, t0 :: t1 :: to, l0 :: l1 :: left, h1, h2 => fun a ha => by
    simp only [arcsOf] at ha
    rcases List.mem_cons.1 ha with rfl | ha
    · exact ⟨0, by omega, rfl⟩
    · obtain ⟨k, hk, rfl⟩ := arcs_mem m to left (by simp at h1 <;> omega) (by simp at h2 <;> omega) a ha
      refine ⟨k + 1, by omega, ?_⟩
      rw [show 2 * (k + 1) + 1 = 2 * k + 1 + 2 by omega, show 2 * (k + 1) = 2 * k + 2 by omega]
      simp only [List.getD_cons_succ]
  | 0, _ :: _, _, h1, _ => by simp at h1
  | m + 1, [], _, h1, _ => by simp at h1 <;> omega
  | m + 1, [_], _, h1, _ => by simp at h1 <;> omega
  | m + 1, _ :: _ :: _, [], _, h2 => by simp at h2 <;> omega
  | m + 1, _ :: _ :: _, [_], _, h2 => by simp at h2 <;> omega
theorem arcs_get : ∀ (m : Nat) (to left : List Int), to.length = 2 * m → left.length = 2 * m → ∀ k, k < m → (⟨to.getD (2 * k + 1) 0, to.getD (2 * k) 0, left.getD (2 * k) 0 + left.getD (2 * k + 1) 0, left.getD (2 * k + 1) 0⟩ : Arc) ∈ arcsOf to left
  | 0, _, _, _, _ => fun k hk => absurd hk (by omega)
  | m + 1, t0 :: t1 :: to, l0 :: l1 :: left, h1, h2 => fun k hk => by
    simp only [arcsOf]
    match k with
    | 0 => exact List.mem_cons_self ..
    | k + 1 =>
      have := arcs_get m to left (by simp at h1 <;> omega) (by simp at h2 <;> omega) k (by omega)
      rw [show 2 * (k + 1) + 1 = 2 * k + 1 + 2 by omega, show 2 * (k + 1) = 2 * k + 2 by omega]
      simp only [List.getD_cons_succ]
      exact List.mem_cons_of_mem _ this
  | m + 1, [], _, h1, _ => by simp at h1 <;> omega
  | m + 1, [_], _, h1, _ => by simp at h1 <;> omega
  | m + 1, _ :: _ :: _, [], _, h2 => by simp at h2 <;> omega
  | m + 1, _ :: _ :: _, [_], _, h2 => by simp at h2 <;> omega
theorem xor_one (e : Nat) : e ^^^ 1 = mate e := by
  unfold mate
  apply Nat.eq_of_testBit_eq
  intro i
  rw [Nat.testBit_xor]
  cases i with
  | zero =>
    by_cases c : e % 2 = 0
    · have c2 : (e + 1) % 2 = 1 := by omega
      simp [c, c2, Nat.testBit_zero]
    · have c1 : e % 2 = 1 := by omega
      have c2 : (e - 1) % 2 = 0 := by omega
      simp [c1, c2, Nat.testBit_zero]
  | succ i =>
    by_cases c : e % 2 = 0
    · have c2 : (e + 1) / 2 = e / 2 := by omega
      simp [c, Nat.testBit_succ, c2]
    · have c2 : (e - 1) / 2 = e / 2 := by omega
      simp [c, Nat.testBit_succ, c2]
theorem xorI_one {e : Nat} (h : e < 4611686018427387904) : xorI .i64 (e : Int) 1 = (mate e : Int) := by
  have hb : (BitVec.ofInt IntKind.i64.bits (e : Int) ^^^ BitVec.ofInt IntKind.i64.bits 1).toNat = e ^^^ 1 := by
    rw [BitVec.toNat_xor]
    have h1 : (BitVec.ofInt IntKind.i64.bits (e : Int)).toNat = e := by
      rw [BitVec.toNat_ofInt]
      show ((e : Int) % ((2 ^ 64 : Nat) : Int)).toNat = e
      omega
    have h2 : (BitVec.ofInt IntKind.i64.bits 1).toNat = 1 := by decide
    rw [h1, h2]
  unfold xorI
  rw [hb, xor_one]
  have : mate e ≤ e + 1 := by unfold mate; split <;> omega
  exact wr (by omega) (by omega)
end
noncomputable section
theorem gs_ne {α : Type} {x : List α} {i j : Nat} {a b : α} (h : i ≠ j) : (x.set i a).getD j b = x.getD j b := by
  simp only [List.getD_eq_getElem?_getD, List.getElem?_set_ne h]
theorem gs_eq {α : Type} {x : List α} {i : Nat} {a b : α} (h : i < x.length) : (x.set i a).getD i b = a := by
  simp only [List.getD_eq_getElem?_getD, List.getElem?_set_self h, Option.getD_some]
theorem gs_out {α : Type} {x : List α} {i : Nat} {a : α} (h : ¬ i < x.length) : x.set i a = x := List.set_eq_of_length_le (by omega)
structure Net where
  n : Nat
  m : Nat
  to : List Int
  adj : List (List Int)
def Net.hd (N : Net) (e : Nat) : Nat := (N.to.getD e 0).toNat
def Net.ad (N : Net) (v : Nat) : List Int := N.adj.getD v []
structure Net.Ok (N : Net) : Prop where
  n2 : 2 ≤ N.n
  nb : N.n ≤ 1099511627776
  mb : N.m ≤ 549755813888
  tol : N.to.length = 2 * N.m
  tor : ∀ e, e < 2 * N.m → 0 ≤ N.to.getD e 0 ∧ N.to.getD e 0 < (N.n : Int)
  adl : N.adj.length = N.n
  adm : ∀ v, ∀ y ∈ N.ad v, ∃ e : Nat, y = (e : Int) ∧ e < 2 * N.m ∧ N.hd (mate e) = v
  ada : ∀ e, e < 2 * N.m → (e : Int) ∈ N.ad (N.hd (mate e))
  adb : ∀ v, (N.ad v).length ≤ 1099511627776
theorem Net.Ok.hd_lt {N : Net} (h : N.Ok) {e : Nat} (he : e < 2 * N.m) : N.hd e < N.n := by
  have := h.tor e he
  unfold Net.hd; omega
theorem Net.Ok.hd_int {N : Net} (h : N.Ok) {e : Nat} (he : e < 2 * N.m) : N.to.getD e 0 = (N.hd e : Int) := by
  have := h.tor e he
  unfold Net.hd; omega
def Net.ed (N : Net) (v : Nat) (k : Int) (e : Nat) : Prop := 0 ≤ k ∧ (N.ad v)[k.toNat]? = some (e : Int)
theorem Net.ed.lt {N : Net} {v : Nat} {k : Int} {e : Nat} (h : N.ed v k e) : k < ((N.ad v).length : Int) := by
  obtain ⟨h0, h1⟩ := h
  have := (List.getElem?_eq_some_iff.1 h1).1
  omega
theorem Net.ed.mem {N : Net} {v : Nat} {k : Int} {e : Nat} (h : N.ed v k e) : (e : Int) ∈ N.ad v := List.mem_of_getElem? h.2
theorem Net.Ok.edge {N : Net} (h : N.Ok) {v : Nat} {k : Int} {e : Nat} (he : N.ed v k e) : e < 2 * N.m ∧ N.hd (mate e) = v := by
  obtain ⟨e', h1, h2, h3⟩ := h.adm v _ he.mem
  have : e = e' := by omega
  subst this; exact ⟨h2, h3⟩
def bump (x : List Int) (v : Nat) : List Int := x.set v (x.getD v 0 + 1)
def shift (l : List Int) (e : Nat) (s : Int) : List Int := (l.set e (l.getD e 0 - s)).set (mate e) (l.getD (mate e) 0 + s)
theorem bump_ne {x : List Int} {v u : Nat} (h : v ≠ u) : (bump x v).getD u 0 = x.getD u 0 := gs_ne h
theorem bump_eq {x : List Int} {v : Nat} (h : v < x.length) : (bump x v).getD v 0 = x.getD v 0 + 1 := gs_eq h
theorem bump_len {x : List Int} {v : Nat} : (bump x v).length = x.length := by simp [bump]
theorem bump_le {x : List Int} {v u : Nat} : x.getD u 0 ≤ (bump x v).getD u 0 := by
  by_cases h : v = u
  · subst h
    by_cases hl : v < x.length
    · rw [bump_eq hl]; omega
    · unfold bump; rw [gs_out hl]; exact Int.le_refl _
  · rw [bump_ne h]; exact Int.le_refl _
theorem shift_len {l : List Int} {e : Nat} {s : Int} : (shift l e s).length = l.length := by simp [shift]
theorem shift_ne {l : List Int} {e f : Nat} {s : Int} (h1 : e ≠ f) (h2 : mate e ≠ f) : (shift l e s).getD f 0 = l.getD f 0 := by
  unfold shift; rw [gs_ne h2, gs_ne h1]
theorem shift_eq {l : List Int} {e : Nat} {s : Int} (h : e < l.length) : (shift l e s).getD e 0 = l.getD e 0 - s := by
  unfold shift; rw [gs_ne (mate_ne e), gs_eq h]
theorem shift_mate {l : List Int} {e : Nat} {s : Int} (h : mate e < l.length) : (shift l e s).getD (mate e) 0 = l.getD (mate e) 0 + s := by
  unfold shift; rw [gs_eq (by simpa using h)]
inductive Dn (N : Net) (d : Nat → Int) : Bool → Nat → Int → List Int → List Int → Int → List Int → List Int → Prop
  | sink {most : Int} {l x : List Int} : Dn N d false (N.n - 1) most l x most l x
  | loop {v : Nat} {most s : Int} {l x l' x' : List Int} : v ≠ N.n - 1 → Dn N d true v most l x s l' x' → Dn N d false v most l x s l' x'
  | done {v : Nat} {most : Int} {l x : List Int} : ((N.ad v).length : Int) ≤ x.getD v 0 → Dn N d true v most l x 0 l x
  | skip {v e : Nat} {most s : Int} {l x l' x' : List Int} : N.ed v (x.getD v 0) e → (l.getD e 0 = 0 ∨ d (N.hd e) ≠ d v + 1) → Dn N d true v most l (bump x v) s l' x' → Dn N d true v most l x s l' x'
  | sent {v e : Nat} {most s : Int} {l x l1 x1 : List Int} : N.ed v (x.getD v 0) e → l.getD e 0 ≠ 0 → d (N.hd e) = d v + 1 → Dn N d false (N.hd e) (min most (l.getD e 0)) l x s l1 x1 → 0 < s → Dn N d true v most l x s (shift l1 e s) x1
  | zero {v e : Nat} {most s : Int} {l x l1 x1 l' x' : List Int} : N.ed v (x.getD v 0) e → l.getD e 0 ≠ 0 → d (N.hd e) = d v + 1 → Dn N d false (N.hd e) (min most (l.getD e 0)) l x 0 l1 x1 →
      Dn N d true v most l1 (bump x1 v) s l' x' → Dn N d true v most l x s l' x'
variable {N : Net} {d : Nat → Int} {b : Bool} {v : Nat} {most s : Int} {l x l' x' : List Int}
theorem Dn.keepx (h : Dn N d b v most l x s l' x') : ∀ u, d u < d v → x'.getD u 0 = x.getD u 0 := by
  induction h with
  | sink => intro u _; rfl
  | loop _ _ ih => exact ih
  | done _ => intro u _; rfl
  | skip _ _ _ ih => intro u hu; rw [ih u hu, bump_ne (fun e => by subst e; omega)]
  | sent _ _ hd _ _ ih => intro u hu; exact ih u (by omega)
  | zero _ _ hd _ _ ih1 ih2 => intro u hu; rw [ih2 u hu, bump_ne (fun e => by subst e; omega), ih1 u (by omega)]
theorem Dn.keepl (hN : N.Ok) (h : Dn N d b v most l x s l' x') : ∀ f, d (N.hd (mate f)) < d v → d (N.hd f) = d (N.hd (mate f)) + 1 → l'.getD f 0 = l.getD f 0 := by
  induction h with
  | sink => intro u _ _; rfl
  | loop _ _ ih => exact ih
  | done _ => intro u _ _; rfl
  | skip _ _ _ ih => exact ih
  | @sent v e most s l x l1 x1 he _ hd _ _ ih =>
    intro f h1 h2
    obtain ⟨e1, e2⟩ := hN.edge he
    rw [shift_ne, ih f (by omega) h2]
    · intro e'; subst e'; rw [e2] at h1; omega
    · intro e'; subst e'; rw [mate_mate] at h1 h2; rw [e2] at h2; omega
  | zero _ _ hd _ _ ih1 ih2 => intro f h1 h2; rw [ih2 f h1 h2, ih1 f (by omega) h2]
theorem Dn.lens (h : Dn N d b v most l x s l' x') : l'.length = l.length ∧ x'.length = x.length := by
  induction h with
  | sink => exact ⟨rfl, rfl⟩
  | loop _ _ ih => exact ih
  | done _ => exact ⟨rfl, rfl⟩
  | skip _ _ _ ih => exact ⟨ih.1, by rw [ih.2, bump_len]⟩
  | sent _ _ _ _ _ ih => exact ⟨by rw [shift_len, ih.1], ih.2⟩
  | zero _ _ _ _ _ ih1 ih2 => exact ⟨by rw [ih2.1, ih1.1], by rw [ih2.2, bump_len, ih1.2]⟩
structure WL (N : Net) (l : List Int) : Prop where
  len : l.length = 2 * N.m
  ge : ∀ e, e < 2 * N.m → 0 ≤ l.getD e 0
  le : ∀ e, e < 2 * N.m → l.getD e 0 + l.getD (mate e) 0 ≤ 2305843009213693952
structure WX (N : Net) (x : List Int) : Prop where
  len : x.length = N.n
  ge : ∀ v, v < N.n → 0 ≤ x.getD v 0
  le : ∀ v, v < N.n → x.getD v 0 ≤ ((N.ad v).length : Int)
theorem WX.bump (h : WX N x) {e : Nat} (he : N.ed v (x.getD v 0) e) : WX N (bump x v) := by
  refine ⟨by rw [bump_len]; exact h.len, fun u hu => Int.le_trans (h.ge u hu) bump_le, fun u hu => ?_⟩
  by_cases c : v = u
  · subst c
    rw [bump_eq (by rw [h.len]; exact hu)]
    have := he.lt; omega
  · rw [bump_ne c]; exact h.le u hu
theorem WL.shift (h : WL N l) {e : Nat} (he : e < 2 * N.m) {s : Int} (h0 : 0 ≤ s) (h1 : s ≤ l.getD e 0) : WL N (shift l e s) := by
  have hm := mate_lt he
  have a1 := h.ge e he
  have a2 := h.ge _ hm
  have a3 := h.le e he
  have q1 : (Go.OAI.shift l e s).getD e 0 = l.getD e 0 - s := shift_eq (by rw [h.len]; exact he)
  have q2 : (Go.OAI.shift l e s).getD (mate e) 0 = l.getD (mate e) 0 + s := shift_mate (by rw [h.len]; exact hm)
  refine ⟨by rw [shift_len]; exact h.len, fun f hf => ?_, fun f hf => ?_⟩
  · by_cases c1 : e = f
    · subst c1; omega
    · by_cases c2 : mate e = f
      · subst c2; omega
      · rw [shift_ne c1 c2]; exact h.ge f hf
  · by_cases c1 : e = f
    · subst c1; omega
    · by_cases c2 : mate e = f
      · subst c2; rw [mate_mate]; omega
      · rw [shift_ne c1 c2, shift_ne (fun c => c2 (by rw [c, mate_mate])) (fun c => c1 (by rw [← mate_mate e, c, mate_mate]))]; exact h.le f hf
theorem Dn.wf (hN : N.Ok) (h : Dn N d b v most l x s l' x') : v < N.n → WL N l → WX N x → 0 ≤ most → WL N l' ∧ WX N x' ∧ 0 ≤ s ∧ s ≤ most := by
  induction h with
  | sink => intro _ h1 h2 h3; exact ⟨h1, h2, h3, Int.le_refl _⟩
  | loop _ _ ih => exact ih
  | done _ => intro _ h1 h2 h3; exact ⟨h1, h2, Int.le_refl _, h3⟩
  | skip he _ _ ih => intro hv h1 h2 h3; exact ih hv h1 (h2.bump he) h3
  | @sent v e most s l x l1 x1 he _ hd hr _ ih =>
    intro hv h1 h2 h3
    obtain ⟨e1, e2⟩ := hN.edge he
    have hl := h1.ge e e1
    obtain ⟨g1, g2, g3, g4⟩ := ih (hN.hd_lt e1) h1 h2 (by omega)
    have hk := hr.keepl hN e (by rw [e2]; omega) (by rw [e2]; omega)
    exact ⟨g1.shift e1 g3 (by rw [hk]; omega), g2, g3, by omega⟩
  | @zero v e most s l x l1 x1 l' x' he _ hd hr _ ih1 ih2 =>
    intro hv h1 h2 h3
    obtain ⟨e1, e2⟩ := hN.edge he
    have hl := h1.ge e e1
    obtain ⟨g1, g2, g3, g4⟩ := ih1 (hN.hd_lt e1) h1 h2 (by omega)
    have hk := hr.keepx v (by omega)
    exact ih2 hv g1 (g2.bump (e := e) (by rw [hk]; exact he)) h3
theorem Dn.exc (hN : N.Ok) (h : Dn N d b v most l x s l' x') : v < N.n → l.length = 2 * N.m → ends (arcsOf N.to l') = ends (arcsOf N.to l) ∧
    ∀ u : Int, Go.OAI.exc (arcsOf N.to l') u = Go.OAI.exc (arcsOf N.to l) u + (if ((N.n - 1 : Nat) : Int) = u then s else 0) - (if (v : Int) = u then s else 0) := by
  induction h with
  | sink => intro _ _; exact ⟨rfl, fun u => by split <;> omega⟩
  | loop _ _ ih => exact ih
  | done _ => intro _ _; exact ⟨rfl, fun u => by split <;> split <;> omega⟩
  | skip he _ _ ih => exact ih
  | @sent v e most s l x l1 x1 he _ hd hr _ ih =>
    intro hv hl
    obtain ⟨e1, e2⟩ := hN.edge he
    have hl1 : l1.length = 2 * N.m := by rw [hr.lens.1, hl]
    obtain ⟨g1, g2⟩ := ih (hN.hd_lt e1) hl
    refine ⟨by unfold shift; rw [ends_push N.m N.to l1 e s hN.tol hl1 e1, g1], fun u => ?_⟩
    unfold shift
    rw [exc_push N.m N.to l1 e s u hN.tol hl1 e1, g2 u, hN.hd_int e1, hN.hd_int (mate_lt e1), e2]
    split <;> split <;> split <;> omega
  | @zero v e most s l x l1 x1 l' x' he _ hd hr _ ih1 ih2 =>
    intro hv hl
    obtain ⟨e1, e2⟩ := hN.edge he
    have hl1 : l1.length = 2 * N.m := by rw [hr.lens.1, hl]
    obtain ⟨g1, g2⟩ := ih1 (hN.hd_lt e1) hl
    obtain ⟨k1, k2⟩ := ih2 hv hl1
    refine ⟨k1.trans g1, fun u => ?_⟩
    rw [k2 u, g2 u]
    split <;> split <;> split <;> omega
def Dead (N : Net) (x : List Int) (u : Nat) : Prop := u ≠ N.n - 1 ∧ ((N.ad u).length : Int) ≤ x.getD u 0
def DInv (N : Net) (d : Nat → Int) (l x : List Int) : Prop := ∀ u, u < N.n → ∀ (k e : Nat), (k : Int) < x.getD u 0 → (N.ad u)[k]? = some (e : Int) → l.getD e 0 = 0 ∨ d (N.hd e) ≠ d u + 1 ∨ Dead N x (N.hd e)
theorem Dead.mono {x x' : List Int} {u : Nat} (h : Dead N x u) (hx : ∀ u, x.getD u 0 ≤ x'.getD u 0) : Dead N x' u := ⟨h.1, Int.le_trans h.2 (hx u)⟩
theorem DInv.bump (h : DInv N d l x) (hx : WX N x) (hv : v < N.n) {e : Nat} (he : N.ed v (x.getD v 0) e) (hu : l.getD e 0 = 0 ∨ d (N.hd e) ≠ d v + 1 ∨ Dead N x (N.hd e)) : DInv N d l (bump x v) := by
  intro u hu' k f hk hf
  have mono : ∀ w, Dead N x w → Dead N (Go.OAI.bump x v) w := fun w hw => hw.mono fun _ => bump_le
  by_cases c : v = u
  · subst c
    rw [bump_eq (by rw [hx.len]; exact hv)] at hk
    by_cases c2 : (k : Int) < x.getD v 0
    · exact (h v hv k f c2 hf).imp id fun g => g.imp id (mono _)
    · obtain ⟨h0, h1⟩ := he
      have : (x.getD v 0).toNat = k := by omega
      rw [this, hf] at h1
      have : f = e := by have := Option.some.inj h1; omega
      subst this
      exact hu.imp id fun g => g.imp id (mono _)
  · rw [bump_ne c] at hk
    exact (h u hu' k f hk hf).imp id fun g => g.imp id (mono _)
theorem Dn.dead (hN : N.Ok) (h : Dn N d b v most l x s l' x') : v < N.n → WL N l → WX N x → 0 < most → s = 0 → DInv N d l x → (b = true → v ≠ N.n - 1) → l' = l ∧ DInv N d l x' ∧ Dead N x' v := by
  induction h with
  | sink => intro _ _ _ h1 h2; omega
  | loop hv _ ih => intro h1 h2 h3 h4 h5 h6 _; exact ih h1 h2 h3 h4 h5 h6 fun _ => hv
  | done hd => intro h1 h2 h3 h4 h5 h6 h7; exact ⟨rfl, h6, h7 rfl, hd⟩
  | skip he hu _ ih =>
    intro h1 h2 h3 h4 h5 h6 h7
    exact ih h1 h2 (h3.bump he) h4 h5 (h6.bump h3 h1 he (hu.imp id .inl)) h7
  | sent _ _ _ _ hs _ => intro _ _ _ _ h5; omega
  | @zero v e most s l x l1 x1 l' x' he hne hd hr _ ih1 ih2 =>
    intro h1 h2 h3 h4 h5 h6 h7
    obtain ⟨e1, e2⟩ := hN.edge he
    have hl := h2.ge e e1
    obtain ⟨g1, g2, g3⟩ := ih1 (hN.hd_lt e1) h2 h3 (by omega) rfl h6 (fun c => by cases c)
    obtain ⟨w1, w2, _⟩ := hr.wf hN (hN.hd_lt e1) h2 h3 (by omega)
    have hk := hr.keepx v (by omega)
    have he' : N.ed v (x1.getD v 0) e := by rw [hk]; exact he
    subst g1
    exact ih2 h1 h2 (w2.bump he') h4 h5 (g2.bump w2 h1 he' (.inr (.inr g3))) h7
theorem dn_total (hN : N.Ok) {D : Int} (hD : ∀ u, u < N.n → d u ≤ D) : ∀ (k : Nat) (v : Nat), v < N.n → (D - d v).toNat ≤ k → ∀ (most : Int) (l x : List Int), 0 ≤ most → WL N l → WX N x → ∃ s l' x', Dn N d false v most l x s l' x' := by
  intro k
  induction k using Nat.strongRecOn with
  | _ k ih =>
    intro v hv hk most l x hm hl hx
    by_cases hs : v = N.n - 1
    · subst hs; exact ⟨_, _, _, .sink⟩
    · have loop : ∀ (j : Nat) (l x : List Int), (((N.ad v).length : Int) - x.getD v 0).toNat ≤ j → WL N l → WX N x → ∃ s l' x', Dn N d true v most l x s l' x' := by
        intro j
        induction j with
        | zero =>
          intro l x hj hl hx
          exact ⟨_, _, _, .done (by omega)⟩
        | succ j ihj =>
          intro l x hj hl hx
          by_cases hd : ((N.ad v).length : Int) ≤ x.getD v 0
          · exact ⟨_, _, _, .done hd⟩
          · have h0 := hx.ge v hv
            have hlt : (x.getD v 0).toNat < (N.ad v).length := by omega
            obtain ⟨e, h1, h2, h3⟩ := hN.adm v _ (List.getElem_mem hlt)
            have he : N.ed v (x.getD v 0) e := ⟨h0, by rw [List.getElem?_eq_getElem hlt, h1]⟩
            have hb : (((N.ad v).length : Int) - (bump x v).getD v 0).toNat ≤ j := by rw [bump_eq (by rw [hx.len]; exact hv)]; omega
            by_cases c1 : l.getD e 0 = 0
            · obtain ⟨s, l', x', hr⟩ := ihj l (bump x v) hb hl (hx.bump he)
              exact ⟨s, l', x', .skip he (.inl c1) hr⟩
            · by_cases c2 : d (N.hd e) = d v + 1
              · have hh := hN.hd_lt h2
                have := hD _ hh
                have hle := hl.ge e h2
                obtain ⟨s1, l1, x1, hr⟩ := ih ((D - d (N.hd e)).toNat) (by omega) (N.hd e) hh (Nat.le_refl _) (min most (l.getD e 0)) l x (by omega) hl hx
                obtain ⟨w1, w2, w3, w4⟩ := hr.wf hN hh hl hx (by omega)
                by_cases c3 : 0 < s1
                · exact ⟨_, _, _, .sent he c1 c2 hr c3⟩
                · have : s1 = 0 := by omega
                  subst this
                  have hk' := hr.keepx v (by omega)
                  have he' : N.ed v (x1.getD v 0) e := by rw [hk']; exact he
                  obtain ⟨s, l', x', hr'⟩ := ihj l1 (bump x1 v) (by rw [bump_eq (by rw [w2.len]; exact hv), hk']; omega) w1 (w2.bump he')
                  exact ⟨_, _, _, .zero he c1 c2 hr hr'⟩
              · obtain ⟨s, l', x', hr⟩ := ihj l (bump x v) hb hl (hx.bump he)
                exact ⟨s, l', x', .skip he (.inr c2) hr⟩
      obtain ⟨s, l', x', hr⟩ := loop _ l x (Nat.le_refl _) hl hx
      exact ⟨s, l', x', .loop hs hr⟩
end
noncomputable section
structure Bf where
  sn : List Bool
  lv : List Int
  L : List Int
def scan1 (N : Net) (l : List Int) (v : Nat) (t : Bf) (y : Int) : Bf :=
  if 0 < l.getD y.toNat 0 ∧ t.sn.getD (N.hd y.toNat) false = false then
    ⟨t.sn.set (N.hd y.toNat) true, t.lv.set (N.hd y.toNat) (t.lv.getD v 0 + 1), t.L ++ [(N.hd y.toNat : Int)]⟩
  else t
def scan (N : Net) (l : List Int) (v : Nat) (t : Bf) (es : List Int) : Bf := es.foldl (scan1 N l v) t
structure BI (N : Net) (l : List Int) (t : Bf) : Prop where
  snl : t.sn.length = N.n
  lvl : t.lv.length = N.n
  ran : ∀ y ∈ t.L, ∃ u : Nat, y = (u : Int) ∧ u < N.n
  cnt : t.L.length = t.sn.count true
  mem : ∀ u, u < N.n → (t.sn.getD u false = true ↔ (u : Int) ∈ t.L)
  zin : (0 : Int) ∈ t.L
  prd : ∀ u : Nat, (u : Int) ∈ t.L → u = 0 ∨ ∃ v e : Nat, (v : Int) ∈ t.L ∧ (e : Int) ∈ N.ad v ∧ 0 < l.getD e 0 ∧ N.hd e = u ∧ t.lv.getD u 0 = t.lv.getD v 0 + 1
  lv0 : t.lv.getD 0 0 = 0
  bnd : ∀ u : Nat, (u : Int) ∈ t.L → 0 ≤ t.lv.getD u 0 ∧ t.lv.getD u 0 < (t.L.length : Int)
  all : ∀ u : Nat, u < N.n → 0 ≤ t.lv.getD u 0 ∧ t.lv.getD u 0 ≤ (t.L.length : Int)
def Cl (N : Net) (l : List Int) (t : Bf) (v : Nat) : Prop := ∀ e : Nat, (e : Int) ∈ N.ad v → 0 < l.getD e 0 → t.sn.getD (N.hd e) false = true
variable {N : Net} {l : List Int} {t t' : Bf} {v : Nat}
theorem BI.len (h : BI N l t) : t.L.length ≤ N.n := by
  rw [h.cnt, ← h.snl]; exact List.count_le_length
theorem scan1_ok (hN : N.Ok) (h : BI N l t) (hv : (v : Int) ∈ t.L) {e : Nat} (he : (e : Int) ∈ N.ad v) :
    BI N l (scan1 N l v t e) ∧ (0 < l.getD e 0 → (scan1 N l v t e).sn.getD (N.hd e) false = true) ∧ (∀ u, t.sn.getD u false = true → (scan1 N l v t e).sn.getD u false = true) ∧ ∃ r, (scan1 N l v t e).L = t.L ++ r := by
  obtain ⟨e', h1, h2, h3⟩ := hN.adm v _ he
  have : e = e' := by omega
  subst this
  have hh := hN.hd_lt h2
  unfold scan1
  simp only [Int.toNat_natCast]
  by_cases c : 0 < l.getD e 0 ∧ t.sn.getD (N.hd e) false = false
  · rw [if_pos c]
    obtain ⟨c1, c2⟩ := c
    have hnew : ¬ (N.hd e : Int) ∈ t.L := fun hm => by rw [← h.mem _ hh] at hm; rw [hm] at c2; cases c2
    have hsl : N.hd e < t.sn.length := by rw [h.snl]; exact hh
    have hll : N.hd e < t.lv.length := by rw [h.lvl]; exact hh
    have keep : ∀ u : Nat, (u : Int) ∈ t.L → (t.lv.set (N.hd e) (t.lv.getD v 0 + 1)).getD u 0 = t.lv.getD u 0 := fun u hu => gs_ne fun c => hnew (by rw [c]; exact hu)
    refine ⟨⟨by simpa using h.snl, by simpa using h.lvl, ?_, ?_, ?_, List.mem_append_left _ h.zin, ?_, ?_, ?_, ?_⟩, fun _ => gs_eq hsl, fun u hu => ?_, _, rfl⟩
    · intro y hy
      rcases List.mem_append.1 hy with hy | hy
      · exact h.ran y hy
      · exact ⟨N.hd e, by simpa using hy, hh⟩
    · have hg : t.sn[N.hd e] = false := by simpa [List.getD_eq_getElem?_getD, List.getElem?_eq_getElem hsl] using c2
      show (t.L ++ [(N.hd e : Int)]).length = (t.sn.set (N.hd e) true).count true
      rw [List.count_set hsl, hg, List.length_append, h.cnt]
      simp
    · intro u hu
      by_cases c : N.hd e = u
      · subst c
        exact ⟨fun _ => by simp, fun _ => gs_eq hsl⟩
      · rw [gs_ne c, h.mem u hu]
        simp only [List.mem_append, List.mem_singleton]
        constructor
        · exact .inl
        · rintro (g | g)
          · exact g
          · omega
    · intro u hu
      rcases List.mem_append.1 hu with hu | hu
      · rcases h.prd u hu with g | ⟨w, f, g1, g2, g3, g4, g5⟩
        · exact .inl g
        · exact .inr ⟨w, f, List.mem_append_left _ g1, g2, g3, g4, by show (t.lv.set _ _).getD u 0 = (t.lv.set _ _).getD w 0 + 1; rw [keep u hu, keep w g1, g5]⟩
      · have : u = N.hd e := by have : (u : Int) = (N.hd e : Int) := by simpa using hu
                                omega
        subst this
        exact .inr ⟨v, e, List.mem_append_left _ hv, he, c1, rfl, by show (t.lv.set _ _).getD _ 0 = (t.lv.set _ _).getD v 0 + 1; rw [keep v hv, gs_eq hll]⟩
    · show (t.lv.set _ _).getD 0 0 = 0
      rw [keep 0 h.zin, h.lv0]
    · intro u hu
      show 0 ≤ (t.lv.set _ _).getD u 0 ∧ (t.lv.set _ _).getD u 0 < ((t.L ++ [(N.hd e : Int)]).length : Int)
      rw [List.length_append, List.length_singleton]
      rcases List.mem_append.1 hu with hu | hu
      · rw [keep u hu]
        have := h.bnd u hu; omega
      · have : u = N.hd e := by have : (u : Int) = (N.hd e : Int) := by simpa using hu
                                omega
        subst this
        rw [gs_eq hll]
        have := h.bnd v hv; omega
    · intro u hu
      show 0 ≤ (t.lv.set _ _).getD u 0 ∧ (t.lv.set _ _).getD u 0 ≤ ((t.L ++ [(N.hd e : Int)]).length : Int)
      rw [List.length_append, List.length_singleton]
      by_cases c : N.hd e = u
      · subst c
        rw [gs_eq hll]
        have := h.bnd v hv; omega
      · rw [gs_ne c]
        have := h.all u hu; omega
    · by_cases c : N.hd e = u
      · subst c; exact gs_eq hsl
      · show (t.sn.set _ _).getD u false = true
        rw [gs_ne c]; exact hu
  · rw [if_neg c]
    refine ⟨h, fun hl => ?_, fun u hu => hu, [], by simp⟩
    cases hs : t.sn.getD (N.hd e) false with
    | true => rfl
    | false => exact absurd ⟨hl, hs⟩ c
theorem scan_ok (hN : N.Ok) : ∀ (es : List Int) (t : Bf), BI N l t → (v : Int) ∈ t.L → (∀ y ∈ es, y ∈ N.ad v) →
    BI N l (scan N l v t es) ∧ (∀ e : Nat, (e : Int) ∈ es → 0 < l.getD e 0 → (scan N l v t es).sn.getD (N.hd e) false = true) ∧ (∀ u, t.sn.getD u false = true → (scan N l v t es).sn.getD u false = true) ∧ ∃ r, (scan N l v t es).L = t.L ++ r
  | [], t, h, _, _ => ⟨h, fun e he => by simp at he, fun _ hu => hu, [], by simp [scan]⟩
  | y :: es, t, h, hv, hs => by
    obtain ⟨e, he, _, _⟩ := hN.adm v y (hs y List.mem_cons_self)
    subst he
    obtain ⟨a1, a2, a3, r, a4⟩ := scan1_ok hN h hv (hs _ List.mem_cons_self)
    obtain ⟨b1, b2, b3, r', b4⟩ := scan_ok hN es (scan1 N l v t e) a1 (by rw [a4]; exact List.mem_append_left _ hv) fun y hy => hs y (List.mem_cons_of_mem _ hy)
    show BI N l (scan N l v (scan1 N l v t e) es) ∧ _
    refine ⟨b1, fun f hf hl => ?_, fun u hu => b3 u (a3 u hu), r ++ r', by show (scan N l v (scan1 N l v t e) es).L = _; rw [b4, a4, List.append_assoc]⟩
    rcases List.mem_cons.1 hf with g | g
    · have : f = e := by omega
      subst this
      exact b3 _ (a2 hl)
    · exact b2 f g hl
inductive Bs (N : Net) (l : List Int) : Nat → Bf → Bf → Prop
  | stop {i : Nat} {t : Bf} : t.L.length ≤ i → Bs N l i t t
  | step {i v : Nat} {t t' : Bf} : t.L[i]? = some (v : Int) → Bs N l (i + 1) (scan N l v t (N.ad v)) t' → Bs N l i t t'
theorem bs_total (hN : N.Ok) : ∀ (k i : Nat) (t : Bf), N.n - i ≤ k → BI N l t → ∃ t', Bs N l i t t' := by
  intro k
  induction k with
  | zero => intro i t hk h; exact ⟨t, .stop (by have := h.len; omega)⟩
  | succ k ih =>
    intro i t hk h
    by_cases c : t.L.length ≤ i
    · exact ⟨t, .stop c⟩
    · have hi : i < t.L.length := by omega
      obtain ⟨v, h1, h2⟩ := h.ran _ (List.getElem_mem hi)
      have hm : (v : Int) ∈ t.L := by rw [← h1]; exact List.getElem_mem hi
      have hlen := h.len
      obtain ⟨t', ht⟩ := ih (i + 1) (scan N l v t (N.ad v)) (by omega) (scan_ok hN _ t h hm fun _ h => h).1
      exact ⟨t', .step (by rw [List.getElem?_eq_getElem hi, h1]) ht⟩
theorem Bs.ok (hN : N.Ok) {i : Nat} (hb : Bs N l i t t') : BI N l t → (∀ k, k < i → ∀ v : Nat, t.L[k]? = some (v : Int) → Cl N l t v) → BI N l t' ∧ ∀ v : Nat, (v : Int) ∈ t'.L → Cl N l t' v := by
  induction hb with
  | @stop i t hi =>
    intro h hc
    refine ⟨h, fun v hv => ?_⟩
    obtain ⟨k, hk, e⟩ := List.getElem_of_mem hv
    exact hc k (by omega) v (by rw [List.getElem?_eq_getElem hk, e])
  | @step i v t t' hv _ ih =>
    intro h hc
    have hm : (v : Int) ∈ t.L := List.mem_of_getElem? hv
    obtain ⟨a1, a2, a3, r, a4⟩ := scan_ok hN _ t h hm fun _ h => h
    refine ih a1 fun k hk w hw => ?_
    by_cases c : k < i
    · have hlt : k < t.L.length := by have := (List.getElem?_eq_some_iff.1 hv).1; omega
      rw [a4, List.getElem?_append_left hlt] at hw
      exact fun e he hl => a3 _ (hc k c w hw e he hl)
    · have : k = i := by omega
      subst this
      have hlt : k < t.L.length := (List.getElem?_eq_some_iff.1 hv).1
      rw [a4, List.getElem?_append_left hlt, hv] at hw
      have : w = v := by have := Option.some.inj hw; omega
      subst this
      exact fun e he hl => a2 e he hl
structure Rd (N : Net) (l : List Int) (t : Bf) : Prop where
  bi : BI N l t
  cl : ∀ v : Nat, (v : Int) ∈ t.L → Cl N l t v
def start (n : Nat) : Bf := ⟨(List.replicate n false).set 0 true, List.replicate n 0, [0]⟩
theorem start_bi (hN : N.Ok) : BI N l (start N.n) := by
  have hn := hN.n2
  have g : ∀ u, (List.replicate N.n (0 : Int)).getD u 0 = 0 := fun u => by
    rw [List.getD_eq_getElem?_getD, List.getElem?_replicate]; split <;> rfl
  have only : ∀ u : Nat, (u : Int) ∈ [(0 : Int)] → u = 0 := fun u hu => by
    have : (u : Int) = 0 := by simpa using hu
    omega
  refine ⟨by simp [start], by simp [start], fun y hy => ⟨0, by simpa [start] using hy, by omega⟩, ?_, fun u hu => ?_, by simp [start], fun u hu => .inl (only u hu), g 0, fun u hu => ?_, fun u _ => by show 0 ≤ (List.replicate N.n (0 : Int)).getD u 0 ∧ (List.replicate N.n (0 : Int)).getD u 0 ≤ (1 : Int); rw [g u]; omega⟩
  · show 1 = ((List.replicate N.n false).set 0 true).count true
    have h0 : 0 < (List.replicate N.n false).length := by simp; omega
    rw [List.count_set h0]
    simp [List.count_replicate]
  · by_cases c : u = 0
    · subst c
      have h0 : 0 < (List.replicate N.n false).length := by simp; omega
      exact ⟨fun _ => by simp [start], fun _ => gs_eq h0⟩
    · have h1 : (start N.n).sn.getD u false = false := by
        show ((List.replicate N.n false).set 0 true).getD u false = false
        rw [gs_ne (Ne.symm c), List.getD_eq_getElem?_getD, List.getElem?_replicate]
        split <;> rfl
      rw [h1]
      constructor
      · intro h; cases h
      · intro h; exact absurd (only u h) c
  · rw [only u hu]
    show 0 ≤ (List.replicate N.n (0 : Int)).getD 0 0 ∧ (List.replicate N.n (0 : Int)).getD 0 0 < (1 : Int)
    rw [g 0]
    omega
theorem bfs_total (hN : N.Ok) : ∃ t, Bs N l 0 (start N.n) t ∧ Rd N l t := by
  obtain ⟨t, ht⟩ := bs_total hN N.n 0 (start N.n) (by omega) (start_bi (l := l) hN)
  obtain ⟨a, b⟩ := ht.ok hN (start_bi hN) fun k hk => absurd hk (by omega)
  exact ⟨t, ht, a, b⟩
def reach (t : Bf) (z : Int) : Bool := t.sn.getD z.toNat false
theorem arcs_ends (hN : N.Ok) (hl : WL N l) : ∀ a ∈ arcsOf N.to l, ∃ k, k < N.m ∧ a.a = (N.hd (2 * k + 1) : Int) ∧ a.b = (N.hd (2 * k) : Int) ∧ a.c = l.getD (2 * k) 0 + l.getD (2 * k + 1) 0 ∧ a.f = l.getD (2 * k + 1) 0 := by
  intro a ha
  obtain ⟨k, hk, rfl⟩ := arcs_mem N.m N.to l hN.tol hl.len a ha
  exact ⟨k, hk, hN.hd_int (by omega), hN.hd_int (by omega), rfl, rfl⟩
theorem mate_even (k : Nat) : mate (2 * k) = 2 * k + 1 := by
  unfold mate
  rw [if_pos (by omega)]
theorem mate_odd (k : Nat) : mate (2 * k + 1) = 2 * k := by
  unfold mate
  rw [if_neg (by omega)]; omega
theorem Rd.shut (hN : N.Ok) (hl : WL N l) (h : Rd N l t) : Shut (arcsOf N.to l) (reach t) := by
  intro a ha
  obtain ⟨k, hk, h1, h2, h3, h4⟩ := arcs_ends hN hl a ha
  unfold reach
  rw [h1, h2, h3, h4]
  simp only [Int.toNat_natCast]
  have a1 := hN.ada (2 * k) (by omega)
  have a2 := hN.ada (2 * k + 1) (by omega)
  rw [mate_even] at a1
  rw [mate_odd] at a2
  have b1 := hN.hd_lt (e := 2 * k) (by omega)
  have b2 := hN.hd_lt (e := 2 * k + 1) (by omega)
  refine ⟨fun c1 c2 => ?_, fun c1 c2 => ?_⟩
  · exact h.cl _ ((h.bi.mem _ b2).1 c1) _ a1 (by omega)
  · exact h.cl _ ((h.bi.mem _ b1).1 c1) _ a2 (by omega)
theorem Rd.ind (h : Rd N l t) {P : Nat → Prop} (h0 : P 0) (hs : ∀ v e : Nat, (v : Int) ∈ t.L → P v → (e : Int) ∈ N.ad v → 0 < l.getD e 0 → (N.hd e : Int) ∈ t.L → t.lv.getD (N.hd e) 0 = t.lv.getD v 0 + 1 → P (N.hd e)) :
    ∀ u : Nat, (u : Int) ∈ t.L → P u := by
  have key : ∀ (k u : Nat), (t.lv.getD u 0).toNat ≤ k → (u : Int) ∈ t.L → P u := by
    intro k
    induction k with
    | zero =>
      intro u hk hu
      rcases h.bi.prd u hu with g | ⟨v, e, g1, g2, g3, g4, g5⟩
      · rw [g]; exact h0
      · have := h.bi.bnd v g1; omega
    | succ k ih =>
      intro u hk hu
      rcases h.bi.prd u hu with g | ⟨v, e, g1, g2, g3, g4, g5⟩
      · rw [g]; exact h0
      · have hb := h.bi.bnd v g1
        subst g4
        exact hs v e g1 (ih v (by omega) g1) g2 g3 hu g5
  exact fun u hu => key _ u (Nat.le_refl _) hu
theorem Rd.least (hN : N.Ok) (hl : WL N l) (h : Rd N l t) (hx : ∀ v : Int, 0 < v → v < (N.n : Int) - 1 → exc (arcsOf N.to l) v = 0) (hs : t.sn.getD (N.n - 1) false = false) : Least N.n (ends (arcsOf N.to l)) (reach t) := by
  have hn := hN.n2
  refine least_of_flow (n := N.n) hn (fun a ha => ?_) (fun a ha => ?_) hx ?_ ?_ (h.shut hN hl) ?_
  · obtain ⟨k, hk, h1, h2, h3, h4⟩ := arcs_ends hN hl a ha
    have b1 := hN.hd_lt (e := 2 * k) (by omega)
    have b2 := hN.hd_lt (e := 2 * k + 1) (by omega)
    rw [h1, h2]; omega
  · obtain ⟨k, hk, h1, h2, h3, h4⟩ := arcs_ends hN hl a ha
    have b1 := hl.ge (2 * k) (by omega)
    have b2 := hl.ge (2 * k + 1) (by omega)
    rw [h3, h4]; omega
  · exact (h.bi.mem 0 (by omega)).2 h.bi.zin
  · unfold reach
    rw [show ((N.n : Int) - 1).toNat = N.n - 1 by omega, hs]
  · intro T t0 hT u u0 u1 hu
    have hin : ((u.toNat : Nat) : Int) ∈ t.L := (h.bi.mem _ (by omega)).1 hu
    have := h.ind (P := fun u => T (u : Int) = true) t0 (fun v e hv hp he hle hm _ => ?_) u.toNat hin
    · rwa [show ((u.toNat : Nat) : Int) = u by omega] at this
    · obtain ⟨e', q1, q2, q3⟩ := hN.adm v _ he
      have : e = e' := by omega
      subst this
      by_cases c : e % 2 = 0
      · have ha := arcs_get N.m N.to l hN.tol hl.len (e / 2) (by omega)
        have e1 : 2 * (e / 2) = e := by omega
        have e2 : mate e = e + 1 := by unfold mate; rw [if_pos c]
        rw [e1] at ha
        have hz := (hT _ ha).1
        simp only at hz
        rw [hN.hd_int (e := e + 1) (by omega), hN.hd_int q2, ← e2, q3] at hz
        exact hz hp (by omega)
      · have ha := arcs_get N.m N.to l hN.tol hl.len (e / 2) (by omega)
        have e1 : 2 * (e / 2) + 1 = e := by omega
        have e2 : mate e = 2 * (e / 2) := by unfold mate; rw [if_neg c]; omega
        rw [e1] at ha
        have hz := (hT _ ha).2
        simp only at hz
        rw [hN.hd_int q2, hN.hd_int (e := 2 * (e / 2)) (by omega), ← e2, q3] at hz
        exact hz hp hle
theorem Rd.first (hN : N.Ok) (hl : WL N l) (h : Rd N l t) {d : Nat → Int} (hd : ∀ u : Nat, (u : Int) ∈ t.L → d u = t.lv.getD u 0) (hs : t.sn.getD (N.n - 1) false = true) {x : List Int} (hx : DInv N d l x) : ¬ Dead N x 0 := by
  intro h0
  have hn := hN.n2
  have := h.ind (P := fun u => Dead N x u) h0 (fun v e hv hp he hle hm hlv => ?_) (N.n - 1) ((h.bi.mem _ (by omega)).1 hs)
  · exact this.1 rfl
  · obtain ⟨k, hk, hke⟩ := List.getElem_of_mem he
    obtain ⟨u, hu1, hu2⟩ := h.bi.ran _ hv
    have hvn : v < N.n := by omega
    rcases hx v hvn k e (by have := hp.2; omega) (by rw [List.getElem?_eq_getElem hk, hke]) with g | g | g
    · omega
    · rw [hd _ hm, hd _ hv] at g; exact absurd hlv g
    · exact g
end
end Go.OAI
