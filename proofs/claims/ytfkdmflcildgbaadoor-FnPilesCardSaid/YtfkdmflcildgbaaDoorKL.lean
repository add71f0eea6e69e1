/- Contracts of functions of Go's library. -/
import Derived.Test.YtfkdmflcildgbaaDoorK3
import Derived.Test.YtfkdmflcildgbaaDoorSh
namespace Go.OAI
open Go.Proofs
set_option linter.unusedVariables false

/-- strconv.Itoa -/
def lib_Itoa (n : Int) : Option ByteArray := cond (decide (-9223372036854775808 ≤ n) && decide (n ≤ 9223372036854775807)) (some ⟨(Lib.itoa n).toArray⟩) none
def c50 : Callee := mkC [.one (.ro (.int .i64))] 1 [.one (.ro .str)] fun x => lib_Itoa x
theorem k50 : CalleeOk Tryd.prog 50 c50 := by
  refine callee_lib (fun x vs => by cases vs <;> rfl) (fun y => ⟨rfl, rfl, rfl⟩) fun w R vs x y hR hT hl hv hG => ?_
  obtain ⟨v, rfl⟩ : ∃ v, vs = [v] := List.length_eq_one_iff.1 hl
  obtain ⟨gw, S, h0⟩ := hv 0 v (.int .i64 x) rfl rfl
  have h0 : v = .int .i64 x := h0
  subst h0
  simp only [lib_Itoa] at hG
  cases hb : (decide (-9223372036854775808 ≤ x) && decide (x ≤ 9223372036854775807)) with
  | false => rw [hb] at hG; cases hG
  | true =>
    rw [hb] at hG
    cases hG
    simp only [Bool.and_eq_true, decide_eq_true_eq] at hb
    refine (Tryd.strconv_Itoa x hb.1 hb.2 w (TT.tab hT)).mono fun e w' ⟨he, k, os, hw⟩ => ?_
    subst hw
    refine ⟨[_], he, rfl, als_plain fun p hp S => ?_, fun b hb => ?_, by simp [Sort.grow, World.drewN], ⟨rfl, rfl⟩⟩
    · simp only [PK.outs, PK.out, CK.out, Ty.flat, List.headD, List.zip_cons_cons, List.zip_nil_left, List.mem_singleton] at hp
      subst hp; rfl
    · show (w.heap ++ os)[b]? = w.heap[b]?
      rw [Array.getElem?_append_left hb]

/-- strings.Join -/
def lib_Join (xs : List ByteArray) (s : ByteArray) : Option ByteArray :=
  cond (decide (xs.length ≤ 140737488355328) && decide ((Lib.join (xs.map (·.data.toList)) s.data.toList).length ≤ 140737488355328)) (some ⟨(Lib.join (xs.map (·.data.toList)) s.data.toList).toArray⟩) none
def c51 : Callee := mkC [.one (.ro (.slice .str)), .one (.ro .str)] 1 [.one (.ro .str)] fun x => lib_Join x.1 x.2
theorem k51 : CalleeOk Tryd.prog 51 c51 := by
  refine callee_lib (fun x vs => by cases vs with | nil => rfl | cons v vs => cases vs <;> rfl) (fun y => ⟨rfl, rfl, rfl⟩) fun w R vs x y hR hT hl hv hG => ?_
  obtain ⟨v, u, rfl⟩ : ∃ v u, vs = [v, u] := by
    match vs, (show vs.length = 2 from hl) with
    | [v, u], _ => exact ⟨v, u, rfl⟩
  obtain ⟨xs, s⟩ := x
  obtain ⟨gw, S, h0⟩ := hv 0 v (.sl .str xs) rfl rfl
  obtain ⟨gw', S', h1⟩ := hv 1 u (.str s) rfl rfl
  have h0 : RT w R (.slice .str) [v] xs := h0
  have h1 : u = .string s := h1
  subst h1
  obtain ⟨B, cap, h2, h3, h4, h5⟩ := h0
  cases h2
  simp only [lib_Join] at hG
  cases hb : (decide (xs.length ≤ 140737488355328) && decide ((Lib.join (xs.map (·.data.toList)) s.data.toList).length ≤ 140737488355328)) with
  | false => rw [hb] at hG; cases hG
  | true =>
    rw [hb] at hG
    cases hG
    simp only [Bool.and_eq_true, decide_eq_true_eq] at hb
    cases xs with
    | nil =>
      refine (Tryd.strings_Join_none B cap s w).mono fun e w' ⟨he, hw⟩ => ?_
      subst hw
      refine ⟨[_], he, rfl, als_plain fun p hp S => ?_, fun b hb => rfl, Nat.le_refl _, ⟨rfl, rfl⟩⟩
      simp only [PK.outs, PK.out, CK.out, Ty.flat, List.headD, List.zip_cons_cons, List.zip_nil_left, List.mem_singleton] at hp
      subst hp; rfl
    | cons x0 xs0 =>
      obtain ⟨b, o, us, rfl, e2, e3, e4, e5⟩ := h5 0 x0 rfl
      refine (Tryd.strings_Join b o cap (x0 :: xs0) s w (fun j x hx => ?_) (hR b e2) hb.1 h3 hb.2).mono fun e w' ⟨he, hw⟩ => ?_
      · obtain ⟨b', o', us', f1, f2, f3, f4, f5⟩ := h5 j x hx
        cases f1
        have f4 : us' = [.string x] := f4
        subst f4
        have := f5 0 _ rfl
        simpa [Ty.cells, cellAt] using this
      · refine ⟨[_], he, rfl, als_plain fun p hp S => ?_, hw.block, hw.size, ⟨hw.os, hw.output⟩⟩
        simp only [PK.outs, PK.out, CK.out, Ty.flat, List.headD, List.zip_cons_cons, List.zip_nil_left, List.mem_singleton] at hp
        subst hp; rfl

/-- strings.CutPrefix -/
def lib_CutPrefix (s p : ByteArray) : Option (ByteArray × Bool) := some (⟨(Lib.trimPrefix s.data.toList p.data.toList).toArray⟩, Lib.hasPrefix s.data.toList p.data.toList)
def c34 : Callee := mkC [.one (.ro .str), .one (.ro .str)] 2 [.one (.ro .str), .one (.ro .bool)] fun x => lib_CutPrefix x.1 x.2
theorem k34 : CalleeOk Tryd.prog 34 c34 := by
  refine callee_lib (fun x vs => by cases vs with | nil => rfl | cons v vs => cases vs <;> rfl) (fun y => ⟨rfl, rfl, rfl⟩) fun w R vs x y hR hT hl hv hG => ?_
  obtain ⟨v, u, rfl⟩ : ∃ v u, vs = [v, u] := by
    match vs, (show vs.length = 2 from hl) with
    | [v, u], _ => exact ⟨v, u, rfl⟩
  obtain ⟨s, p⟩ := x
  obtain ⟨gw, S, h0⟩ := hv 0 v (.str s) rfl rfl
  obtain ⟨gw', S', h1⟩ := hv 1 u (.str p) rfl rfl
  have h0 : v = .string s := h0
  have h1 : u = .string p := h1
  subst h0 h1
  cases hG
  refine (Tryd.strings_CutPrefix s p w).mono fun e w' ⟨he, hw⟩ => ?_
  subst hw
  refine ⟨[_, _], he, rfl, als_plain fun q hq S => ?_, fun b hb => rfl, Nat.le_refl _, ⟨rfl, rfl⟩⟩
  simp only [PK.outs, PK.out, CK.out, Ty.flat, List.headD, List.zip_cons_cons, List.zip_nil_left, List.mem_cons, List.mem_nil_iff, or_false] at hq
  rcases hq with rfl | rfl <;> rfl

/-- strings.Count at one byte -/
def lib_Count (s p : ByteArray) : Option Int := match p.data.toList with
  | [c] => some (Lib.countByte s.data.toList c)
  | _ => none
def c36 : Callee := mkC [.one (.ro .str), .one (.ro .str)] 1 [.one (.ro (.int .i64))] fun x => lib_Count x.1 x.2
theorem k36 : CalleeOk Tryd.prog 36 c36 := by
  refine callee_lib (fun x vs => by cases vs with | nil => rfl | cons v vs => cases vs <;> rfl) (fun y => ⟨rfl, rfl, rfl⟩) fun w R vs x y hR hT hl hv hG => ?_
  obtain ⟨v, u, rfl⟩ : ∃ v u, vs = [v, u] := by
    match vs, (show vs.length = 2 from hl) with
    | [v, u], _ => exact ⟨v, u, rfl⟩
  obtain ⟨s, ⟨⟨p⟩⟩⟩ := x
  obtain ⟨gw, S, h0⟩ := hv 0 v (.str s) rfl rfl
  obtain ⟨gw', S', h1⟩ := hv 1 u (.str ⟨⟨p⟩⟩) rfl rfl
  have h0 : v = .string s := h0
  have h1 : u = .string ⟨⟨p⟩⟩ := h1
  subst h0 h1
  match p, hG with
  | [c], hG =>
    cases hG
    refine (Tryd.strings_Count_one s c w).mono fun e w' ⟨he, hw⟩ => ?_
    subst hw
    refine ⟨[_], he, rfl, als_plain fun q hq S => ?_, fun b hb => rfl, Nat.le_refl _, ⟨rfl, rfl⟩⟩
    simp only [PK.outs, PK.out, CK.out, Ty.flat, List.headD, List.zip_cons_cons, List.zip_nil_left, List.mem_singleton] at hq
    subst hq; rfl
  | [], hG => cases hG
  | _ :: _ :: _, hG => cases hG

/-- strings.Split -/
def lib_Split (s p : ByteArray) : Option (List ByteArray) :=
  cond (decide (s.size < 4294967281) && decide (1 ≤ p.size)) (some (Lib.splitB p 0 (Lib.countB s p) s)) none
theorem splitB_len {p : ByteArray} (h1 : 1 ≤ p.size) : ∀ (k : Nat) (s : ByteArray), k = Lib.countB s p → (Lib.splitB p 0 k s).length = k + 1
  | 0, _, _ => rfl
  | k + 1, s, h => by
    by_cases hm : Lib.indexB s p = -1
    · rw [Lib.countB_miss s p hm] at h; cases h
    · have hge : -1 ≤ Lib.indexB s p := Lib.index_ge s.data.toList p.data.toList
      obtain ⟨i, hi⟩ : ∃ i : Nat, Lib.indexB s p = i := ⟨(Lib.indexB s p).toNat, by omega⟩
      rw [Lib.splitB_hit p 0 k s i hi, List.length_cons, splitB_len h1 k _ (by rw [Lib.countB_hit s p i h1 hi] at h; omega)]
def c54 : Callee := mkC [.one (.ro .str), .one (.ro .str)] 1 [.one (.sl .str)] fun x => lib_Split x.1 x.2
theorem k54 : CalleeOk Tryd.prog 54 c54 := by
  refine callee_lib (fun x vs => by cases vs with | nil => rfl | cons v vs => cases vs <;> rfl) (fun y => ⟨rfl, rfl, rfl⟩) fun w R vs x y hR hT hl hv hG => ?_
  obtain ⟨v, u, rfl⟩ : ∃ v u, vs = [v, u] := by
    match vs, (show vs.length = 2 from hl) with
    | [v, u], _ => exact ⟨v, u, rfl⟩
  obtain ⟨s, p⟩ := x
  obtain ⟨gw, S, h0⟩ := hv 0 v (.str s) rfl rfl
  obtain ⟨gw', S', h1⟩ := hv 1 u (.str p) rfl rfl
  have h0 : v = .string s := h0
  have h1 : u = .string p := h1
  subst h0 h1
  simp only [lib_Split] at hG
  cases hb : (decide (s.size < 4294967281) && decide (1 ≤ p.size)) with
  | false => rw [hb] at hG; cases hG
  | true =>
    rw [hb] at hG
    cases hG
    simp only [Bool.and_eq_true, decide_eq_true_eq] at hb
    obtain ⟨m, hm⟩ := TT.max hT
    refine (Tryd.strings_Split s p m w hb.1 hm hb.2).mono fun e w' ⟨he, hw⟩ => ?_
    subst hw
    have hlen := splitB_len hb.2 _ s rfl
    refine ⟨[_], he, rfl, ⟨fun i b => i = 0 ∧ b = w.heap.size, fun i q hq => ?_, fun i j b hij h1 h2 => hij (h1.1.trans h2.1.symm), fun i b h => ?_⟩, fun b hb => ?_, ?_, ⟨rfl, rfl⟩⟩
    · have hq' : i = 0 ∧ q = (.slice (some ⟨w.heap.size, 0, none⟩) (Lib.countB s p + 1) (Lib.countB s p + 1), .osl .str (Lib.splitB p 0 (Lib.countB s p) s)) := by
        cases i with
        | zero => exact ⟨rfl, (Option.some.inj hq).symm⟩
        | succ i => simp [PK.outs] at hq
      obtain ⟨rfl, rfl⟩ := hq'
      refine ⟨⟨some ⟨w.heap.size, 0, none⟩, Lib.countB s p + 1, 1⟩, by rw [hlen], ⟨rfl, by rw [hlen]; exact Nat.le_refl _, fun _ => ⟨w.heap.size, 0, _, _, rfl, heap_alloc_new w _, ?_, fun i x hx => ⟨[.string x], rfl, fun c u hu => ?_⟩⟩⟩, fun b hb => ⟨rfl, ?_⟩⟩
      · simp [hlen, Ty.cells]
      · cases c with
        | succ c => simp at hu
        | zero =>
          simp at hu
          subst hu
          simp [Ty.cells, hx]
      · obtain ⟨_, off, h⟩ := hb
        cases h; rfl
    · obtain ⟨rfl, rfl⟩ := h
      refine ⟨Nat.le_refl _, ?_⟩
      show w.heap.size < (w.heap.push _).size
      simp
    · show (w.heap.push _)[b]? = w.heap[b]?
      rw [Array.getElem?_push_lt hb]; simp [hb]
    · show w.heap.size ≤ (w.heap.push _).size
      simp
end Go.OAI
