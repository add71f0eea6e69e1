/- Contracts of functions of Go's library. -/
import Derived.Test.YthjlfdaajdlboaaDoorK3
import Derived.Test.YthjlfdaajdlboaaDoorShI
namespace Go.OAI
open Go.Proofs
set_option linter.unusedVariables false

/-- strconv.Itoa -/
def lib_Itoa (n : Int) : Option ByteArray := cond (decide (-9223372036854775808 ≤ n) && decide (n ≤ 9223372036854775807)) (some ⟨(Lib.itoa n).toArray⟩) none
def c34 : Callee := mkC [.one (.ro (.int .i64))] 1 [.one (.ro .str)] fun x => lib_Itoa x
theorem k34 : CalleeOk Tryd.prog 34 c34 := by
  refine callee_lib (fun x vs => by cases vs <;> rfl) (fun y => ⟨rfl, rfl, rfl⟩) fun w R vs x y hR hT hl hv hG => ?_
  obtain ⟨v, rfl⟩ : ∃ v, vs = [v] := List.length_eq_one_iff.1 hl
  obtain ⟨gw, S, h0⟩ := hv 0 v (.int .i64 x) rfl rfl
  have h0 : v = .int .i64 x := h0
  subst h0
  simp only [lib_Itoa] at hG
  cases hb : (decide (-9223372036854775808 ≤ x) && decide (x ≤ 9223372036854775807)) with
  | false => rw [hb] at hG; cases hG
  | true =>
    rw [hb] at hG
    cases hG
    simp only [Bool.and_eq_true, decide_eq_true_eq] at hb
    refine (Tryd.strconv_Itoa x hb.1 hb.2 w (TT.tab hT)).mono fun e w' ⟨he, k, os, hw⟩ => ?_
    subst hw
    refine ⟨[_], he, rfl, als_plain fun p hp S => ?_, fun b hb => ?_, by simp [Sort.grow, World.drewN], ⟨rfl, rfl⟩⟩
    · simp only [PK.outs, PK.out, CK.out, Ty.flat, List.headD, List.zip_cons_cons, List.zip_nil_left, List.mem_singleton] at hp
      subst hp; rfl
    · show (w.heap ++ os)[b]? = w.heap[b]?
      rw [Array.getElem?_append_left hb]

/-- strings.Join -/
def lib_Join (xs : List ByteArray) (s : ByteArray) : Option ByteArray :=
  cond (decide (xs.length ≤ 140737488355328) && decide ((Lib.join (xs.map (·.data.toList)) s.data.toList).length ≤ 140737488355328)) (some ⟨(Lib.join (xs.map (·.data.toList)) s.data.toList).toArray⟩) none
def c35 : Callee := mkC [.one (.ro (.slice .str)), .one (.ro .str)] 1 [.one (.ro .str)] fun x => lib_Join x.1 x.2
theorem k35 : CalleeOk Tryd.prog 35 c35 := by
  refine callee_lib (fun x vs => by cases vs with | nil => rfl | cons v vs => cases vs <;> rfl) (fun y => ⟨rfl, rfl, rfl⟩) fun w R vs x y hR hT hl hv hG => ?_
  obtain ⟨v, u, rfl⟩ : ∃ v u, vs = [v, u] := by
    match vs, (show vs.length = 2 from hl) with
    | [v, u], _ => exact ⟨v, u, rfl⟩
  obtain ⟨xs, s⟩ := x
  obtain ⟨gw, S, h0⟩ := hv 0 v (.sl .str xs) rfl rfl
  obtain ⟨gw', S', h1⟩ := hv 1 u (.str s) rfl rfl
  have h0 : RT w R (.slice .str) [v] xs := h0
  have h1 : u = .string s := h1
  subst h1
  obtain ⟨B, cap, h2, h3, h4, h5⟩ := h0
  cases h2
  simp only [lib_Join] at hG
  cases hb : (decide (xs.length ≤ 140737488355328) && decide ((Lib.join (xs.map (·.data.toList)) s.data.toList).length ≤ 140737488355328)) with
  | false => rw [hb] at hG; cases hG
  | true =>
    rw [hb] at hG
    cases hG
    simp only [Bool.and_eq_true, decide_eq_true_eq] at hb
    cases xs with
    | nil =>
      refine (Tryd.strings_Join_none B cap s w).mono fun e w' ⟨he, hw⟩ => ?_
      subst hw
      refine ⟨[_], he, rfl, als_plain fun p hp S => ?_, fun b hb => rfl, Nat.le_refl _, ⟨rfl, rfl⟩⟩
      simp only [PK.outs, PK.out, CK.out, Ty.flat, List.headD, List.zip_cons_cons, List.zip_nil_left, List.mem_singleton] at hp
      subst hp; rfl
    | cons x0 xs0 =>
      obtain ⟨b, o, us, rfl, e2, e3, e4, e5⟩ := h5 0 x0 rfl
      refine (Tryd.strings_Join b o cap (x0 :: xs0) s w (fun j x hx => ?_) (hR b e2) hb.1 h3 hb.2).mono fun e w' ⟨he, hw⟩ => ?_
      · obtain ⟨b', o', us', f1, f2, f3, f4, f5⟩ := h5 j x hx
        cases f1
        have f4 : us' = [.string x] := f4
        subst f4
        have := f5 0 _ rfl
        simpa [Ty.cells, cellAt] using this
      · refine ⟨[_], he, rfl, als_plain fun p hp S => ?_, hw.block, hw.size, ⟨hw.os, hw.output⟩⟩
        simp only [PK.outs, PK.out, CK.out, Ty.flat, List.headD, List.zip_cons_cons, List.zip_nil_left, List.mem_singleton] at hp
        subst hp; rfl
end Go.OAI
