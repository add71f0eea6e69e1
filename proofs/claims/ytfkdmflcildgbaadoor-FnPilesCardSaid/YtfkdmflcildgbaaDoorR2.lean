/- A program's head, word by word, cheaply for the kernel. -/
import Derived.Test.YtfkdmflcildgbaaDoorR1
namespace Go.OAI
set_option linter.unusedVariables false

def wsA : List Char → List Char → List (List Char)
  | [], a => [a.reverse]
  | c :: r, a => match c.toNat == 32 with
    | true => a.reverse :: wsA r []
    | false => wsA r (c :: a)
theorem words_ne (l : List Char) : wordsSigns l ≠ [] := by
  cases l with
  | nil => simp [wordsSigns]
  | cons c r =>
    by_cases h : c = ' '
    · subst h; simp [wordsSigns]
    · rw [wordsSigns]
      · split <;> simp
      · exact h
theorem wsA_eq : ∀ (l a : List Char), wsA l a = (match wordsSigns l with | w :: ws => (a.reverse ++ w) :: ws | [] => [a.reverse])
  | [], a => by simp [wsA, wordsSigns]
  | c :: r, a => by
    unfold wsA
    by_cases h : c = ' '
    · subst h
      have e : (' '.toNat == 32) = true := rfl
      rw [e]
      dsimp only
      rw [wsA_eq r []]
      simp only [wordsSigns]
      cases hw : wordsSigns r with
      | nil => exact absurd hw (words_ne r)
      | cons w ws => simp
    · have e : (c.toNat == 32) = false := by
        rw [beq_eq_false_iff_ne]
        intro e
        exact h (Char.toNat_inj.1 (e.trans rfl))
      rw [e]
      dsimp only
      rw [wsA_eq r (c :: a), wordsSigns]
      · cases hw : wordsSigns r with
        | nil => exact absurd hw (words_ne r)
        | cons w ws => simp
      · exact h
theorem ws_eq (l : List Char) : wordsSigns l = wsA l [] := by
  rw [wsA_eq]
  cases hw : wordsSigns l with
  | nil => exact absurd hw (words_ne l)
  | cons w ws => simp
end Go.OAI
