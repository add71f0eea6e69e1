/- What stands of the package-level variables: bytealg's MaxLen, whatever it is. -/
import Derived.Test.YthjlfdaajdlboaaDoorA1
namespace Go.OAI
/-- The blocks of the package-level variables, as far as they are read. -/
def NG : Nat := 1
/-- What they hold. -/
def TT (w : World) : Prop := ∃ m, w.cell? ⟨0, 0, none⟩ = some (.int .i64 m)
theorem TT.max {w : World} (h : TT w) : ∃ m, w.cell? ⟨0, 0, none⟩ = some (.int .i64 m) := h
theorem TT.congr {w w' : World} (h : ∀ b, b < NG → w'.heap[b]? = w.heap[b]?) (ht : TT w) : TT w' := by
  obtain ⟨m, hm⟩ := ht
  refine ⟨m, ?_⟩
  rw [← hm]
  unfold World.cell?
  rw [h 0 (by decide)]
/-- What a law is entered with. -/
def KP (w : World) : Prop := NG ≤ w.heap.size ∧ TT w
end Go.OAI
