/- What stands of the package-level variables: the table of powers of ten; bytealg's MaxLen, whatever it is. -/
import Derived.Test.YtfkdmflcildgbaaDoorA1
import Derived.Test.YtfkdmflcildgbaaDoorProg
import Derived.Lib.LaidTab
import Derived.Lib.ItoaNum
namespace Go.OAI
open Go.Proofs
/-- The blocks of the package-level variables, as far as they are read. -/
def NG : Nat := 2
/-- What they hold. -/
def TT (w : World) : Prop := Lib.TabIs Tryd.prog w "internal/strconv.uint64pow10" .u64 Lib.pow10Tab ∧ ∃ m, w.cell? ⟨0, 0, none⟩ = some (.int .i64 m)
theorem pow_at : Tryd.prog.globalNamed "internal/strconv.uint64pow10" = some 1 := by kernel_rfl
theorem TT.tab {w : World} (h : TT w) : Lib.TabIs Tryd.prog w "internal/strconv.uint64pow10" .u64 Lib.pow10Tab := h.1
theorem TT.max {w : World} (h : TT w) : ∃ m, w.cell? ⟨0, 0, none⟩ = some (.int .i64 m) := h.2
theorem TT.congr {w w' : World} (h : ∀ b, b < NG → w'.heap[b]? = w.heap[b]?) (ht : TT w) : TT w' := by
  obtain ⟨h1, m, hm⟩ := ht
  refine ⟨?_, m, ?_⟩
  · unfold Lib.TabIs World.var? at *
    rw [pow_at] at *
    simp only [Option.bind_some] at *
    rw [h 1 (by decide)]
    exact h1
  · rw [← hm]
    unfold World.cell?
    rw [h 0 (by decide)]
/-- What a law is entered with. -/
def KP (w : World) : Prop := NG ≤ w.heap.size ∧ TT w
end Go.OAI
