/- What stands of the package-level variables: the table of powers of ten. -/
import Derived.Test.YthjlfdaajdlboaaDoorA1
import Derived.Test.YthjlfdaajdlboaaDoorProg
import Derived.Lib.LaidTab
import Derived.Lib.ItoaNum
namespace Go.OAI
open Go.Proofs
/-- The blocks of the package-level variables. -/
def NG : Nat := 2
/-- What they hold. -/
def TT (w : World) : Prop := Lib.TabIs Tryd.prog w "internal/strconv.uint64pow10" .u64 Lib.pow10Tab
theorem pow_at : Tryd.prog.globalNamed "internal/strconv.uint64pow10" = some 1 := by kernel_rfl
theorem TT.tab {w : World} (h : TT w) : Lib.TabIs Tryd.prog w "internal/strconv.uint64pow10" .u64 Lib.pow10Tab := h
theorem TT.congr {w w' : World} (h : ∀ b, b < NG → w'.heap[b]? = w.heap[b]?) (ht : TT w) : TT w' := by
  unfold TT Lib.TabIs World.var? at *
  rw [pow_at] at *
  simp only [Option.bind_some] at *
  rw [h 1 (by decide)]
  exact ht
/-- What a law is entered with. -/
def KP (w : World) : Prop := NG ≤ w.heap.size ∧ TT w
end Go.OAI
