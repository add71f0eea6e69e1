/-
  DERIVED. GIVEN WITH THE SEED: THE CARDS: each row of YtfkdmflcildgbaaDoorRows.lean that lists a variable, with what it lists TIED to the program's text (the seventh form; the later family's looks); each row that meets fmt, with fmt's text TOLD by the authors' own Lean function (tested against real Go, not proved from fmt's source: count such statements apart). THE CARD IS WHAT COUNTS. Prove the row's statement (the work); the ties are given (YtfkdmflcildgbaaDoorTie.lean); close each card by the builder's one call (the guide's Derived/Test/ToyasCard.lean, 'card_holds'). Laid BY PROGRAM, IN A SANDBOX (cutbox-door.mjs). By AI agents, Wed Nov 11 2026. No macro, syntax, notation, axiom, sorry.
-/
import Derived.Test.YtfkdmflcildgbaaDoorRows
import GoSem.ClaimSeven
namespace Go.Proofs.YtfkdmflcildgbaaDoor
namespace Rows

/-- THE TIED CARD OF 'laws.FnPiles'. -/
def fnPilesCard : Claim7 := { stood := { row := fnPilesRow, standIns := [], harness := (true, "891b3a1f2ee33d4dffa982abcc006b2b11dfe587c8bed56447639fa86a6be6bb"), looks := false }, kinds := [], alts := [], laidByText := true, laidKinds := [.data, .data, .data, .data, .pinned], laidTests := true, laidLooks := .later }
def FnPilesCardSaid : Prop := Claim7.holds Tryd.pinned (.plain (OpenSpec.ofChange fnPilesSpec)) fnPilesCard

/-- THE SECOND FORM's CARD OF 'laws.FnPiles'. -/
def fnPilesUptoCard : Claim7 := { stood := { row := fnPilesUptoRow, standIns := [], harness := (true, "891b3a1f2ee33d4dffa982abcc006b2b11dfe587c8bed56447639fa86a6be6bb"), looks := false }, kinds := [], alts := [], laidByText := true, laidKinds := [.data, .data, .data, .data, .pinned], laidTests := true, laidLooks := .later }
def FnPilesUptoCardSaid : Prop := Claim7.holds Tryd.pinned (.plain (OpenSpec.upto fnPilesSpec)) fnPilesUptoCard
end Rows
end Go.Proofs.YtfkdmflcildgbaaDoor
