/-
  DERIVED. GIVEN WITH THE SEED: THE CARDS: each row of YthjlfdaajdlboaaDoorRows.lean that lists a variable, with what it lists TIED to the program's text (the seventh form; the later family's looks); each row that meets fmt, with fmt's text TOLD by the authors' own Lean function (tested against real Go, not proved from fmt's source: count such statements apart). THE CARD IS WHAT COUNTS. Prove the row's statement (the work); the ties are given (YthjlfdaajdlboaaDoorTie.lean); close each card by the builder's one call (the guide's Derived/Test/ToyasCard.lean, 'card_holds'). Laid BY PROGRAM, IN A SANDBOX (cutbox-door.mjs). By AI agents, Wed Nov 11 2026. No macro, syntax, notation, axiom, sorry.
-/
import Derived.Test.YthjlfdaajdlboaaDoorRows
import GoSem.ClaimSeven
namespace Go.Proofs.YthjlfdaajdlboaaDoor
namespace Rows

/-- THE TIED CARD OF 'laws.FnExactPileText'. -/
def fnExactPileTextCard : Claim7 := { stood := { row := fnExactPileTextRow, standIns := [], harness := (true, "12f2777e8244a412b6a2b40ed8a25f1b07b19eda29abe74a9d394f4506599b4e"), looks := false }, kinds := [], alts := [], laidByText := true, laidKinds := [.data, .data, .data], laidTests := true, laidLooks := .later }
def FnExactPileTextCardSaid : Prop := Claim7.holds Tryd.pinned (.plain (OpenSpec.ofChange fnExactPileTextSpec)) fnExactPileTextCard

/-- THE TIED CARD OF 'laws.FnExactParsePile'. -/
def fnExactParsePileCard : Claim7 := { stood := { row := fnExactParsePileRow, standIns := [], harness := (true, "12f2777e8244a412b6a2b40ed8a25f1b07b19eda29abe74a9d394f4506599b4e"), looks := false }, kinds := [], alts := [], laidByText := true, laidKinds := [.data, .pinned], laidTests := true, laidLooks := .later }
def FnExactParsePileCardSaid : Prop := Claim7.holds Tryd.pinned (.plain (OpenSpec.ofChange fnExactParsePileSpec)) fnExactParsePileCard

/-- THE SECOND FORM's CARD OF 'laws.FnExactPileText'. -/
def fnExactPileTextUptoCard : Claim7 := { stood := { row := fnExactPileTextUptoRow, standIns := [], harness := (true, "12f2777e8244a412b6a2b40ed8a25f1b07b19eda29abe74a9d394f4506599b4e"), looks := false }, kinds := [], alts := [], laidByText := true, laidKinds := [.data, .data, .data], laidTests := true, laidLooks := .later }
def FnExactPileTextUptoCardSaid : Prop := Claim7.holds Tryd.pinned (.plain (OpenSpec.upto fnExactPileTextSpec)) fnExactPileTextUptoCard

/-- THE SECOND FORM's CARD OF 'laws.FnExactParsePile'. -/
def fnExactParsePileUptoCard : Claim7 := { stood := { row := fnExactParsePileUptoRow, standIns := [], harness := (true, "12f2777e8244a412b6a2b40ed8a25f1b07b19eda29abe74a9d394f4506599b4e"), looks := false }, kinds := [], alts := [], laidByText := true, laidKinds := [.data, .pinned], laidTests := true, laidLooks := .later }
def FnExactParsePileUptoCardSaid : Prop := Claim7.holds Tryd.pinned (.plain (OpenSpec.upto fnExactParsePileSpec)) fnExactParsePileUptoCard
end Rows
end Go.Proofs.YthjlfdaajdlboaaDoor
