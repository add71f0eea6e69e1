/-
  No cell of these rows narrows 'for every input' (looked for: loops, veiled, ifaces, maps, wideKeys, modest, calm, conditions, laid).
  DERIVED. THE GIVEN ROWS OF THIS SEAT. 10 by the template 'for every input the law returns true; each argument reads behind the call as it read before'; 0 by the template 'total and deterministic' (their statements: YthjlfdaajdlboaaTotals.lean).
  GIVEN WITH THE SEED: the statements are not yours to turn. If you find one false, say at which input.
  Laid BY PROGRAM, IN A SANDBOX (cutbox-rows.mjs): the forced cells as the released guide's own fill.sh prints them over the translation 4e703988aa041b83… (all of the seat's roots in one cut). By AI agents, Wed Nov 11 2026. No macro, syntax, notation, axiom, sorry.
-/
import Derived.Test.YthjlfdaajdlboaaChecked
import GoSem.Claim
import GoSem.ClaimJoined
import GoSem.ClaimMapViews
import Derived.JoinedTies
import Derived.KernelRfl
namespace Go.Proofs.Ythjlfdaajdlboaa
/- THE CELL 'sum', in the pinned program and in every row, IS THE sha256 OF THE DUMP (.gsa) THAT YthjlfdaajdlboaaProg.lean LOADS. Nothing in Lean hashes anything: it is a label: what it is worth is what the hold of that sum in a sandbox is worth. -/
noncomputable def Try.pinned : Pinned := { name := "ythjlfdaajdlboaa", sum := "4e703988aa041b83cf28560560cb792e0b626d19b76f351a19728690e335fe80", checked := Try.checked }
namespace Rows
def none {H : Type} : Left H := { results := [], args := [] }

/-- 'laws.FnExactSplitLot': WHATEVER THE INPUT: true; the input reads as it did. -/
def fnExactSplitLotSpec : ChangeSpec := { name := "fnExactSplitLot", fn := fun _ => fun
  | [d1, d2] => { results := [.lit (.bool true)], args := [d1, d2] }
  | _ => none }
def fnExactSplitLotRow : OpenClaim := { program := "ythjlfdaajdlboaa", sum := "4e703988aa041b83cf28560560cb792e0b626d19b76f351a19728690e335fe80", func := "loop.example/g00914/laws.FnExactSplitLot", spec := "fnExactSplitLot", apart := false }
def FnExactSplitLotSaid : Prop := fnExactSplitLotRow.holds Try.pinned (OpenSpec.ofChange fnExactSplitLotSpec)

/-- ITS FALSE NEIGHBOUR: 'it returns false'. Refute it at one input. -/
def fnExactSplitLotWrong : ChangeSpec := { name := "fnExactSplitLot", fn := fun _ => fun
  | [d1, d2] => { results := [.lit (.bool false)], args := [d1, d2] }
  | _ => none }
def FnExactSplitLotWrongFalsely : Prop := fnExactSplitLotRow.holds Try.pinned (OpenSpec.ofChange fnExactSplitLotWrong)

/-- 'laws.FnExactIsPile': WHATEVER THE INPUT: true; the input reads as it did. -/
def fnExactIsPileSpec : ChangeSpec := { name := "fnExactIsPile", fn := fun _ => fun
  | [d] => { results := [.lit (.bool true)], args := [d] }
  | _ => none }
def fnExactIsPileRow : OpenClaim := { program := "ythjlfdaajdlboaa", sum := "4e703988aa041b83cf28560560cb792e0b626d19b76f351a19728690e335fe80", func := "loop.example/g00914/laws.FnExactIsPile", spec := "fnExactIsPile", apart := false }
def FnExactIsPileSaid : Prop := fnExactIsPileRow.holds Try.pinned (OpenSpec.ofChange fnExactIsPileSpec)

/-- ITS FALSE NEIGHBOUR: 'it returns false'. Refute it at one input. -/
def fnExactIsPileWrong : ChangeSpec := { name := "fnExactIsPile", fn := fun _ => fun
  | [d] => { results := [.lit (.bool false)], args := [d] }
  | _ => none }
def FnExactIsPileWrongFalsely : Prop := fnExactIsPileRow.holds Try.pinned (OpenSpec.ofChange fnExactIsPileWrong)

/-- 'laws.FnExactOldestLot': WHATEVER THE INPUT: true; the input reads as it did. -/
def fnExactOldestLotSpec : ChangeSpec := { name := "fnExactOldestLot", fn := fun _ => fun
  | [d] => { results := [.lit (.bool true)], args := [d] }
  | _ => none }
def fnExactOldestLotRow : OpenClaim := { program := "ythjlfdaajdlboaa", sum := "4e703988aa041b83cf28560560cb792e0b626d19b76f351a19728690e335fe80", func := "loop.example/g00914/laws.FnExactOldestLot", spec := "fnExactOldestLot", apart := false }
def FnExactOldestLotSaid : Prop := fnExactOldestLotRow.holds Try.pinned (OpenSpec.ofChange fnExactOldestLotSpec)

/-- ITS FALSE NEIGHBOUR: 'it returns false'. Refute it at one input. -/
def fnExactOldestLotWrong : ChangeSpec := { name := "fnExactOldestLot", fn := fun _ => fun
  | [d] => { results := [.lit (.bool false)], args := [d] }
  | _ => none }
def FnExactOldestLotWrongFalsely : Prop := fnExactOldestLotRow.holds Try.pinned (OpenSpec.ofChange fnExactOldestLotWrong)

/-- 'laws.FnExactPileSums': WHATEVER THE INPUT: true; the input reads as it did. -/
def fnExactPileSumsSpec : ChangeSpec := { name := "fnExactPileSums", fn := fun _ => fun
  | [d] => { results := [.lit (.bool true)], args := [d] }
  | _ => none }
def fnExactPileSumsRow : OpenClaim := { program := "ythjlfdaajdlboaa", sum := "4e703988aa041b83cf28560560cb792e0b626d19b76f351a19728690e335fe80", func := "loop.example/g00914/laws.FnExactPileSums", spec := "fnExactPileSums", apart := false }
def FnExactPileSumsSaid : Prop := fnExactPileSumsRow.holds Try.pinned (OpenSpec.ofChange fnExactPileSumsSpec)

/-- ITS FALSE NEIGHBOUR: 'it returns false'. Refute it at one input. -/
def fnExactPileSumsWrong : ChangeSpec := { name := "fnExactPileSums", fn := fun _ => fun
  | [d] => { results := [.lit (.bool false)], args := [d] }
  | _ => none }
def FnExactPileSumsWrongFalsely : Prop := fnExactPileSumsRow.holds Try.pinned (OpenSpec.ofChange fnExactPileSumsWrong)

/-- 'laws.FnExactPileGrade': WHATEVER THE INPUT: true; the input reads as it did. -/
def fnExactPileGradeSpec : ChangeSpec := { name := "fnExactPileGrade", fn := fun _ => fun
  | [d] => { results := [.lit (.bool true)], args := [d] }
  | _ => none }
def fnExactPileGradeRow : OpenClaim := { program := "ythjlfdaajdlboaa", sum := "4e703988aa041b83cf28560560cb792e0b626d19b76f351a19728690e335fe80", func := "loop.example/g00914/laws.FnExactPileGrade", spec := "fnExactPileGrade", apart := false }
def FnExactPileGradeSaid : Prop := fnExactPileGradeRow.holds Try.pinned (OpenSpec.ofChange fnExactPileGradeSpec)

/-- ITS FALSE NEIGHBOUR: 'it returns false'. Refute it at one input. -/
def fnExactPileGradeWrong : ChangeSpec := { name := "fnExactPileGrade", fn := fun _ => fun
  | [d] => { results := [.lit (.bool false)], args := [d] }
  | _ => none }
def FnExactPileGradeWrongFalsely : Prop := fnExactPileGradeRow.holds Try.pinned (OpenSpec.ofChange fnExactPileGradeWrong)

/-- 'laws.FnExactPutLot': WHATEVER THE INPUT: true; the input reads as it did. -/
def fnExactPutLotSpec : ChangeSpec := { name := "fnExactPutLot", fn := fun _ => fun
  | [d1, d2] => { results := [.lit (.bool true)], args := [d1, d2] }
  | _ => none }
def fnExactPutLotRow : OpenClaim := { program := "ythjlfdaajdlboaa", sum := "4e703988aa041b83cf28560560cb792e0b626d19b76f351a19728690e335fe80", func := "loop.example/g00914/laws.FnExactPutLot", spec := "fnExactPutLot", apart := false }
def FnExactPutLotSaid : Prop := fnExactPutLotRow.holds Try.pinned (OpenSpec.ofChange fnExactPutLotSpec)

/-- ITS FALSE NEIGHBOUR: 'it returns false'. Refute it at one input. -/
def fnExactPutLotWrong : ChangeSpec := { name := "fnExactPutLot", fn := fun _ => fun
  | [d1, d2] => { results := [.lit (.bool false)], args := [d1, d2] }
  | _ => none }
def FnExactPutLotWrongFalsely : Prop := fnExactPutLotRow.holds Try.pinned (OpenSpec.ofChange fnExactPutLotWrong)

/-- 'laws.FnExactJoinPiles': WHATEVER THE INPUT: true; the input reads as it did. -/
def fnExactJoinPilesSpec : ChangeSpec := { name := "fnExactJoinPiles", fn := fun _ => fun
  | [d1, d2] => { results := [.lit (.bool true)], args := [d1, d2] }
  | _ => none }
def fnExactJoinPilesRow : OpenClaim := { program := "ythjlfdaajdlboaa", sum := "4e703988aa041b83cf28560560cb792e0b626d19b76f351a19728690e335fe80", func := "loop.example/g00914/laws.FnExactJoinPiles", spec := "fnExactJoinPiles", apart := false }
def FnExactJoinPilesSaid : Prop := fnExactJoinPilesRow.holds Try.pinned (OpenSpec.ofChange fnExactJoinPilesSpec)

/-- ITS FALSE NEIGHBOUR: 'it returns false'. Refute it at one input. -/
def fnExactJoinPilesWrong : ChangeSpec := { name := "fnExactJoinPiles", fn := fun _ => fun
  | [d1, d2] => { results := [.lit (.bool false)], args := [d1, d2] }
  | _ => none }
def FnExactJoinPilesWrongFalsely : Prop := fnExactJoinPilesRow.holds Try.pinned (OpenSpec.ofChange fnExactJoinPilesWrong)

/-- 'laws.FnExactTakeTonnes': WHATEVER THE INPUT: true; the input reads as it did. -/
def fnExactTakeTonnesSpec : ChangeSpec := { name := "fnExactTakeTonnes", fn := fun _ => fun
  | [d1, d2] => { results := [.lit (.bool true)], args := [d1, d2] }
  | _ => none }
def fnExactTakeTonnesRow : OpenClaim := { program := "ythjlfdaajdlboaa", sum := "4e703988aa041b83cf28560560cb792e0b626d19b76f351a19728690e335fe80", func := "loop.example/g00914/laws.FnExactTakeTonnes", spec := "fnExactTakeTonnes", apart := false }
def FnExactTakeTonnesSaid : Prop := fnExactTakeTonnesRow.holds Try.pinned (OpenSpec.ofChange fnExactTakeTonnesSpec)

/-- ITS FALSE NEIGHBOUR: 'it returns false'. Refute it at one input. -/
def fnExactTakeTonnesWrong : ChangeSpec := { name := "fnExactTakeTonnes", fn := fun _ => fun
  | [d1, d2] => { results := [.lit (.bool false)], args := [d1, d2] }
  | _ => none }
def FnExactTakeTonnesWrongFalsely : Prop := fnExactTakeTonnesRow.holds Try.pinned (OpenSpec.ofChange fnExactTakeTonnesWrong)

/-- 'laws.FnExactRunPile': WHATEVER THE INPUT: true; the input reads as it did. -/
def fnExactRunPileSpec : ChangeSpec := { name := "fnExactRunPile", fn := fun _ => fun
  | [d1, d2] => { results := [.lit (.bool true)], args := [d1, d2] }
  | _ => none }
def fnExactRunPileRow : OpenClaim := { program := "ythjlfdaajdlboaa", sum := "4e703988aa041b83cf28560560cb792e0b626d19b76f351a19728690e335fe80", func := "loop.example/g00914/laws.FnExactRunPile", spec := "fnExactRunPile", apart := false }
def FnExactRunPileSaid : Prop := fnExactRunPileRow.holds Try.pinned (OpenSpec.ofChange fnExactRunPileSpec)

/-- ITS FALSE NEIGHBOUR: 'it returns false'. Refute it at one input. -/
def fnExactRunPileWrong : ChangeSpec := { name := "fnExactRunPile", fn := fun _ => fun
  | [d1, d2] => { results := [.lit (.bool false)], args := [d1, d2] }
  | _ => none }
def FnExactRunPileWrongFalsely : Prop := fnExactRunPileRow.holds Try.pinned (OpenSpec.ofChange fnExactRunPileWrong)

/-- 'laws.FnLotsBalanced': WHATEVER THE INPUT: true; the input reads as it did. -/
def fnLotsBalancedSpec : ChangeSpec := { name := "fnLotsBalanced", fn := fun _ => fun
  | [d1, d2] => { results := [.lit (.bool true)], args := [d1, d2] }
  | _ => none }
def fnLotsBalancedRow : OpenClaim := { program := "ythjlfdaajdlboaa", sum := "4e703988aa041b83cf28560560cb792e0b626d19b76f351a19728690e335fe80", func := "loop.example/g00914/laws.FnLotsBalanced", spec := "fnLotsBalanced", apart := false }
def FnLotsBalancedSaid : Prop := fnLotsBalancedRow.holds Try.pinned (OpenSpec.ofChange fnLotsBalancedSpec)

/-- ITS FALSE NEIGHBOUR: 'it returns false'. Refute it at one input. -/
def fnLotsBalancedWrong : ChangeSpec := { name := "fnLotsBalanced", fn := fun _ => fun
  | [d1, d2] => { results := [.lit (.bool false)], args := [d1, d2] }
  | _ => none }
def FnLotsBalancedWrongFalsely : Prop := fnLotsBalancedRow.holds Try.pinned (OpenSpec.ofChange fnLotsBalancedWrong)

/- THE SECOND FORM. 'bulk': how many values and letters a reading holds, each counted each time it is reached (what is shared counts as often as it is met; a slice's spare places count too). A statement '..UptoSaid' is the law's where the arguments, and the package variables that the reading takes, are together of bulk at most 1048576: NARROWER than '..Said'. Prove '..Said' where nothing that the law and all that it calls make is longer than what came in: it says more and counts as full. Else prove '..UptoSaid'. A law counts once. -/
mutual
def uptoBulk {H : Type} : DataW H → Nat
  | .lit (.string bytes) => bytes.length + 1
  | .lit _ => 1
  | .nil => 1
  | .ptr d => uptoBulk d + 1
  | .slice elems spare => uptoBulkAll elems + uptoBulkAll spare + 1
  | .agg parts => uptoBulkAll parts + 1
  | .iface _ d => uptoBulk d + 1
  | .map entries => uptoBulkEntries entries + 1
  | .held _ => 1
def uptoBulkAll {H : Type} : List (DataW H) → Nat
  | [] => 0
  | d :: r => uptoBulk d + uptoBulkAll r
def uptoBulkEntries {H : Type} : List (Lit × DataW H) → Nat
  | [] => 0
  | x :: r => uptoBulkEntry x + uptoBulkEntries r
def uptoBulkEntry {H : Type} : Lit × DataW H → Nat
  | (.string bytes, d) => bytes.length + uptoBulk d + 1
  | (_, d) => uptoBulk d + 1
 end
def uptoSmall : (H : Type) → List (DataW H) → Bool := fun _ ds => decide (uptoBulkAll ds ≤ 1048576)
def OpenSpec.upto (s : _root_.Go.ChangeSpec) : _root_.Go.OpenSpec := { _root_.Go.OpenSpec.ofChange s with cond := some uptoSmall }

/-- 'laws.FnExactSplitLot', WHERE WHAT IT READS IS OF BULK AT MOST 1048576: true; the input reads as it did. -/
def fnExactSplitLotUptoRow : OpenClaim := { program := "ythjlfdaajdlboaa", sum := "4e703988aa041b83cf28560560cb792e0b626d19b76f351a19728690e335fe80", func := "loop.example/g00914/laws.FnExactSplitLot", spec := "fnExactSplitLot", apart := false, narrowed := true }
def FnExactSplitLotUptoSaid : Prop := fnExactSplitLotUptoRow.holds Try.pinned (OpenSpec.upto fnExactSplitLotSpec)

/-- 'laws.FnExactIsPile', WHERE WHAT IT READS IS OF BULK AT MOST 1048576: true; the input reads as it did. -/
def fnExactIsPileUptoRow : OpenClaim := { program := "ythjlfdaajdlboaa", sum := "4e703988aa041b83cf28560560cb792e0b626d19b76f351a19728690e335fe80", func := "loop.example/g00914/laws.FnExactIsPile", spec := "fnExactIsPile", apart := false, narrowed := true }
def FnExactIsPileUptoSaid : Prop := fnExactIsPileUptoRow.holds Try.pinned (OpenSpec.upto fnExactIsPileSpec)

/-- 'laws.FnExactOldestLot', WHERE WHAT IT READS IS OF BULK AT MOST 1048576: true; the input reads as it did. -/
def fnExactOldestLotUptoRow : OpenClaim := { program := "ythjlfdaajdlboaa", sum := "4e703988aa041b83cf28560560cb792e0b626d19b76f351a19728690e335fe80", func := "loop.example/g00914/laws.FnExactOldestLot", spec := "fnExactOldestLot", apart := false, narrowed := true }
def FnExactOldestLotUptoSaid : Prop := fnExactOldestLotUptoRow.holds Try.pinned (OpenSpec.upto fnExactOldestLotSpec)

/-- 'laws.FnExactPileSums', WHERE WHAT IT READS IS OF BULK AT MOST 1048576: true; the input reads as it did. -/
def fnExactPileSumsUptoRow : OpenClaim := { program := "ythjlfdaajdlboaa", sum := "4e703988aa041b83cf28560560cb792e0b626d19b76f351a19728690e335fe80", func := "loop.example/g00914/laws.FnExactPileSums", spec := "fnExactPileSums", apart := false, narrowed := true }
def FnExactPileSumsUptoSaid : Prop := fnExactPileSumsUptoRow.holds Try.pinned (OpenSpec.upto fnExactPileSumsSpec)

/-- 'laws.FnExactPileGrade', WHERE WHAT IT READS IS OF BULK AT MOST 1048576: true; the input reads as it did. -/
def fnExactPileGradeUptoRow : OpenClaim := { program := "ythjlfdaajdlboaa", sum := "4e703988aa041b83cf28560560cb792e0b626d19b76f351a19728690e335fe80", func := "loop.example/g00914/laws.FnExactPileGrade", spec := "fnExactPileGrade", apart := false, narrowed := true }
def FnExactPileGradeUptoSaid : Prop := fnExactPileGradeUptoRow.holds Try.pinned (OpenSpec.upto fnExactPileGradeSpec)

/-- 'laws.FnExactPutLot', WHERE WHAT IT READS IS OF BULK AT MOST 1048576: true; the input reads as it did. -/
def fnExactPutLotUptoRow : OpenClaim := { program := "ythjlfdaajdlboaa", sum := "4e703988aa041b83cf28560560cb792e0b626d19b76f351a19728690e335fe80", func := "loop.example/g00914/laws.FnExactPutLot", spec := "fnExactPutLot", apart := false, narrowed := true }
def FnExactPutLotUptoSaid : Prop := fnExactPutLotUptoRow.holds Try.pinned (OpenSpec.upto fnExactPutLotSpec)

/-- 'laws.FnExactJoinPiles', WHERE WHAT IT READS IS OF BULK AT MOST 1048576: true; the input reads as it did. -/
def fnExactJoinPilesUptoRow : OpenClaim := { program := "ythjlfdaajdlboaa", sum := "4e703988aa041b83cf28560560cb792e0b626d19b76f351a19728690e335fe80", func := "loop.example/g00914/laws.FnExactJoinPiles", spec := "fnExactJoinPiles", apart := false, narrowed := true }
def FnExactJoinPilesUptoSaid : Prop := fnExactJoinPilesUptoRow.holds Try.pinned (OpenSpec.upto fnExactJoinPilesSpec)

/-- 'laws.FnExactTakeTonnes', WHERE WHAT IT READS IS OF BULK AT MOST 1048576: true; the input reads as it did. -/
def fnExactTakeTonnesUptoRow : OpenClaim := { program := "ythjlfdaajdlboaa", sum := "4e703988aa041b83cf28560560cb792e0b626d19b76f351a19728690e335fe80", func := "loop.example/g00914/laws.FnExactTakeTonnes", spec := "fnExactTakeTonnes", apart := false, narrowed := true }
def FnExactTakeTonnesUptoSaid : Prop := fnExactTakeTonnesUptoRow.holds Try.pinned (OpenSpec.upto fnExactTakeTonnesSpec)

/-- 'laws.FnExactRunPile', WHERE WHAT IT READS IS OF BULK AT MOST 1048576: true; the input reads as it did. -/
def fnExactRunPileUptoRow : OpenClaim := { program := "ythjlfdaajdlboaa", sum := "4e703988aa041b83cf28560560cb792e0b626d19b76f351a19728690e335fe80", func := "loop.example/g00914/laws.FnExactRunPile", spec := "fnExactRunPile", apart := false, narrowed := true }
def FnExactRunPileUptoSaid : Prop := fnExactRunPileUptoRow.holds Try.pinned (OpenSpec.upto fnExactRunPileSpec)

/-- 'laws.FnLotsBalanced', WHERE WHAT IT READS IS OF BULK AT MOST 1048576: true; the input reads as it did. -/
def fnLotsBalancedUptoRow : OpenClaim := { program := "ythjlfdaajdlboaa", sum := "4e703988aa041b83cf28560560cb792e0b626d19b76f351a19728690e335fe80", func := "loop.example/g00914/laws.FnLotsBalanced", spec := "fnLotsBalanced", apart := false, narrowed := true }
def FnLotsBalancedUptoSaid : Prop := fnLotsBalancedUptoRow.holds Try.pinned (OpenSpec.upto fnLotsBalancedSpec)

end Rows
end Go.Proofs.Ythjlfdaajdlboaa
