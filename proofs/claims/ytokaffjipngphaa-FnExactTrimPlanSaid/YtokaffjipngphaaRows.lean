/-
  No cell of these rows narrows 'for every input' (looked for: loops, veiled, ifaces, maps, wideKeys, modest, calm, conditions, laid).
  DERIVED. THE GIVEN ROWS OF THIS SEAT. 9 by the template 'for every input the law returns true; each argument reads behind the call as it read before'; 0 by the template 'total and deterministic' (their statements: YtokaffjipngphaaTotals.lean).
  GIVEN WITH THE SEED: the statements are not yours to turn. If you find one false, say at which input.
  Laid BY PROGRAM, IN A SANDBOX (cutbox-rows.mjs): the forced cells as the released guide's own fill.sh prints them over the translation 8c8e4548ab20b69f… (all of the seat's roots in one cut). By AI agents, Wed Nov 11 2026. No macro, syntax, notation, axiom, sorry.
-/
import Derived.Test.YtokaffjipngphaaChecked
import GoSem.Claim
import GoSem.ClaimJoined
import GoSem.ClaimMapViews
import Derived.JoinedTies
import Derived.KernelRfl
namespace Go.Proofs.Ytokaffjipngphaa
/- THE CELL 'sum', in the pinned program and in every row, IS THE sha256 OF THE DUMP (.gsa) THAT YtokaffjipngphaaProg.lean LOADS. Nothing in Lean hashes anything: it is a label: what it is worth is what the hold of that sum in a sandbox is worth. -/
noncomputable def Try.pinned : Pinned := { name := "ytokaffjipngphaa", sum := "8c8e4548ab20b69fbe2ff84bd612971a8953ae92ea8288ed9dd9fd20038b64e6", checked := Try.checked }
namespace Rows
def none {H : Type} : Left H := { results := [], args := [] }

/-- 'laws.FnExactWorthBound': WHATEVER THE INPUT: true; the input reads as it did. -/
def fnExactWorthBoundSpec : ChangeSpec := { name := "fnExactWorthBound", fn := fun _ => fun
  | [d] => { results := [.lit (.bool true)], args := [d] }
  | _ => none }
def fnExactWorthBoundRow : OpenClaim := { program := "ytokaffjipngphaa", sum := "8c8e4548ab20b69fbe2ff84bd612971a8953ae92ea8288ed9dd9fd20038b64e6", func := "loop.example/g00914/laws.FnExactWorthBound", spec := "fnExactWorthBound", recurses := true, apart := false }
def FnExactWorthBoundSaid : Prop := fnExactWorthBoundRow.holds Try.pinned (OpenSpec.ofChange fnExactWorthBoundSpec)

/-- ITS FALSE NEIGHBOUR: 'it returns false'. Refute it at one input. -/
def fnExactWorthBoundWrong : ChangeSpec := { name := "fnExactWorthBound", fn := fun _ => fun
  | [d] => { results := [.lit (.bool false)], args := [d] }
  | _ => none }
def FnExactWorthBoundWrongFalsely : Prop := fnExactWorthBoundRow.holds Try.pinned (OpenSpec.ofChange fnExactWorthBoundWrong)

/-- 'laws.FnExactRelaxedPlan': WHATEVER THE INPUT: true; the input reads as it did. -/
def fnExactRelaxedPlanSpec : ChangeSpec := { name := "fnExactRelaxedPlan", fn := fun _ => fun
  | [d1, d2] => { results := [.lit (.bool true)], args := [d1, d2] }
  | _ => none }
def fnExactRelaxedPlanRow : OpenClaim := { program := "ytokaffjipngphaa", sum := "8c8e4548ab20b69fbe2ff84bd612971a8953ae92ea8288ed9dd9fd20038b64e6", func := "loop.example/g00914/laws.FnExactRelaxedPlan", spec := "fnExactRelaxedPlan", unfollowed := true, recurses := true, apart := false }
def FnExactRelaxedPlanSaid : Prop := fnExactRelaxedPlanRow.holds Try.pinned (OpenSpec.ofChange fnExactRelaxedPlanSpec)

/-- ITS FALSE NEIGHBOUR: 'it returns false'. Refute it at one input. -/
def fnExactRelaxedPlanWrong : ChangeSpec := { name := "fnExactRelaxedPlan", fn := fun _ => fun
  | [d1, d2] => { results := [.lit (.bool false)], args := [d1, d2] }
  | _ => none }
def FnExactRelaxedPlanWrongFalsely : Prop := fnExactRelaxedPlanRow.holds Try.pinned (OpenSpec.ofChange fnExactRelaxedPlanWrong)

/-- 'laws.FnExactRelaxedBound': WHATEVER THE INPUT: true; the input reads as it did. -/
def fnExactRelaxedBoundSpec : ChangeSpec := { name := "fnExactRelaxedBound", fn := fun _ => fun
  | [d1, d2] => { results := [.lit (.bool true)], args := [d1, d2] }
  | _ => none }
def fnExactRelaxedBoundRow : OpenClaim := { program := "ytokaffjipngphaa", sum := "8c8e4548ab20b69fbe2ff84bd612971a8953ae92ea8288ed9dd9fd20038b64e6", func := "loop.example/g00914/laws.FnExactRelaxedBound", spec := "fnExactRelaxedBound", unfollowed := true, recurses := true, apart := false }
def FnExactRelaxedBoundSaid : Prop := fnExactRelaxedBoundRow.holds Try.pinned (OpenSpec.ofChange fnExactRelaxedBoundSpec)

/-- ITS FALSE NEIGHBOUR: 'it returns false'. Refute it at one input. -/
def fnExactRelaxedBoundWrong : ChangeSpec := { name := "fnExactRelaxedBound", fn := fun _ => fun
  | [d1, d2] => { results := [.lit (.bool false)], args := [d1, d2] }
  | _ => none }
def FnExactRelaxedBoundWrongFalsely : Prop := fnExactRelaxedBoundRow.holds Try.pinned (OpenSpec.ofChange fnExactRelaxedBoundWrong)

/-- 'laws.FnExactExcessOf': WHATEVER THE INPUT: true; the input reads as it did. -/
def fnExactExcessOfSpec : ChangeSpec := { name := "fnExactExcessOf", fn := fun _ => fun
  | [d1, d2] => { results := [.lit (.bool true)], args := [d1, d2] }
  | _ => none }
def fnExactExcessOfRow : OpenClaim := { program := "ytokaffjipngphaa", sum := "8c8e4548ab20b69fbe2ff84bd612971a8953ae92ea8288ed9dd9fd20038b64e6", func := "loop.example/g00914/laws.FnExactExcessOf", spec := "fnExactExcessOf", unfollowed := true, recurses := true, apart := false }
def FnExactExcessOfSaid : Prop := fnExactExcessOfRow.holds Try.pinned (OpenSpec.ofChange fnExactExcessOfSpec)

/-- ITS FALSE NEIGHBOUR: 'it returns false'. Refute it at one input. -/
def fnExactExcessOfWrong : ChangeSpec := { name := "fnExactExcessOf", fn := fun _ => fun
  | [d1, d2] => { results := [.lit (.bool false)], args := [d1, d2] }
  | _ => none }
def FnExactExcessOfWrongFalsely : Prop := fnExactExcessOfRow.holds Try.pinned (OpenSpec.ofChange fnExactExcessOfWrong)

/-- 'laws.FnExactBestMultipliers': WHATEVER THE INPUT: true; the input reads as it did. -/
def fnExactBestMultipliersSpec : ChangeSpec := { name := "fnExactBestMultipliers", fn := fun _ => fun
  | [d1, d2] => { results := [.lit (.bool true)], args := [d1, d2] }
  | _ => none }
def fnExactBestMultipliersRow : OpenClaim := { program := "ytokaffjipngphaa", sum := "8c8e4548ab20b69fbe2ff84bd612971a8953ae92ea8288ed9dd9fd20038b64e6", func := "loop.example/g00914/laws.FnExactBestMultipliers", spec := "fnExactBestMultipliers", unfollowed := true, recurses := true, apart := false }
def FnExactBestMultipliersSaid : Prop := fnExactBestMultipliersRow.holds Try.pinned (OpenSpec.ofChange fnExactBestMultipliersSpec)

/-- ITS FALSE NEIGHBOUR: 'it returns false'. Refute it at one input. -/
def fnExactBestMultipliersWrong : ChangeSpec := { name := "fnExactBestMultipliers", fn := fun _ => fun
  | [d1, d2] => { results := [.lit (.bool false)], args := [d1, d2] }
  | _ => none }
def FnExactBestMultipliersWrongFalsely : Prop := fnExactBestMultipliersRow.holds Try.pinned (OpenSpec.ofChange fnExactBestMultipliersWrong)

/-- 'laws.FnExactStepMultipliers': WHATEVER THE INPUT: true; the input reads as it did. -/
def fnExactStepMultipliersSpec : ChangeSpec := { name := "fnExactStepMultipliers", fn := fun _ => fun
  | [d1, d2, d3] => { results := [.lit (.bool true)], args := [d1, d2, d3] }
  | _ => none }
def fnExactStepMultipliersRow : OpenClaim := { program := "ytokaffjipngphaa", sum := "8c8e4548ab20b69fbe2ff84bd612971a8953ae92ea8288ed9dd9fd20038b64e6", func := "loop.example/g00914/laws.FnExactStepMultipliers", spec := "fnExactStepMultipliers", unfollowed := true, recurses := true, apart := false }
def FnExactStepMultipliersSaid : Prop := fnExactStepMultipliersRow.holds Try.pinned (OpenSpec.ofChange fnExactStepMultipliersSpec)

/-- ITS FALSE NEIGHBOUR: 'it returns false'. Refute it at one input. -/
def fnExactStepMultipliersWrong : ChangeSpec := { name := "fnExactStepMultipliers", fn := fun _ => fun
  | [d1, d2, d3] => { results := [.lit (.bool false)], args := [d1, d2, d3] }
  | _ => none }
def FnExactStepMultipliersWrongFalsely : Prop := fnExactStepMultipliersRow.holds Try.pinned (OpenSpec.ofChange fnExactStepMultipliersWrong)

/-- 'laws.FnExactBoundGap': WHATEVER THE INPUT: true; the input reads as it did. -/
def fnExactBoundGapSpec : ChangeSpec := { name := "fnExactBoundGap", fn := fun _ => fun
  | [d1, d2, d3] => { results := [.lit (.bool true)], args := [d1, d2, d3] }
  | _ => none }
def fnExactBoundGapRow : OpenClaim := { program := "ytokaffjipngphaa", sum := "8c8e4548ab20b69fbe2ff84bd612971a8953ae92ea8288ed9dd9fd20038b64e6", func := "loop.example/g00914/laws.FnExactBoundGap", spec := "fnExactBoundGap", unfollowed := true, recurses := true, apart := false }
def FnExactBoundGapSaid : Prop := fnExactBoundGapRow.holds Try.pinned (OpenSpec.ofChange fnExactBoundGapSpec)

/-- ITS FALSE NEIGHBOUR: 'it returns false'. Refute it at one input. -/
def fnExactBoundGapWrong : ChangeSpec := { name := "fnExactBoundGap", fn := fun _ => fun
  | [d1, d2, d3] => { results := [.lit (.bool false)], args := [d1, d2, d3] }
  | _ => none }
def FnExactBoundGapWrongFalsely : Prop := fnExactBoundGapRow.holds Try.pinned (OpenSpec.ofChange fnExactBoundGapWrong)

/-- 'laws.FnExactProvesBest': WHATEVER THE INPUT: true; the input reads as it did. -/
def fnExactProvesBestSpec : ChangeSpec := { name := "fnExactProvesBest", fn := fun _ => fun
  | [d1, d2, d3] => { results := [.lit (.bool true)], args := [d1, d2, d3] }
  | _ => none }
def fnExactProvesBestRow : OpenClaim := { program := "ytokaffjipngphaa", sum := "8c8e4548ab20b69fbe2ff84bd612971a8953ae92ea8288ed9dd9fd20038b64e6", func := "loop.example/g00914/laws.FnExactProvesBest", spec := "fnExactProvesBest", unfollowed := true, recurses := true, apart := false }
def FnExactProvesBestSaid : Prop := fnExactProvesBestRow.holds Try.pinned (OpenSpec.ofChange fnExactProvesBestSpec)

/-- ITS FALSE NEIGHBOUR: 'it returns false'. Refute it at one input. -/
def fnExactProvesBestWrong : ChangeSpec := { name := "fnExactProvesBest", fn := fun _ => fun
  | [d1, d2, d3] => { results := [.lit (.bool false)], args := [d1, d2, d3] }
  | _ => none }
def FnExactProvesBestWrongFalsely : Prop := fnExactProvesBestRow.holds Try.pinned (OpenSpec.ofChange fnExactProvesBestWrong)

/-- 'laws.FnExactTrimPlan': WHATEVER THE INPUT: true; the input reads as it did. -/
def fnExactTrimPlanSpec : ChangeSpec := { name := "fnExactTrimPlan", fn := fun _ => fun
  | [d1, d2] => { results := [.lit (.bool true)], args := [d1, d2] }
  | _ => none }
def fnExactTrimPlanRow : OpenClaim := { program := "ytokaffjipngphaa", sum := "8c8e4548ab20b69fbe2ff84bd612971a8953ae92ea8288ed9dd9fd20038b64e6", func := "loop.example/g00914/laws.FnExactTrimPlan", spec := "fnExactTrimPlan", recurses := true, apart := false }
def FnExactTrimPlanSaid : Prop := fnExactTrimPlanRow.holds Try.pinned (OpenSpec.ofChange fnExactTrimPlanSpec)

/-- ITS FALSE NEIGHBOUR: 'it returns false'. Refute it at one input. -/
def fnExactTrimPlanWrong : ChangeSpec := { name := "fnExactTrimPlan", fn := fun _ => fun
  | [d1, d2] => { results := [.lit (.bool false)], args := [d1, d2] }
  | _ => none }
def FnExactTrimPlanWrongFalsely : Prop := fnExactTrimPlanRow.holds Try.pinned (OpenSpec.ofChange fnExactTrimPlanWrong)

/- THE SECOND FORM. 'bulk': how many values and letters a reading holds, each counted each time it is reached (what is shared counts as often as it is met; a slice's spare places count too). A statement '..UptoSaid' is the law's where the arguments, and the package variables that the reading takes, are together of bulk at most 1048576: NARROWER than '..Said'. Prove '..Said' where nothing that the law and all that it calls make is longer than what came in: it says more and counts as full. Else prove '..UptoSaid'. A law counts once. -/
mutual
def uptoBulk {H : Type} : DataW H → Nat
  | .lit (.string bytes) => bytes.length + 1
  | .lit _ => 1
  | .nil => 1
  | .ptr d => uptoBulk d + 1
  | .slice elems spare => uptoBulkAll elems + uptoBulkAll spare + 1
  | .agg parts => uptoBulkAll parts + 1
  | .iface _ d => uptoBulk d + 1
  | .map entries => uptoBulkEntries entries + 1
  | .held _ => 1
def uptoBulkAll {H : Type} : List (DataW H) → Nat
  | [] => 0
  | d :: r => uptoBulk d + uptoBulkAll r
def uptoBulkEntries {H : Type} : List (Lit × DataW H) → Nat
  | [] => 0
  | x :: r => uptoBulkEntry x + uptoBulkEntries r
def uptoBulkEntry {H : Type} : Lit × DataW H → Nat
  | (.string bytes, d) => bytes.length + uptoBulk d + 1
  | (_, d) => uptoBulk d + 1
 end
def uptoSmall : (H : Type) → List (DataW H) → Bool := fun _ ds => decide (uptoBulkAll ds ≤ 1048576)
def OpenSpec.upto (s : _root_.Go.ChangeSpec) : _root_.Go.OpenSpec := { _root_.Go.OpenSpec.ofChange s with cond := some uptoSmall }

/-- 'laws.FnExactWorthBound', WHERE WHAT IT READS IS OF BULK AT MOST 1048576: true; the input reads as it did. -/
def fnExactWorthBoundUptoRow : OpenClaim := { program := "ytokaffjipngphaa", sum := "8c8e4548ab20b69fbe2ff84bd612971a8953ae92ea8288ed9dd9fd20038b64e6", func := "loop.example/g00914/laws.FnExactWorthBound", spec := "fnExactWorthBound", recurses := true, apart := false, narrowed := true }
def FnExactWorthBoundUptoSaid : Prop := fnExactWorthBoundUptoRow.holds Try.pinned (OpenSpec.upto fnExactWorthBoundSpec)

/-- 'laws.FnExactRelaxedPlan', WHERE WHAT IT READS IS OF BULK AT MOST 1048576: true; the input reads as it did. -/
def fnExactRelaxedPlanUptoRow : OpenClaim := { program := "ytokaffjipngphaa", sum := "8c8e4548ab20b69fbe2ff84bd612971a8953ae92ea8288ed9dd9fd20038b64e6", func := "loop.example/g00914/laws.FnExactRelaxedPlan", spec := "fnExactRelaxedPlan", unfollowed := true, recurses := true, apart := false, narrowed := true }
def FnExactRelaxedPlanUptoSaid : Prop := fnExactRelaxedPlanUptoRow.holds Try.pinned (OpenSpec.upto fnExactRelaxedPlanSpec)

/-- 'laws.FnExactRelaxedBound', WHERE WHAT IT READS IS OF BULK AT MOST 1048576: true; the input reads as it did. -/
def fnExactRelaxedBoundUptoRow : OpenClaim := { program := "ytokaffjipngphaa", sum := "8c8e4548ab20b69fbe2ff84bd612971a8953ae92ea8288ed9dd9fd20038b64e6", func := "loop.example/g00914/laws.FnExactRelaxedBound", spec := "fnExactRelaxedBound", unfollowed := true, recurses := true, apart := false, narrowed := true }
def FnExactRelaxedBoundUptoSaid : Prop := fnExactRelaxedBoundUptoRow.holds Try.pinned (OpenSpec.upto fnExactRelaxedBoundSpec)

/-- 'laws.FnExactExcessOf', WHERE WHAT IT READS IS OF BULK AT MOST 1048576: true; the input reads as it did. -/
def fnExactExcessOfUptoRow : OpenClaim := { program := "ytokaffjipngphaa", sum := "8c8e4548ab20b69fbe2ff84bd612971a8953ae92ea8288ed9dd9fd20038b64e6", func := "loop.example/g00914/laws.FnExactExcessOf", spec := "fnExactExcessOf", unfollowed := true, recurses := true, apart := false, narrowed := true }
def FnExactExcessOfUptoSaid : Prop := fnExactExcessOfUptoRow.holds Try.pinned (OpenSpec.upto fnExactExcessOfSpec)

/-- 'laws.FnExactBestMultipliers', WHERE WHAT IT READS IS OF BULK AT MOST 1048576: true; the input reads as it did. -/
def fnExactBestMultipliersUptoRow : OpenClaim := { program := "ytokaffjipngphaa", sum := "8c8e4548ab20b69fbe2ff84bd612971a8953ae92ea8288ed9dd9fd20038b64e6", func := "loop.example/g00914/laws.FnExactBestMultipliers", spec := "fnExactBestMultipliers", unfollowed := true, recurses := true, apart := false, narrowed := true }
def FnExactBestMultipliersUptoSaid : Prop := fnExactBestMultipliersUptoRow.holds Try.pinned (OpenSpec.upto fnExactBestMultipliersSpec)

/-- 'laws.FnExactStepMultipliers', WHERE WHAT IT READS IS OF BULK AT MOST 1048576: true; the input reads as it did. -/
def fnExactStepMultipliersUptoRow : OpenClaim := { program := "ytokaffjipngphaa", sum := "8c8e4548ab20b69fbe2ff84bd612971a8953ae92ea8288ed9dd9fd20038b64e6", func := "loop.example/g00914/laws.FnExactStepMultipliers", spec := "fnExactStepMultipliers", unfollowed := true, recurses := true, apart := false, narrowed := true }
def FnExactStepMultipliersUptoSaid : Prop := fnExactStepMultipliersUptoRow.holds Try.pinned (OpenSpec.upto fnExactStepMultipliersSpec)

/-- 'laws.FnExactBoundGap', WHERE WHAT IT READS IS OF BULK AT MOST 1048576: true; the input reads as it did. -/
def fnExactBoundGapUptoRow : OpenClaim := { program := "ytokaffjipngphaa", sum := "8c8e4548ab20b69fbe2ff84bd612971a8953ae92ea8288ed9dd9fd20038b64e6", func := "loop.example/g00914/laws.FnExactBoundGap", spec := "fnExactBoundGap", unfollowed := true, recurses := true, apart := false, narrowed := true }
def FnExactBoundGapUptoSaid : Prop := fnExactBoundGapUptoRow.holds Try.pinned (OpenSpec.upto fnExactBoundGapSpec)

/-- 'laws.FnExactProvesBest', WHERE WHAT IT READS IS OF BULK AT MOST 1048576: true; the input reads as it did. -/
def fnExactProvesBestUptoRow : OpenClaim := { program := "ytokaffjipngphaa", sum := "8c8e4548ab20b69fbe2ff84bd612971a8953ae92ea8288ed9dd9fd20038b64e6", func := "loop.example/g00914/laws.FnExactProvesBest", spec := "fnExactProvesBest", unfollowed := true, recurses := true, apart := false, narrowed := true }
def FnExactProvesBestUptoSaid : Prop := fnExactProvesBestUptoRow.holds Try.pinned (OpenSpec.upto fnExactProvesBestSpec)

/-- 'laws.FnExactTrimPlan', WHERE WHAT IT READS IS OF BULK AT MOST 1048576: true; the input reads as it did. -/
def fnExactTrimPlanUptoRow : OpenClaim := { program := "ytokaffjipngphaa", sum := "8c8e4548ab20b69fbe2ff84bd612971a8953ae92ea8288ed9dd9fd20038b64e6", func := "loop.example/g00914/laws.FnExactTrimPlan", spec := "fnExactTrimPlan", recurses := true, apart := false, narrowed := true }
def FnExactTrimPlanUptoSaid : Prop := fnExactTrimPlanUptoRow.holds Try.pinned (OpenSpec.upto fnExactTrimPlanSpec)

end Rows
end Go.Proofs.Ytokaffjipngphaa
