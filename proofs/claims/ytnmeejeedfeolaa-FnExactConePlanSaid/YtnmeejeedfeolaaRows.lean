/-
  No cell of these rows narrows 'for every input' (looked for: loops, veiled, ifaces, maps, wideKeys, modest, calm, conditions, laid).
  DERIVED. THE GIVEN ROWS OF THIS SEAT. 16 by the template 'for every input the law returns true; each argument reads behind the call as it read before'; 0 by the template 'total and deterministic' (their statements: YtnmeejeedfeolaaTotals.lean).
  GIVEN WITH THE SEED: the statements are not yours to turn. If you find one false, say at which input.
  Laid BY PROGRAM, IN A SANDBOX (cutbox-rows.mjs): the forced cells as the released guide's own fill.sh prints them over the translation 8b2058fa1062c567… (all of the seat's roots in one cut). By AI agents, Wed Nov 11 2026. No macro, syntax, notation, axiom, sorry.
-/
import Derived.Test.YtnmeejeedfeolaaChecked
import GoSem.Claim
import GoSem.ClaimJoined
import GoSem.ClaimMapViews
import Derived.JoinedTies
import Derived.KernelRfl
namespace Go.Proofs.Ytnmeejeedfeolaa
/- THE CELL 'sum', in the pinned program and in every row, IS THE sha256 OF THE DUMP (.gsa) THAT YtnmeejeedfeolaaProg.lean LOADS. Nothing in Lean hashes anything: it is a label: what it is worth is what the hold of that sum in a sandbox is worth. -/
noncomputable def Try.pinned : Pinned := { name := "ytnmeejeedfeolaa", sum := "8b2058fa1062c567b05770405ded7f0e4053211260e232d40875f8853dbf5335", checked := Try.checked }
namespace Rows
def none {H : Type} : Left H := { results := [], args := [] }

/-- 'laws.FnExactAreMultipliers': WHATEVER THE INPUT: true; the input reads as it did. -/
def fnExactAreMultipliersSpec : ChangeSpec := { name := "fnExactAreMultipliers", fn := fun _ => fun
  | [d1, d2] => { results := [.lit (.bool true)], args := [d1, d2] }
  | _ => none }
def fnExactAreMultipliersRow : OpenClaim := { program := "ytnmeejeedfeolaa", sum := "8b2058fa1062c567b05770405ded7f0e4053211260e232d40875f8853dbf5335", func := "loop.example/g00914/laws.FnExactAreMultipliers", spec := "fnExactAreMultipliers", apart := false }
def FnExactAreMultipliersSaid : Prop := fnExactAreMultipliersRow.holds Try.pinned (OpenSpec.ofChange fnExactAreMultipliersSpec)

/-- ITS FALSE NEIGHBOUR: 'it returns false'. Refute it at one input. -/
def fnExactAreMultipliersWrong : ChangeSpec := { name := "fnExactAreMultipliers", fn := fun _ => fun
  | [d1, d2] => { results := [.lit (.bool false)], args := [d1, d2] }
  | _ => none }
def FnExactAreMultipliersWrongFalsely : Prop := fnExactAreMultipliersRow.holds Try.pinned (OpenSpec.ofChange fnExactAreMultipliersWrong)

/-- 'laws.FnExactMoveGain': WHATEVER THE INPUT: true; the input reads as it did. -/
def fnExactMoveGainSpec : ChangeSpec := { name := "fnExactMoveGain", fn := fun _ => fun
  | [d1, d2, d3, d4] => { results := [.lit (.bool true)], args := [d1, d2, d3, d4] }
  | _ => none }
def fnExactMoveGainRow : OpenClaim := { program := "ytnmeejeedfeolaa", sum := "8b2058fa1062c567b05770405ded7f0e4053211260e232d40875f8853dbf5335", func := "loop.example/g00914/laws.FnExactMoveGain", spec := "fnExactMoveGain", apart := false }
def FnExactMoveGainSaid : Prop := fnExactMoveGainRow.holds Try.pinned (OpenSpec.ofChange fnExactMoveGainSpec)

/-- ITS FALSE NEIGHBOUR: 'it returns false'. Refute it at one input. -/
def fnExactMoveGainWrong : ChangeSpec := { name := "fnExactMoveGain", fn := fun _ => fun
  | [d1, d2, d3, d4] => { results := [.lit (.bool false)], args := [d1, d2, d3, d4] }
  | _ => none }
def FnExactMoveGainWrongFalsely : Prop := fnExactMoveGainRow.holds Try.pinned (OpenSpec.ofChange fnExactMoveGainWrong)

/-- 'laws.FnExactPitValues': WHATEVER THE INPUT: true; the input reads as it did. -/
def fnExactPitValuesSpec : ChangeSpec := { name := "fnExactPitValues", fn := fun _ => fun
  | [d1, d2] => { results := [.lit (.bool true)], args := [d1, d2] }
  | _ => none }
def fnExactPitValuesRow : OpenClaim := { program := "ytnmeejeedfeolaa", sum := "8b2058fa1062c567b05770405ded7f0e4053211260e232d40875f8853dbf5335", func := "loop.example/g00914/laws.FnExactPitValues", spec := "fnExactPitValues", apart := false }
def FnExactPitValuesSaid : Prop := fnExactPitValuesRow.holds Try.pinned (OpenSpec.ofChange fnExactPitValuesSpec)

/-- ITS FALSE NEIGHBOUR: 'it returns false'. Refute it at one input. -/
def fnExactPitValuesWrong : ChangeSpec := { name := "fnExactPitValues", fn := fun _ => fun
  | [d1, d2] => { results := [.lit (.bool false)], args := [d1, d2] }
  | _ => none }
def FnExactPitValuesWrongFalsely : Prop := fnExactPitValuesRow.holds Try.pinned (OpenSpec.ofChange fnExactPitValuesWrong)

/-- 'laws.FnExactPaybackPeriod': WHATEVER THE INPUT: true; the input reads as it did. -/
def fnExactPaybackPeriodSpec : ChangeSpec := { name := "fnExactPaybackPeriod", fn := fun _ => fun
  | [d1, d2] => { results := [.lit (.bool true)], args := [d1, d2] }
  | _ => none }
def fnExactPaybackPeriodRow : OpenClaim := { program := "ytnmeejeedfeolaa", sum := "8b2058fa1062c567b05770405ded7f0e4053211260e232d40875f8853dbf5335", func := "loop.example/g00914/laws.FnExactPaybackPeriod", spec := "fnExactPaybackPeriod", apart := false }
def FnExactPaybackPeriodSaid : Prop := fnExactPaybackPeriodRow.holds Try.pinned (OpenSpec.ofChange fnExactPaybackPeriodSpec)

/-- ITS FALSE NEIGHBOUR: 'it returns false'. Refute it at one input. -/
def fnExactPaybackPeriodWrong : ChangeSpec := { name := "fnExactPaybackPeriod", fn := fun _ => fun
  | [d1, d2] => { results := [.lit (.bool false)], args := [d1, d2] }
  | _ => none }
def FnExactPaybackPeriodWrongFalsely : Prop := fnExactPaybackPeriodRow.holds Try.pinned (OpenSpec.ofChange fnExactPaybackPeriodWrong)

/-- 'laws.FnExactDeepestDebt': WHATEVER THE INPUT: true; the input reads as it did. -/
def fnExactDeepestDebtSpec : ChangeSpec := { name := "fnExactDeepestDebt", fn := fun _ => fun
  | [d1, d2] => { results := [.lit (.bool true)], args := [d1, d2] }
  | _ => none }
def fnExactDeepestDebtRow : OpenClaim := { program := "ytnmeejeedfeolaa", sum := "8b2058fa1062c567b05770405ded7f0e4053211260e232d40875f8853dbf5335", func := "loop.example/g00914/laws.FnExactDeepestDebt", spec := "fnExactDeepestDebt", apart := false }
def FnExactDeepestDebtSaid : Prop := fnExactDeepestDebtRow.holds Try.pinned (OpenSpec.ofChange fnExactDeepestDebtSpec)

/-- ITS FALSE NEIGHBOUR: 'it returns false'. Refute it at one input. -/
def fnExactDeepestDebtWrong : ChangeSpec := { name := "fnExactDeepestDebt", fn := fun _ => fun
  | [d1, d2] => { results := [.lit (.bool false)], args := [d1, d2] }
  | _ => none }
def FnExactDeepestDebtWrongFalsely : Prop := fnExactDeepestDebtRow.holds Try.pinned (OpenSpec.ofChange fnExactDeepestDebtWrong)

/-- 'laws.FnExactPeriodWorths': WHATEVER THE INPUT: true; the input reads as it did. -/
def fnExactPeriodWorthsSpec : ChangeSpec := { name := "fnExactPeriodWorths", fn := fun _ => fun
  | [d1, d2] => { results := [.lit (.bool true)], args := [d1, d2] }
  | _ => none }
def fnExactPeriodWorthsRow : OpenClaim := { program := "ytnmeejeedfeolaa", sum := "8b2058fa1062c567b05770405ded7f0e4053211260e232d40875f8853dbf5335", func := "loop.example/g00914/laws.FnExactPeriodWorths", spec := "fnExactPeriodWorths", apart := false }
def FnExactPeriodWorthsSaid : Prop := fnExactPeriodWorthsRow.holds Try.pinned (OpenSpec.ofChange fnExactPeriodWorthsSpec)

/-- ITS FALSE NEIGHBOUR: 'it returns false'. Refute it at one input. -/
def fnExactPeriodWorthsWrong : ChangeSpec := { name := "fnExactPeriodWorths", fn := fun _ => fun
  | [d1, d2] => { results := [.lit (.bool false)], args := [d1, d2] }
  | _ => none }
def FnExactPeriodWorthsWrongFalsely : Prop := fnExactPeriodWorthsRow.holds Try.pinned (OpenSpec.ofChange fnExactPeriodWorthsWrong)

/-- 'laws.FnExactWorthOf': WHATEVER THE INPUT: true; the input reads as it did. -/
def fnExactWorthOfSpec : ChangeSpec := { name := "fnExactWorthOf", fn := fun _ => fun
  | [d1, d2] => { results := [.lit (.bool true)], args := [d1, d2] }
  | _ => none }
def fnExactWorthOfRow : OpenClaim := { program := "ytnmeejeedfeolaa", sum := "8b2058fa1062c567b05770405ded7f0e4053211260e232d40875f8853dbf5335", func := "loop.example/g00914/laws.FnExactWorthOf", spec := "fnExactWorthOf", apart := false }
def FnExactWorthOfSaid : Prop := fnExactWorthOfRow.holds Try.pinned (OpenSpec.ofChange fnExactWorthOfSpec)

/-- ITS FALSE NEIGHBOUR: 'it returns false'. Refute it at one input. -/
def fnExactWorthOfWrong : ChangeSpec := { name := "fnExactWorthOf", fn := fun _ => fun
  | [d1, d2] => { results := [.lit (.bool false)], args := [d1, d2] }
  | _ => none }
def FnExactWorthOfWrongFalsely : Prop := fnExactWorthOfRow.holds Try.pinned (OpenSpec.ofChange fnExactWorthOfWrong)

/-- 'laws.FnExactPaidWorth': WHATEVER THE INPUT: true; the input reads as it did. -/
def fnExactPaidWorthSpec : ChangeSpec := { name := "fnExactPaidWorth", fn := fun _ => fun
  | [d1, d2, d3] => { results := [.lit (.bool true)], args := [d1, d2, d3] }
  | _ => none }
def fnExactPaidWorthRow : OpenClaim := { program := "ytnmeejeedfeolaa", sum := "8b2058fa1062c567b05770405ded7f0e4053211260e232d40875f8853dbf5335", func := "loop.example/g00914/laws.FnExactPaidWorth", spec := "fnExactPaidWorth", apart := false }
def FnExactPaidWorthSaid : Prop := fnExactPaidWorthRow.holds Try.pinned (OpenSpec.ofChange fnExactPaidWorthSpec)

/-- ITS FALSE NEIGHBOUR: 'it returns false'. Refute it at one input. -/
def fnExactPaidWorthWrong : ChangeSpec := { name := "fnExactPaidWorth", fn := fun _ => fun
  | [d1, d2, d3] => { results := [.lit (.bool false)], args := [d1, d2, d3] }
  | _ => none }
def FnExactPaidWorthWrongFalsely : Prop := fnExactPaidWorthRow.holds Try.pinned (OpenSpec.ofChange fnExactPaidWorthWrong)

/-- 'laws.FnExactGreedyPlan': WHATEVER THE INPUT: true; the input reads as it did. -/
def fnExactGreedyPlanSpec : ChangeSpec := { name := "fnExactGreedyPlan", fn := fun _ => fun
  | [d] => { results := [.lit (.bool true)], args := [d] }
  | _ => none }
def fnExactGreedyPlanRow : OpenClaim := { program := "ytnmeejeedfeolaa", sum := "8b2058fa1062c567b05770405ded7f0e4053211260e232d40875f8853dbf5335", func := "loop.example/g00914/laws.FnExactGreedyPlan", spec := "fnExactGreedyPlan", apart := false }
def FnExactGreedyPlanSaid : Prop := fnExactGreedyPlanRow.holds Try.pinned (OpenSpec.ofChange fnExactGreedyPlanSpec)

/-- ITS FALSE NEIGHBOUR: 'it returns false'. Refute it at one input. -/
def fnExactGreedyPlanWrong : ChangeSpec := { name := "fnExactGreedyPlan", fn := fun _ => fun
  | [d] => { results := [.lit (.bool false)], args := [d] }
  | _ => none }
def FnExactGreedyPlanWrongFalsely : Prop := fnExactGreedyPlanRow.holds Try.pinned (OpenSpec.ofChange fnExactGreedyPlanWrong)

/-- 'laws.FnExactOrderPlan': WHATEVER THE INPUT: true; the input reads as it did. -/
def fnExactOrderPlanSpec : ChangeSpec := { name := "fnExactOrderPlan", fn := fun _ => fun
  | [d1, d2] => { results := [.lit (.bool true)], args := [d1, d2] }
  | _ => none }
def fnExactOrderPlanRow : OpenClaim := { program := "ytnmeejeedfeolaa", sum := "8b2058fa1062c567b05770405ded7f0e4053211260e232d40875f8853dbf5335", func := "loop.example/g00914/laws.FnExactOrderPlan", spec := "fnExactOrderPlan", apart := false }
def FnExactOrderPlanSaid : Prop := fnExactOrderPlanRow.holds Try.pinned (OpenSpec.ofChange fnExactOrderPlanSpec)

/-- ITS FALSE NEIGHBOUR: 'it returns false'. Refute it at one input. -/
def fnExactOrderPlanWrong : ChangeSpec := { name := "fnExactOrderPlan", fn := fun _ => fun
  | [d1, d2] => { results := [.lit (.bool false)], args := [d1, d2] }
  | _ => none }
def FnExactOrderPlanWrongFalsely : Prop := fnExactOrderPlanRow.holds Try.pinned (OpenSpec.ofChange fnExactOrderPlanWrong)

/-- 'laws.FnExactEarlierPlan': WHATEVER THE INPUT: true; the input reads as it did. -/
def fnExactEarlierPlanSpec : ChangeSpec := { name := "fnExactEarlierPlan", fn := fun _ => fun
  | [d1, d2] => { results := [.lit (.bool true)], args := [d1, d2] }
  | _ => none }
def fnExactEarlierPlanRow : OpenClaim := { program := "ytnmeejeedfeolaa", sum := "8b2058fa1062c567b05770405ded7f0e4053211260e232d40875f8853dbf5335", func := "loop.example/g00914/laws.FnExactEarlierPlan", spec := "fnExactEarlierPlan", apart := false }
def FnExactEarlierPlanSaid : Prop := fnExactEarlierPlanRow.holds Try.pinned (OpenSpec.ofChange fnExactEarlierPlanSpec)

/-- ITS FALSE NEIGHBOUR: 'it returns false'. Refute it at one input. -/
def fnExactEarlierPlanWrong : ChangeSpec := { name := "fnExactEarlierPlan", fn := fun _ => fun
  | [d1, d2] => { results := [.lit (.bool false)], args := [d1, d2] }
  | _ => none }
def FnExactEarlierPlanWrongFalsely : Prop := fnExactEarlierPlanRow.holds Try.pinned (OpenSpec.ofChange fnExactEarlierPlanWrong)

/-- 'laws.FnExactBestMove': WHATEVER THE INPUT: true; the input reads as it did. -/
def fnExactBestMoveSpec : ChangeSpec := { name := "fnExactBestMove", fn := fun _ => fun
  | [d1, d2] => { results := [.lit (.bool true)], args := [d1, d2] }
  | _ => none }
def fnExactBestMoveRow : OpenClaim := { program := "ytnmeejeedfeolaa", sum := "8b2058fa1062c567b05770405ded7f0e4053211260e232d40875f8853dbf5335", func := "loop.example/g00914/laws.FnExactBestMove", spec := "fnExactBestMove", apart := false }
def FnExactBestMoveSaid : Prop := fnExactBestMoveRow.holds Try.pinned (OpenSpec.ofChange fnExactBestMoveSpec)

/-- ITS FALSE NEIGHBOUR: 'it returns false'. Refute it at one input. -/
def fnExactBestMoveWrong : ChangeSpec := { name := "fnExactBestMove", fn := fun _ => fun
  | [d1, d2] => { results := [.lit (.bool false)], args := [d1, d2] }
  | _ => none }
def FnExactBestMoveWrongFalsely : Prop := fnExactBestMoveRow.holds Try.pinned (OpenSpec.ofChange fnExactBestMoveWrong)

/-- 'laws.FnExactLaterPlan': WHATEVER THE INPUT: true; the input reads as it did. -/
def fnExactLaterPlanSpec : ChangeSpec := { name := "fnExactLaterPlan", fn := fun _ => fun
  | [d1, d2] => { results := [.lit (.bool true)], args := [d1, d2] }
  | _ => none }
def fnExactLaterPlanRow : OpenClaim := { program := "ytnmeejeedfeolaa", sum := "8b2058fa1062c567b05770405ded7f0e4053211260e232d40875f8853dbf5335", func := "loop.example/g00914/laws.FnExactLaterPlan", spec := "fnExactLaterPlan", apart := false }
def FnExactLaterPlanSaid : Prop := fnExactLaterPlanRow.holds Try.pinned (OpenSpec.ofChange fnExactLaterPlanSpec)

/-- ITS FALSE NEIGHBOUR: 'it returns false'. Refute it at one input. -/
def fnExactLaterPlanWrong : ChangeSpec := { name := "fnExactLaterPlan", fn := fun _ => fun
  | [d1, d2] => { results := [.lit (.bool false)], args := [d1, d2] }
  | _ => none }
def FnExactLaterPlanWrongFalsely : Prop := fnExactLaterPlanRow.holds Try.pinned (OpenSpec.ofChange fnExactLaterPlanWrong)

/-- 'laws.FnExactIsPeak': WHATEVER THE INPUT: true; the input reads as it did. -/
def fnExactIsPeakSpec : ChangeSpec := { name := "fnExactIsPeak", fn := fun _ => fun
  | [d1, d2] => { results := [.lit (.bool true)], args := [d1, d2] }
  | _ => none }
def fnExactIsPeakRow : OpenClaim := { program := "ytnmeejeedfeolaa", sum := "8b2058fa1062c567b05770405ded7f0e4053211260e232d40875f8853dbf5335", func := "loop.example/g00914/laws.FnExactIsPeak", spec := "fnExactIsPeak", apart := false }
def FnExactIsPeakSaid : Prop := fnExactIsPeakRow.holds Try.pinned (OpenSpec.ofChange fnExactIsPeakSpec)

/-- ITS FALSE NEIGHBOUR: 'it returns false'. Refute it at one input. -/
def fnExactIsPeakWrong : ChangeSpec := { name := "fnExactIsPeak", fn := fun _ => fun
  | [d1, d2] => { results := [.lit (.bool false)], args := [d1, d2] }
  | _ => none }
def FnExactIsPeakWrongFalsely : Prop := fnExactIsPeakRow.holds Try.pinned (OpenSpec.ofChange fnExactIsPeakWrong)

/-- 'laws.FnExactClimbPlan': WHATEVER THE INPUT: true; the input reads as it did. -/
def fnExactClimbPlanSpec : ChangeSpec := { name := "fnExactClimbPlan", fn := fun _ => fun
  | [d1, d2, d3] => { results := [.lit (.bool true)], args := [d1, d2, d3] }
  | _ => none }
def fnExactClimbPlanRow : OpenClaim := { program := "ytnmeejeedfeolaa", sum := "8b2058fa1062c567b05770405ded7f0e4053211260e232d40875f8853dbf5335", func := "loop.example/g00914/laws.FnExactClimbPlan", spec := "fnExactClimbPlan", apart := false }
def FnExactClimbPlanSaid : Prop := fnExactClimbPlanRow.holds Try.pinned (OpenSpec.ofChange fnExactClimbPlanSpec)

/-- ITS FALSE NEIGHBOUR: 'it returns false'. Refute it at one input. -/
def fnExactClimbPlanWrong : ChangeSpec := { name := "fnExactClimbPlan", fn := fun _ => fun
  | [d1, d2, d3] => { results := [.lit (.bool false)], args := [d1, d2, d3] }
  | _ => none }
def FnExactClimbPlanWrongFalsely : Prop := fnExactClimbPlanRow.holds Try.pinned (OpenSpec.ofChange fnExactClimbPlanWrong)

/-- 'laws.FnExactConePlan': WHATEVER THE INPUT: true; the input reads as it did. -/
def fnExactConePlanSpec : ChangeSpec := { name := "fnExactConePlan", fn := fun _ => fun
  | [d] => { results := [.lit (.bool true)], args := [d] }
  | _ => none }
def fnExactConePlanRow : OpenClaim := { program := "ytnmeejeedfeolaa", sum := "8b2058fa1062c567b05770405ded7f0e4053211260e232d40875f8853dbf5335", func := "loop.example/g00914/laws.FnExactConePlan", spec := "fnExactConePlan", apart := false }
def FnExactConePlanSaid : Prop := fnExactConePlanRow.holds Try.pinned (OpenSpec.ofChange fnExactConePlanSpec)

/-- ITS FALSE NEIGHBOUR: 'it returns false'. Refute it at one input. -/
def fnExactConePlanWrong : ChangeSpec := { name := "fnExactConePlan", fn := fun _ => fun
  | [d] => { results := [.lit (.bool false)], args := [d] }
  | _ => none }
def FnExactConePlanWrongFalsely : Prop := fnExactConePlanRow.holds Try.pinned (OpenSpec.ofChange fnExactConePlanWrong)

/- THE SECOND FORM. 'bulk': how many values and letters a reading holds, each counted each time it is reached (what is shared counts as often as it is met; a slice's spare places count too). A statement '..UptoSaid' is the law's where the arguments, and the package variables that the reading takes, are together of bulk at most 1048576: NARROWER than '..Said'. Prove '..Said' where nothing that the law and all that it calls make is longer than what came in: it says more and counts as full. Else prove '..UptoSaid'. A law counts once. -/
mutual
def uptoBulk {H : Type} : DataW H → Nat
  | .lit (.string bytes) => bytes.length + 1
  | .lit _ => 1
  | .nil => 1
  | .ptr d => uptoBulk d + 1
  | .slice elems spare => uptoBulkAll elems + uptoBulkAll spare + 1
  | .agg parts => uptoBulkAll parts + 1
  | .iface _ d => uptoBulk d + 1
  | .map entries => uptoBulkEntries entries + 1
  | .held _ => 1
def uptoBulkAll {H : Type} : List (DataW H) → Nat
  | [] => 0
  | d :: r => uptoBulk d + uptoBulkAll r
def uptoBulkEntries {H : Type} : List (Lit × DataW H) → Nat
  | [] => 0
  | x :: r => uptoBulkEntry x + uptoBulkEntries r
def uptoBulkEntry {H : Type} : Lit × DataW H → Nat
  | (.string bytes, d) => bytes.length + uptoBulk d + 1
  | (_, d) => uptoBulk d + 1
 end
def uptoSmall : (H : Type) → List (DataW H) → Bool := fun _ ds => decide (uptoBulkAll ds ≤ 1048576)
def OpenSpec.upto (s : _root_.Go.ChangeSpec) : _root_.Go.OpenSpec := { _root_.Go.OpenSpec.ofChange s with cond := some uptoSmall }

/-- 'laws.FnExactAreMultipliers', WHERE WHAT IT READS IS OF BULK AT MOST 1048576: true; the input reads as it did. -/
def fnExactAreMultipliersUptoRow : OpenClaim := { program := "ytnmeejeedfeolaa", sum := "8b2058fa1062c567b05770405ded7f0e4053211260e232d40875f8853dbf5335", func := "loop.example/g00914/laws.FnExactAreMultipliers", spec := "fnExactAreMultipliers", apart := false, narrowed := true }
def FnExactAreMultipliersUptoSaid : Prop := fnExactAreMultipliersUptoRow.holds Try.pinned (OpenSpec.upto fnExactAreMultipliersSpec)

/-- 'laws.FnExactMoveGain', WHERE WHAT IT READS IS OF BULK AT MOST 1048576: true; the input reads as it did. -/
def fnExactMoveGainUptoRow : OpenClaim := { program := "ytnmeejeedfeolaa", sum := "8b2058fa1062c567b05770405ded7f0e4053211260e232d40875f8853dbf5335", func := "loop.example/g00914/laws.FnExactMoveGain", spec := "fnExactMoveGain", apart := false, narrowed := true }
def FnExactMoveGainUptoSaid : Prop := fnExactMoveGainUptoRow.holds Try.pinned (OpenSpec.upto fnExactMoveGainSpec)

/-- 'laws.FnExactPitValues', WHERE WHAT IT READS IS OF BULK AT MOST 1048576: true; the input reads as it did. -/
def fnExactPitValuesUptoRow : OpenClaim := { program := "ytnmeejeedfeolaa", sum := "8b2058fa1062c567b05770405ded7f0e4053211260e232d40875f8853dbf5335", func := "loop.example/g00914/laws.FnExactPitValues", spec := "fnExactPitValues", apart := false, narrowed := true }
def FnExactPitValuesUptoSaid : Prop := fnExactPitValuesUptoRow.holds Try.pinned (OpenSpec.upto fnExactPitValuesSpec)

/-- 'laws.FnExactPaybackPeriod', WHERE WHAT IT READS IS OF BULK AT MOST 1048576: true; the input reads as it did. -/
def fnExactPaybackPeriodUptoRow : OpenClaim := { program := "ytnmeejeedfeolaa", sum := "8b2058fa1062c567b05770405ded7f0e4053211260e232d40875f8853dbf5335", func := "loop.example/g00914/laws.FnExactPaybackPeriod", spec := "fnExactPaybackPeriod", apart := false, narrowed := true }
def FnExactPaybackPeriodUptoSaid : Prop := fnExactPaybackPeriodUptoRow.holds Try.pinned (OpenSpec.upto fnExactPaybackPeriodSpec)

/-- 'laws.FnExactDeepestDebt', WHERE WHAT IT READS IS OF BULK AT MOST 1048576: true; the input reads as it did. -/
def fnExactDeepestDebtUptoRow : OpenClaim := { program := "ytnmeejeedfeolaa", sum := "8b2058fa1062c567b05770405ded7f0e4053211260e232d40875f8853dbf5335", func := "loop.example/g00914/laws.FnExactDeepestDebt", spec := "fnExactDeepestDebt", apart := false, narrowed := true }
def FnExactDeepestDebtUptoSaid : Prop := fnExactDeepestDebtUptoRow.holds Try.pinned (OpenSpec.upto fnExactDeepestDebtSpec)

/-- 'laws.FnExactPeriodWorths', WHERE WHAT IT READS IS OF BULK AT MOST 1048576: true; the input reads as it did. -/
def fnExactPeriodWorthsUptoRow : OpenClaim := { program := "ytnmeejeedfeolaa", sum := "8b2058fa1062c567b05770405ded7f0e4053211260e232d40875f8853dbf5335", func := "loop.example/g00914/laws.FnExactPeriodWorths", spec := "fnExactPeriodWorths", apart := false, narrowed := true }
def FnExactPeriodWorthsUptoSaid : Prop := fnExactPeriodWorthsUptoRow.holds Try.pinned (OpenSpec.upto fnExactPeriodWorthsSpec)

/-- 'laws.FnExactWorthOf', WHERE WHAT IT READS IS OF BULK AT MOST 1048576: true; the input reads as it did. -/
def fnExactWorthOfUptoRow : OpenClaim := { program := "ytnmeejeedfeolaa", sum := "8b2058fa1062c567b05770405ded7f0e4053211260e232d40875f8853dbf5335", func := "loop.example/g00914/laws.FnExactWorthOf", spec := "fnExactWorthOf", apart := false, narrowed := true }
def FnExactWorthOfUptoSaid : Prop := fnExactWorthOfUptoRow.holds Try.pinned (OpenSpec.upto fnExactWorthOfSpec)

/-- 'laws.FnExactPaidWorth', WHERE WHAT IT READS IS OF BULK AT MOST 1048576: true; the input reads as it did. -/
def fnExactPaidWorthUptoRow : OpenClaim := { program := "ytnmeejeedfeolaa", sum := "8b2058fa1062c567b05770405ded7f0e4053211260e232d40875f8853dbf5335", func := "loop.example/g00914/laws.FnExactPaidWorth", spec := "fnExactPaidWorth", apart := false, narrowed := true }
def FnExactPaidWorthUptoSaid : Prop := fnExactPaidWorthUptoRow.holds Try.pinned (OpenSpec.upto fnExactPaidWorthSpec)

/-- 'laws.FnExactGreedyPlan', WHERE WHAT IT READS IS OF BULK AT MOST 1048576: true; the input reads as it did. -/
def fnExactGreedyPlanUptoRow : OpenClaim := { program := "ytnmeejeedfeolaa", sum := "8b2058fa1062c567b05770405ded7f0e4053211260e232d40875f8853dbf5335", func := "loop.example/g00914/laws.FnExactGreedyPlan", spec := "fnExactGreedyPlan", apart := false, narrowed := true }
def FnExactGreedyPlanUptoSaid : Prop := fnExactGreedyPlanUptoRow.holds Try.pinned (OpenSpec.upto fnExactGreedyPlanSpec)

/-- 'laws.FnExactOrderPlan', WHERE WHAT IT READS IS OF BULK AT MOST 1048576: true; the input reads as it did. -/
def fnExactOrderPlanUptoRow : OpenClaim := { program := "ytnmeejeedfeolaa", sum := "8b2058fa1062c567b05770405ded7f0e4053211260e232d40875f8853dbf5335", func := "loop.example/g00914/laws.FnExactOrderPlan", spec := "fnExactOrderPlan", apart := false, narrowed := true }
def FnExactOrderPlanUptoSaid : Prop := fnExactOrderPlanUptoRow.holds Try.pinned (OpenSpec.upto fnExactOrderPlanSpec)

/-- 'laws.FnExactEarlierPlan', WHERE WHAT IT READS IS OF BULK AT MOST 1048576: true; the input reads as it did. -/
def fnExactEarlierPlanUptoRow : OpenClaim := { program := "ytnmeejeedfeolaa", sum := "8b2058fa1062c567b05770405ded7f0e4053211260e232d40875f8853dbf5335", func := "loop.example/g00914/laws.FnExactEarlierPlan", spec := "fnExactEarlierPlan", apart := false, narrowed := true }
def FnExactEarlierPlanUptoSaid : Prop := fnExactEarlierPlanUptoRow.holds Try.pinned (OpenSpec.upto fnExactEarlierPlanSpec)

/-- 'laws.FnExactBestMove', WHERE WHAT IT READS IS OF BULK AT MOST 1048576: true; the input reads as it did. -/
def fnExactBestMoveUptoRow : OpenClaim := { program := "ytnmeejeedfeolaa", sum := "8b2058fa1062c567b05770405ded7f0e4053211260e232d40875f8853dbf5335", func := "loop.example/g00914/laws.FnExactBestMove", spec := "fnExactBestMove", apart := false, narrowed := true }
def FnExactBestMoveUptoSaid : Prop := fnExactBestMoveUptoRow.holds Try.pinned (OpenSpec.upto fnExactBestMoveSpec)

/-- 'laws.FnExactLaterPlan', WHERE WHAT IT READS IS OF BULK AT MOST 1048576: true; the input reads as it did. -/
def fnExactLaterPlanUptoRow : OpenClaim := { program := "ytnmeejeedfeolaa", sum := "8b2058fa1062c567b05770405ded7f0e4053211260e232d40875f8853dbf5335", func := "loop.example/g00914/laws.FnExactLaterPlan", spec := "fnExactLaterPlan", apart := false, narrowed := true }
def FnExactLaterPlanUptoSaid : Prop := fnExactLaterPlanUptoRow.holds Try.pinned (OpenSpec.upto fnExactLaterPlanSpec)

/-- 'laws.FnExactIsPeak', WHERE WHAT IT READS IS OF BULK AT MOST 1048576: true; the input reads as it did. -/
def fnExactIsPeakUptoRow : OpenClaim := { program := "ytnmeejeedfeolaa", sum := "8b2058fa1062c567b05770405ded7f0e4053211260e232d40875f8853dbf5335", func := "loop.example/g00914/laws.FnExactIsPeak", spec := "fnExactIsPeak", apart := false, narrowed := true }
def FnExactIsPeakUptoSaid : Prop := fnExactIsPeakUptoRow.holds Try.pinned (OpenSpec.upto fnExactIsPeakSpec)

/-- 'laws.FnExactClimbPlan', WHERE WHAT IT READS IS OF BULK AT MOST 1048576: true; the input reads as it did. -/
def fnExactClimbPlanUptoRow : OpenClaim := { program := "ytnmeejeedfeolaa", sum := "8b2058fa1062c567b05770405ded7f0e4053211260e232d40875f8853dbf5335", func := "loop.example/g00914/laws.FnExactClimbPlan", spec := "fnExactClimbPlan", apart := false, narrowed := true }
def FnExactClimbPlanUptoSaid : Prop := fnExactClimbPlanUptoRow.holds Try.pinned (OpenSpec.upto fnExactClimbPlanSpec)

/-- 'laws.FnExactConePlan', WHERE WHAT IT READS IS OF BULK AT MOST 1048576: true; the input reads as it did. -/
def fnExactConePlanUptoRow : OpenClaim := { program := "ytnmeejeedfeolaa", sum := "8b2058fa1062c567b05770405ded7f0e4053211260e232d40875f8853dbf5335", func := "loop.example/g00914/laws.FnExactConePlan", spec := "fnExactConePlan", apart := false, narrowed := true }
def FnExactConePlanUptoSaid : Prop := fnExactConePlanUptoRow.holds Try.pinned (OpenSpec.upto fnExactConePlanSpec)

end Rows
end Go.Proofs.Ytnmeejeedfeolaa
