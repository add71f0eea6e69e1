/-
  No cell of these rows narrows 'for every input' (looked for: loops, veiled, ifaces, maps, wideKeys, modest, calm, conditions, laid).
  DERIVED. THE GIVEN ROWS OF THIS SEAT. 10 by the template 'for every input the law returns true; each argument reads behind the call as it read before'; 0 by the template 'total and deterministic' (their statements: YtaiopbdbnellhaaTotals.lean).
  GIVEN WITH THE SEED: the statements are not yours to turn. If you find one false, say at which input.
  Laid BY PROGRAM, IN A SANDBOX (cutbox-rows.mjs): the forced cells as the released guide's own fill.sh prints them over the translation 55c99403264030ab… (all of the seat's roots in one cut). By AI agents, Wed Nov 11 2026. No macro, syntax, notation, axiom, sorry.
-/
import Derived.Test.YtaiopbdbnellhaaChecked
import GoSem.Claim
import GoSem.ClaimJoined
import GoSem.ClaimMapViews
import Derived.JoinedTies
import Derived.KernelRfl
namespace Go.Proofs.Ytaiopbdbnellhaa
/- THE CELL 'sum', in the pinned program and in every row, IS THE sha256 OF THE DUMP (.gsa) THAT YtaiopbdbnellhaaProg.lean LOADS. Nothing in Lean hashes anything: it is a label: what it is worth is what the hold of that sum in a sandbox is worth. -/
noncomputable def Try.pinned : Pinned := { name := "ytaiopbdbnellhaa", sum := "55c99403264030ab84b6e11b2b54b412321606fed9e3089ec132f386473084f5", checked := Try.checked }
namespace Rows
def none {H : Type} : Left H := { results := [], args := [] }

/-- 'laws.FnExactIsSearchable': WHATEVER THE INPUT: true; the input reads as it did. -/
def fnExactIsSearchableSpec : ChangeSpec := { name := "fnExactIsSearchable", fn := fun _ => fun
  | [d] => { results := [.lit (.bool true)], args := [d] }
  | _ => none }
def fnExactIsSearchableRow : OpenClaim := { program := "ytaiopbdbnellhaa", sum := "55c99403264030ab84b6e11b2b54b412321606fed9e3089ec132f386473084f5", func := "loop.example/g00914/laws.FnExactIsSearchable", spec := "fnExactIsSearchable", apart := false }
def FnExactIsSearchableSaid : Prop := fnExactIsSearchableRow.holds Try.pinned (OpenSpec.ofChange fnExactIsSearchableSpec)

/-- ITS FALSE NEIGHBOUR: 'it returns false'. Refute it at one input. -/
def fnExactIsSearchableWrong : ChangeSpec := { name := "fnExactIsSearchable", fn := fun _ => fun
  | [d] => { results := [.lit (.bool false)], args := [d] }
  | _ => none }
def FnExactIsSearchableWrongFalsely : Prop := fnExactIsSearchableRow.holds Try.pinned (OpenSpec.ofChange fnExactIsSearchableWrong)

/-- 'laws.FnExactRootBound': WHATEVER THE INPUT: true; the input reads as it did. -/
def fnExactRootBoundSpec : ChangeSpec := { name := "fnExactRootBound", fn := fun _ => fun
  | [d] => { results := [.lit (.bool true)], args := [d] }
  | _ => none }
def fnExactRootBoundRow : OpenClaim := { program := "ytaiopbdbnellhaa", sum := "55c99403264030ab84b6e11b2b54b412321606fed9e3089ec132f386473084f5", func := "loop.example/g00914/laws.FnExactRootBound", spec := "fnExactRootBound", apart := false }
def FnExactRootBoundSaid : Prop := fnExactRootBoundRow.holds Try.pinned (OpenSpec.ofChange fnExactRootBoundSpec)

/-- ITS FALSE NEIGHBOUR: 'it returns false'. Refute it at one input. -/
def fnExactRootBoundWrong : ChangeSpec := { name := "fnExactRootBound", fn := fun _ => fun
  | [d] => { results := [.lit (.bool false)], args := [d] }
  | _ => none }
def FnExactRootBoundWrongFalsely : Prop := fnExactRootBoundRow.holds Try.pinned (OpenSpec.ofChange fnExactRootBoundWrong)

/-- 'laws.FnExactScaledWorth': WHATEVER THE INPUT: true; the input reads as it did. -/
def fnExactScaledWorthSpec : ChangeSpec := { name := "fnExactScaledWorth", fn := fun _ => fun
  | [d1, d2] => { results := [.lit (.bool true)], args := [d1, d2] }
  | _ => none }
def fnExactScaledWorthRow : OpenClaim := { program := "ytaiopbdbnellhaa", sum := "55c99403264030ab84b6e11b2b54b412321606fed9e3089ec132f386473084f5", func := "loop.example/g00914/laws.FnExactScaledWorth", spec := "fnExactScaledWorth", apart := false }
def FnExactScaledWorthSaid : Prop := fnExactScaledWorthRow.holds Try.pinned (OpenSpec.ofChange fnExactScaledWorthSpec)

/-- ITS FALSE NEIGHBOUR: 'it returns false'. Refute it at one input. -/
def fnExactScaledWorthWrong : ChangeSpec := { name := "fnExactScaledWorth", fn := fun _ => fun
  | [d1, d2] => { results := [.lit (.bool false)], args := [d1, d2] }
  | _ => none }
def FnExactScaledWorthWrongFalsely : Prop := fnExactScaledWorthRow.holds Try.pinned (OpenSpec.ofChange fnExactScaledWorthWrong)

/-- 'laws.FnExactComparePlans': WHATEVER THE INPUT: true; the input reads as it did. -/
def fnExactComparePlansSpec : ChangeSpec := { name := "fnExactComparePlans", fn := fun _ => fun
  | [d1, d2, d3] => { results := [.lit (.bool true)], args := [d1, d2, d3] }
  | _ => none }
def fnExactComparePlansRow : OpenClaim := { program := "ytaiopbdbnellhaa", sum := "55c99403264030ab84b6e11b2b54b412321606fed9e3089ec132f386473084f5", func := "loop.example/g00914/laws.FnExactComparePlans", spec := "fnExactComparePlans", apart := false }
def FnExactComparePlansSaid : Prop := fnExactComparePlansRow.holds Try.pinned (OpenSpec.ofChange fnExactComparePlansSpec)

/-- ITS FALSE NEIGHBOUR: 'it returns false'. Refute it at one input. -/
def fnExactComparePlansWrong : ChangeSpec := { name := "fnExactComparePlans", fn := fun _ => fun
  | [d1, d2, d3] => { results := [.lit (.bool false)], args := [d1, d2, d3] }
  | _ => none }
def FnExactComparePlansWrongFalsely : Prop := fnExactComparePlansRow.holds Try.pinned (OpenSpec.ofChange fnExactComparePlansWrong)

/-- 'laws.FnExactCountPlans': WHATEVER THE INPUT: true; the input reads as it did. -/
def fnExactCountPlansSpec : ChangeSpec := { name := "fnExactCountPlans", fn := fun _ => fun
  | [d] => { results := [.lit (.bool true)], args := [d] }
  | _ => none }
def fnExactCountPlansRow : OpenClaim := { program := "ytaiopbdbnellhaa", sum := "55c99403264030ab84b6e11b2b54b412321606fed9e3089ec132f386473084f5", func := "loop.example/g00914/laws.FnExactCountPlans", spec := "fnExactCountPlans", unfollowed := true, recurses := true, apart := false }
def FnExactCountPlansSaid : Prop := fnExactCountPlansRow.holds Try.pinned (OpenSpec.ofChange fnExactCountPlansSpec)

/-- ITS FALSE NEIGHBOUR: 'it returns false'. Refute it at one input. -/
def fnExactCountPlansWrong : ChangeSpec := { name := "fnExactCountPlans", fn := fun _ => fun
  | [d] => { results := [.lit (.bool false)], args := [d] }
  | _ => none }
def FnExactCountPlansWrongFalsely : Prop := fnExactCountPlansRow.holds Try.pinned (OpenSpec.ofChange fnExactCountPlansWrong)

/-- 'laws.FnExactNodesOf': WHATEVER THE INPUT: true; the input reads as it did. -/
def fnExactNodesOfSpec : ChangeSpec := { name := "fnExactNodesOf", fn := fun _ => fun
  | [d] => { results := [.lit (.bool true)], args := [d] }
  | _ => none }
def fnExactNodesOfRow : OpenClaim := { program := "ytaiopbdbnellhaa", sum := "55c99403264030ab84b6e11b2b54b412321606fed9e3089ec132f386473084f5", func := "loop.example/g00914/laws.FnExactNodesOf", spec := "fnExactNodesOf", recurses := true, apart := false }
def FnExactNodesOfSaid : Prop := fnExactNodesOfRow.holds Try.pinned (OpenSpec.ofChange fnExactNodesOfSpec)

/-- ITS FALSE NEIGHBOUR: 'it returns false'. Refute it at one input. -/
def fnExactNodesOfWrong : ChangeSpec := { name := "fnExactNodesOf", fn := fun _ => fun
  | [d] => { results := [.lit (.bool false)], args := [d] }
  | _ => none }
def FnExactNodesOfWrongFalsely : Prop := fnExactNodesOfRow.holds Try.pinned (OpenSpec.ofChange fnExactNodesOfWrong)

/-- 'laws.FnExactSearchPlan': WHATEVER THE INPUT: true; the input reads as it did. -/
def fnExactSearchPlanSpec : ChangeSpec := { name := "fnExactSearchPlan", fn := fun _ => fun
  | [d1, d2] => { results := [.lit (.bool true)], args := [d1, d2] }
  | _ => none }
def fnExactSearchPlanRow : OpenClaim := { program := "ytaiopbdbnellhaa", sum := "55c99403264030ab84b6e11b2b54b412321606fed9e3089ec132f386473084f5", func := "loop.example/g00914/laws.FnExactSearchPlan", spec := "fnExactSearchPlan", recurses := true, apart := false }
def FnExactSearchPlanSaid : Prop := fnExactSearchPlanRow.holds Try.pinned (OpenSpec.ofChange fnExactSearchPlanSpec)

/-- ITS FALSE NEIGHBOUR: 'it returns false'. Refute it at one input. -/
def fnExactSearchPlanWrong : ChangeSpec := { name := "fnExactSearchPlan", fn := fun _ => fun
  | [d1, d2] => { results := [.lit (.bool false)], args := [d1, d2] }
  | _ => none }
def FnExactSearchPlanWrongFalsely : Prop := fnExactSearchPlanRow.holds Try.pinned (OpenSpec.ofChange fnExactSearchPlanWrong)

/-- 'laws.FnExactBestPlan': WHATEVER THE INPUT: true; the input reads as it did. -/
def fnExactBestPlanSpec : ChangeSpec := { name := "fnExactBestPlan", fn := fun _ => fun
  | [d] => { results := [.lit (.bool true)], args := [d] }
  | _ => none }
def fnExactBestPlanRow : OpenClaim := { program := "ytaiopbdbnellhaa", sum := "55c99403264030ab84b6e11b2b54b412321606fed9e3089ec132f386473084f5", func := "loop.example/g00914/laws.FnExactBestPlan", spec := "fnExactBestPlan", recurses := true, apart := false }
def FnExactBestPlanSaid : Prop := fnExactBestPlanRow.holds Try.pinned (OpenSpec.ofChange fnExactBestPlanSpec)

/-- ITS FALSE NEIGHBOUR: 'it returns false'. Refute it at one input. -/
def fnExactBestPlanWrong : ChangeSpec := { name := "fnExactBestPlan", fn := fun _ => fun
  | [d] => { results := [.lit (.bool false)], args := [d] }
  | _ => none }
def FnExactBestPlanWrongFalsely : Prop := fnExactBestPlanRow.holds Try.pinned (OpenSpec.ofChange fnExactBestPlanWrong)

/-- 'laws.FnExactIsBest': WHATEVER THE INPUT: true; the input reads as it did. -/
def fnExactIsBestSpec : ChangeSpec := { name := "fnExactIsBest", fn := fun _ => fun
  | [d1, d2] => { results := [.lit (.bool true)], args := [d1, d2] }
  | _ => none }
def fnExactIsBestRow : OpenClaim := { program := "ytaiopbdbnellhaa", sum := "55c99403264030ab84b6e11b2b54b412321606fed9e3089ec132f386473084f5", func := "loop.example/g00914/laws.FnExactIsBest", spec := "fnExactIsBest", recurses := true, apart := false }
def FnExactIsBestSaid : Prop := fnExactIsBestRow.holds Try.pinned (OpenSpec.ofChange fnExactIsBestSpec)

/-- ITS FALSE NEIGHBOUR: 'it returns false'. Refute it at one input. -/
def fnExactIsBestWrong : ChangeSpec := { name := "fnExactIsBest", fn := fun _ => fun
  | [d1, d2] => { results := [.lit (.bool false)], args := [d1, d2] }
  | _ => none }
def FnExactIsBestWrongFalsely : Prop := fnExactIsBestRow.holds Try.pinned (OpenSpec.ofChange fnExactIsBestWrong)

/-- 'laws.FnPlanBound': WHATEVER THE INPUT: true; the input reads as it did. -/
def fnPlanBoundSpec : ChangeSpec := { name := "fnPlanBound", fn := fun _ => fun
  | [d1, d2, d3] => { results := [.lit (.bool true)], args := [d1, d2, d3] }
  | _ => none }
def fnPlanBoundRow : OpenClaim := { program := "ytaiopbdbnellhaa", sum := "55c99403264030ab84b6e11b2b54b412321606fed9e3089ec132f386473084f5", func := "loop.example/g00914/laws.FnPlanBound", spec := "fnPlanBound", recurses := true, apart := false }
def FnPlanBoundSaid : Prop := fnPlanBoundRow.holds Try.pinned (OpenSpec.ofChange fnPlanBoundSpec)

/-- ITS FALSE NEIGHBOUR: 'it returns false'. Refute it at one input. -/
def fnPlanBoundWrong : ChangeSpec := { name := "fnPlanBound", fn := fun _ => fun
  | [d1, d2, d3] => { results := [.lit (.bool false)], args := [d1, d2, d3] }
  | _ => none }
def FnPlanBoundWrongFalsely : Prop := fnPlanBoundRow.holds Try.pinned (OpenSpec.ofChange fnPlanBoundWrong)

/- THE SECOND FORM. 'bulk': how many values and letters a reading holds, each counted each time it is reached (what is shared counts as often as it is met; a slice's spare places count too). A statement '..UptoSaid' is the law's where the arguments, and the package variables that the reading takes, are together of bulk at most 1048576: NARROWER than '..Said'. Prove '..Said' where nothing that the law and all that it calls make is longer than what came in: it says more and counts as full. Else prove '..UptoSaid'. A law counts once. -/
mutual
def uptoBulk {H : Type} : DataW H → Nat
  | .lit (.string bytes) => bytes.length + 1
  | .lit _ => 1
  | .nil => 1
  | .ptr d => uptoBulk d + 1
  | .slice elems spare => uptoBulkAll elems + uptoBulkAll spare + 1
  | .agg parts => uptoBulkAll parts + 1
  | .iface _ d => uptoBulk d + 1
  | .map entries => uptoBulkEntries entries + 1
  | .held _ => 1
def uptoBulkAll {H : Type} : List (DataW H) → Nat
  | [] => 0
  | d :: r => uptoBulk d + uptoBulkAll r
def uptoBulkEntries {H : Type} : List (Lit × DataW H) → Nat
  | [] => 0
  | x :: r => uptoBulkEntry x + uptoBulkEntries r
def uptoBulkEntry {H : Type} : Lit × DataW H → Nat
  | (.string bytes, d) => bytes.length + uptoBulk d + 1
  | (_, d) => uptoBulk d + 1
 end
def uptoSmall : (H : Type) → List (DataW H) → Bool := fun _ ds => decide (uptoBulkAll ds ≤ 1048576)
def OpenSpec.upto (s : _root_.Go.ChangeSpec) : _root_.Go.OpenSpec := { _root_.Go.OpenSpec.ofChange s with cond := some uptoSmall }

/-- 'laws.FnExactIsSearchable', WHERE WHAT IT READS IS OF BULK AT MOST 1048576: true; the input reads as it did. -/
def fnExactIsSearchableUptoRow : OpenClaim := { program := "ytaiopbdbnellhaa", sum := "55c99403264030ab84b6e11b2b54b412321606fed9e3089ec132f386473084f5", func := "loop.example/g00914/laws.FnExactIsSearchable", spec := "fnExactIsSearchable", apart := false, narrowed := true }
def FnExactIsSearchableUptoSaid : Prop := fnExactIsSearchableUptoRow.holds Try.pinned (OpenSpec.upto fnExactIsSearchableSpec)

/-- 'laws.FnExactRootBound', WHERE WHAT IT READS IS OF BULK AT MOST 1048576: true; the input reads as it did. -/
def fnExactRootBoundUptoRow : OpenClaim := { program := "ytaiopbdbnellhaa", sum := "55c99403264030ab84b6e11b2b54b412321606fed9e3089ec132f386473084f5", func := "loop.example/g00914/laws.FnExactRootBound", spec := "fnExactRootBound", apart := false, narrowed := true }
def FnExactRootBoundUptoSaid : Prop := fnExactRootBoundUptoRow.holds Try.pinned (OpenSpec.upto fnExactRootBoundSpec)

/-- 'laws.FnExactScaledWorth', WHERE WHAT IT READS IS OF BULK AT MOST 1048576: true; the input reads as it did. -/
def fnExactScaledWorthUptoRow : OpenClaim := { program := "ytaiopbdbnellhaa", sum := "55c99403264030ab84b6e11b2b54b412321606fed9e3089ec132f386473084f5", func := "loop.example/g00914/laws.FnExactScaledWorth", spec := "fnExactScaledWorth", apart := false, narrowed := true }
def FnExactScaledWorthUptoSaid : Prop := fnExactScaledWorthUptoRow.holds Try.pinned (OpenSpec.upto fnExactScaledWorthSpec)

/-- 'laws.FnExactComparePlans', WHERE WHAT IT READS IS OF BULK AT MOST 1048576: true; the input reads as it did. -/
def fnExactComparePlansUptoRow : OpenClaim := { program := "ytaiopbdbnellhaa", sum := "55c99403264030ab84b6e11b2b54b412321606fed9e3089ec132f386473084f5", func := "loop.example/g00914/laws.FnExactComparePlans", spec := "fnExactComparePlans", apart := false, narrowed := true }
def FnExactComparePlansUptoSaid : Prop := fnExactComparePlansUptoRow.holds Try.pinned (OpenSpec.upto fnExactComparePlansSpec)

/-- 'laws.FnExactCountPlans', WHERE WHAT IT READS IS OF BULK AT MOST 1048576: true; the input reads as it did. -/
def fnExactCountPlansUptoRow : OpenClaim := { program := "ytaiopbdbnellhaa", sum := "55c99403264030ab84b6e11b2b54b412321606fed9e3089ec132f386473084f5", func := "loop.example/g00914/laws.FnExactCountPlans", spec := "fnExactCountPlans", unfollowed := true, recurses := true, apart := false, narrowed := true }
def FnExactCountPlansUptoSaid : Prop := fnExactCountPlansUptoRow.holds Try.pinned (OpenSpec.upto fnExactCountPlansSpec)

/-- 'laws.FnExactNodesOf', WHERE WHAT IT READS IS OF BULK AT MOST 1048576: true; the input reads as it did. -/
def fnExactNodesOfUptoRow : OpenClaim := { program := "ytaiopbdbnellhaa", sum := "55c99403264030ab84b6e11b2b54b412321606fed9e3089ec132f386473084f5", func := "loop.example/g00914/laws.FnExactNodesOf", spec := "fnExactNodesOf", recurses := true, apart := false, narrowed := true }
def FnExactNodesOfUptoSaid : Prop := fnExactNodesOfUptoRow.holds Try.pinned (OpenSpec.upto fnExactNodesOfSpec)

/-- 'laws.FnExactSearchPlan', WHERE WHAT IT READS IS OF BULK AT MOST 1048576: true; the input reads as it did. -/
def fnExactSearchPlanUptoRow : OpenClaim := { program := "ytaiopbdbnellhaa", sum := "55c99403264030ab84b6e11b2b54b412321606fed9e3089ec132f386473084f5", func := "loop.example/g00914/laws.FnExactSearchPlan", spec := "fnExactSearchPlan", recurses := true, apart := false, narrowed := true }
def FnExactSearchPlanUptoSaid : Prop := fnExactSearchPlanUptoRow.holds Try.pinned (OpenSpec.upto fnExactSearchPlanSpec)

/-- 'laws.FnExactBestPlan', WHERE WHAT IT READS IS OF BULK AT MOST 1048576: true; the input reads as it did. -/
def fnExactBestPlanUptoRow : OpenClaim := { program := "ytaiopbdbnellhaa", sum := "55c99403264030ab84b6e11b2b54b412321606fed9e3089ec132f386473084f5", func := "loop.example/g00914/laws.FnExactBestPlan", spec := "fnExactBestPlan", recurses := true, apart := false, narrowed := true }
def FnExactBestPlanUptoSaid : Prop := fnExactBestPlanUptoRow.holds Try.pinned (OpenSpec.upto fnExactBestPlanSpec)

/-- 'laws.FnExactIsBest', WHERE WHAT IT READS IS OF BULK AT MOST 1048576: true; the input reads as it did. -/
def fnExactIsBestUptoRow : OpenClaim := { program := "ytaiopbdbnellhaa", sum := "55c99403264030ab84b6e11b2b54b412321606fed9e3089ec132f386473084f5", func := "loop.example/g00914/laws.FnExactIsBest", spec := "fnExactIsBest", recurses := true, apart := false, narrowed := true }
def FnExactIsBestUptoSaid : Prop := fnExactIsBestUptoRow.holds Try.pinned (OpenSpec.upto fnExactIsBestSpec)

/-- 'laws.FnPlanBound', WHERE WHAT IT READS IS OF BULK AT MOST 1048576: true; the input reads as it did. -/
def fnPlanBoundUptoRow : OpenClaim := { program := "ytaiopbdbnellhaa", sum := "55c99403264030ab84b6e11b2b54b412321606fed9e3089ec132f386473084f5", func := "loop.example/g00914/laws.FnPlanBound", spec := "fnPlanBound", recurses := true, apart := false, narrowed := true }
def FnPlanBoundUptoSaid : Prop := fnPlanBoundUptoRow.holds Try.pinned (OpenSpec.upto fnPlanBoundSpec)

end Rows
end Go.Proofs.Ytaiopbdbnellhaa
