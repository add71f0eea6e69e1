/-
  No cell of these rows narrows 'for every input' (looked for: loops, veiled, ifaces, maps, wideKeys, modest, calm, conditions, laid).
  DERIVED. THE GIVEN ROWS OF THIS SEAT. 7 by the template 'for every input the law returns true; each argument reads behind the call as it read before'; 0 by the template 'total and deterministic' (their statements: YtjidcahgobilhaaTotals.lean).
  GIVEN WITH THE SEED: the statements are not yours to turn. If you find one false, say at which input.
  Laid BY PROGRAM, IN A SANDBOX (cutbox-rows.mjs): the forced cells as the released guide's own fill.sh prints them over the translation a29322fbb8612b45… (all of the seat's roots in one cut). By AI agents, Wed Nov 11 2026. No macro, syntax, notation, axiom, sorry.
-/
import Derived.Test.YtjidcahgobilhaaChecked
import GoSem.Claim
import GoSem.ClaimJoined
import GoSem.ClaimMapViews
import Derived.JoinedTies
import Derived.KernelRfl
namespace Go.Proofs.Ytjidcahgobilhaa
/- THE CELL 'sum', in the pinned program and in every row, IS THE sha256 OF THE DUMP (.gsa) THAT YtjidcahgobilhaaProg.lean LOADS. Nothing in Lean hashes anything: it is a label: what it is worth is what the hold of that sum in a sandbox is worth. -/
noncomputable def Try.pinned : Pinned := { name := "ytjidcahgobilhaa", sum := "a29322fbb8612b450a05324cca78b2d79aba4b631deed80ac60aa082f5b2e795", checked := Try.checked }
namespace Rows
def none {H : Type} : Left H := { results := [], args := [] }

/-- 'laws.FnExactIsWanted': WHATEVER THE INPUT: true; the input reads as it did. -/
def fnExactIsWantedSpec : ChangeSpec := { name := "fnExactIsWanted", fn := fun _ => fun
  | [d] => { results := [.lit (.bool true)], args := [d] }
  | _ => none }
def fnExactIsWantedRow : OpenClaim := { program := "ytjidcahgobilhaa", sum := "a29322fbb8612b450a05324cca78b2d79aba4b631deed80ac60aa082f5b2e795", func := "loop.example/g00914/laws.FnExactIsWanted", spec := "fnExactIsWanted", apart := false }
def FnExactIsWantedSaid : Prop := fnExactIsWantedRow.holds Try.pinned (OpenSpec.ofChange fnExactIsWantedSpec)

/-- ITS FALSE NEIGHBOUR: 'it returns false'. Refute it at one input. -/
def fnExactIsWantedWrong : ChangeSpec := { name := "fnExactIsWanted", fn := fun _ => fun
  | [d] => { results := [.lit (.bool false)], args := [d] }
  | _ => none }
def FnExactIsWantedWrongFalsely : Prop := fnExactIsWantedRow.holds Try.pinned (OpenSpec.ofChange fnExactIsWantedWrong)

/-- 'laws.FnExactGapOf': WHATEVER THE INPUT: true; the input reads as it did. -/
def fnExactGapOfSpec : ChangeSpec := { name := "fnExactGapOf", fn := fun _ => fun
  | [d1, d2] => { results := [.lit (.bool true)], args := [d1, d2] }
  | _ => none }
def fnExactGapOfRow : OpenClaim := { program := "ytjidcahgobilhaa", sum := "a29322fbb8612b450a05324cca78b2d79aba4b631deed80ac60aa082f5b2e795", func := "loop.example/g00914/laws.FnExactGapOf", spec := "fnExactGapOf", apart := false }
def FnExactGapOfSaid : Prop := fnExactGapOfRow.holds Try.pinned (OpenSpec.ofChange fnExactGapOfSpec)

/-- ITS FALSE NEIGHBOUR: 'it returns false'. Refute it at one input. -/
def fnExactGapOfWrong : ChangeSpec := { name := "fnExactGapOf", fn := fun _ => fun
  | [d1, d2] => { results := [.lit (.bool false)], args := [d1, d2] }
  | _ => none }
def FnExactGapOfWrongFalsely : Prop := fnExactGapOfRow.holds Try.pinned (OpenSpec.ofChange fnExactGapOfWrong)

/-- 'laws.FnExactAreBins': WHATEVER THE INPUT: true; the input reads as it did. -/
def fnExactAreBinsSpec : ChangeSpec := { name := "fnExactAreBins", fn := fun _ => fun
  | [d] => { results := [.lit (.bool true)], args := [d] }
  | _ => none }
def fnExactAreBinsRow : OpenClaim := { program := "ytjidcahgobilhaa", sum := "a29322fbb8612b450a05324cca78b2d79aba4b631deed80ac60aa082f5b2e795", func := "loop.example/g00914/laws.FnExactAreBins", spec := "fnExactAreBins", apart := false }
def FnExactAreBinsSaid : Prop := fnExactAreBinsRow.holds Try.pinned (OpenSpec.ofChange fnExactAreBinsSpec)

/-- ITS FALSE NEIGHBOUR: 'it returns false'. Refute it at one input. -/
def fnExactAreBinsWrong : ChangeSpec := { name := "fnExactAreBins", fn := fun _ => fun
  | [d] => { results := [.lit (.bool false)], args := [d] }
  | _ => none }
def FnExactAreBinsWrongFalsely : Prop := fnExactAreBinsRow.holds Try.pinned (OpenSpec.ofChange fnExactAreBinsWrong)

/-- 'laws.FnExactBlendSums': WHATEVER THE INPUT: true; the input reads as it did. -/
def fnExactBlendSumsSpec : ChangeSpec := { name := "fnExactBlendSums", fn := fun _ => fun
  | [d1, d2] => { results := [.lit (.bool true)], args := [d1, d2] }
  | _ => none }
def fnExactBlendSumsRow : OpenClaim := { program := "ytjidcahgobilhaa", sum := "a29322fbb8612b450a05324cca78b2d79aba4b631deed80ac60aa082f5b2e795", func := "loop.example/g00914/laws.FnExactBlendSums", spec := "fnExactBlendSums", apart := false }
def FnExactBlendSumsSaid : Prop := fnExactBlendSumsRow.holds Try.pinned (OpenSpec.ofChange fnExactBlendSumsSpec)

/-- ITS FALSE NEIGHBOUR: 'it returns false'. Refute it at one input. -/
def fnExactBlendSumsWrong : ChangeSpec := { name := "fnExactBlendSums", fn := fun _ => fun
  | [d1, d2] => { results := [.lit (.bool false)], args := [d1, d2] }
  | _ => none }
def FnExactBlendSumsWrongFalsely : Prop := fnExactBlendSumsRow.holds Try.pinned (OpenSpec.ofChange fnExactBlendSumsWrong)

/-- 'laws.FnExactMeetsWanted': WHATEVER THE INPUT: true; the input reads as it did. -/
def fnExactMeetsWantedSpec : ChangeSpec := { name := "fnExactMeetsWanted", fn := fun _ => fun
  | [d1, d2, d3] => { results := [.lit (.bool true)], args := [d1, d2, d3] }
  | _ => none }
def fnExactMeetsWantedRow : OpenClaim := { program := "ytjidcahgobilhaa", sum := "a29322fbb8612b450a05324cca78b2d79aba4b631deed80ac60aa082f5b2e795", func := "loop.example/g00914/laws.FnExactMeetsWanted", spec := "fnExactMeetsWanted", apart := false }
def FnExactMeetsWantedSaid : Prop := fnExactMeetsWantedRow.holds Try.pinned (OpenSpec.ofChange fnExactMeetsWantedSpec)

/-- ITS FALSE NEIGHBOUR: 'it returns false'. Refute it at one input. -/
def fnExactMeetsWantedWrong : ChangeSpec := { name := "fnExactMeetsWanted", fn := fun _ => fun
  | [d1, d2, d3] => { results := [.lit (.bool false)], args := [d1, d2, d3] }
  | _ => none }
def FnExactMeetsWantedWrongFalsely : Prop := fnExactMeetsWantedRow.holds Try.pinned (OpenSpec.ofChange fnExactMeetsWantedWrong)

/-- 'laws.FnExactLeastImpurity': WHATEVER THE INPUT: true; the input reads as it did. -/
def fnExactLeastImpuritySpec : ChangeSpec := { name := "fnExactLeastImpurity", fn := fun _ => fun
  | [d1, d2] => { results := [.lit (.bool true)], args := [d1, d2] }
  | _ => none }
def fnExactLeastImpurityRow : OpenClaim := { program := "ytjidcahgobilhaa", sum := "a29322fbb8612b450a05324cca78b2d79aba4b631deed80ac60aa082f5b2e795", func := "loop.example/g00914/laws.FnExactLeastImpurity", spec := "fnExactLeastImpurity", unfollowed := true, recurses := true, apart := false }
def FnExactLeastImpuritySaid : Prop := fnExactLeastImpurityRow.holds Try.pinned (OpenSpec.ofChange fnExactLeastImpuritySpec)

/-- ITS FALSE NEIGHBOUR: 'it returns false'. Refute it at one input. -/
def fnExactLeastImpurityWrong : ChangeSpec := { name := "fnExactLeastImpurity", fn := fun _ => fun
  | [d1, d2] => { results := [.lit (.bool false)], args := [d1, d2] }
  | _ => none }
def FnExactLeastImpurityWrongFalsely : Prop := fnExactLeastImpurityRow.holds Try.pinned (OpenSpec.ofChange fnExactLeastImpurityWrong)

/-- 'laws.FnExactGradeRange': WHATEVER THE INPUT: true; the input reads as it did. -/
def fnExactGradeRangeSpec : ChangeSpec := { name := "fnExactGradeRange", fn := fun _ => fun
  | [d1, d2] => { results := [.lit (.bool true)], args := [d1, d2] }
  | _ => none }
def fnExactGradeRangeRow : OpenClaim := { program := "ytjidcahgobilhaa", sum := "a29322fbb8612b450a05324cca78b2d79aba4b631deed80ac60aa082f5b2e795", func := "loop.example/g00914/laws.FnExactGradeRange", spec := "fnExactGradeRange", unfollowed := true, recurses := true, apart := false }
def FnExactGradeRangeSaid : Prop := fnExactGradeRangeRow.holds Try.pinned (OpenSpec.ofChange fnExactGradeRangeSpec)

/-- ITS FALSE NEIGHBOUR: 'it returns false'. Refute it at one input. -/
def fnExactGradeRangeWrong : ChangeSpec := { name := "fnExactGradeRange", fn := fun _ => fun
  | [d1, d2] => { results := [.lit (.bool false)], args := [d1, d2] }
  | _ => none }
def FnExactGradeRangeWrongFalsely : Prop := fnExactGradeRangeRow.holds Try.pinned (OpenSpec.ofChange fnExactGradeRangeWrong)

/- THE SECOND FORM. 'bulk': how many values and letters a reading holds, each counted each time it is reached (what is shared counts as often as it is met; a slice's spare places count too). A statement '..UptoSaid' is the law's where the arguments, and the package variables that the reading takes, are together of bulk at most 1048576: NARROWER than '..Said'. Prove '..Said' where nothing that the law and all that it calls make is longer than what came in: it says more and counts as full. Else prove '..UptoSaid'. A law counts once. -/
mutual
def uptoBulk {H : Type} : DataW H → Nat
  | .lit (.string bytes) => bytes.length + 1
  | .lit _ => 1
  | .nil => 1
  | .ptr d => uptoBulk d + 1
  | .slice elems spare => uptoBulkAll elems + uptoBulkAll spare + 1
  | .agg parts => uptoBulkAll parts + 1
  | .iface _ d => uptoBulk d + 1
  | .map entries => uptoBulkEntries entries + 1
  | .held _ => 1
def uptoBulkAll {H : Type} : List (DataW H) → Nat
  | [] => 0
  | d :: r => uptoBulk d + uptoBulkAll r
def uptoBulkEntries {H : Type} : List (Lit × DataW H) → Nat
  | [] => 0
  | x :: r => uptoBulkEntry x + uptoBulkEntries r
def uptoBulkEntry {H : Type} : Lit × DataW H → Nat
  | (.string bytes, d) => bytes.length + uptoBulk d + 1
  | (_, d) => uptoBulk d + 1
 end
def uptoSmall : (H : Type) → List (DataW H) → Bool := fun _ ds => decide (uptoBulkAll ds ≤ 1048576)
def OpenSpec.upto (s : _root_.Go.ChangeSpec) : _root_.Go.OpenSpec := { _root_.Go.OpenSpec.ofChange s with cond := some uptoSmall }

/-- 'laws.FnExactIsWanted', WHERE WHAT IT READS IS OF BULK AT MOST 1048576: true; the input reads as it did. -/
def fnExactIsWantedUptoRow : OpenClaim := { program := "ytjidcahgobilhaa", sum := "a29322fbb8612b450a05324cca78b2d79aba4b631deed80ac60aa082f5b2e795", func := "loop.example/g00914/laws.FnExactIsWanted", spec := "fnExactIsWanted", apart := false, narrowed := true }
def FnExactIsWantedUptoSaid : Prop := fnExactIsWantedUptoRow.holds Try.pinned (OpenSpec.upto fnExactIsWantedSpec)

/-- 'laws.FnExactGapOf', WHERE WHAT IT READS IS OF BULK AT MOST 1048576: true; the input reads as it did. -/
def fnExactGapOfUptoRow : OpenClaim := { program := "ytjidcahgobilhaa", sum := "a29322fbb8612b450a05324cca78b2d79aba4b631deed80ac60aa082f5b2e795", func := "loop.example/g00914/laws.FnExactGapOf", spec := "fnExactGapOf", apart := false, narrowed := true }
def FnExactGapOfUptoSaid : Prop := fnExactGapOfUptoRow.holds Try.pinned (OpenSpec.upto fnExactGapOfSpec)

/-- 'laws.FnExactAreBins', WHERE WHAT IT READS IS OF BULK AT MOST 1048576: true; the input reads as it did. -/
def fnExactAreBinsUptoRow : OpenClaim := { program := "ytjidcahgobilhaa", sum := "a29322fbb8612b450a05324cca78b2d79aba4b631deed80ac60aa082f5b2e795", func := "loop.example/g00914/laws.FnExactAreBins", spec := "fnExactAreBins", apart := false, narrowed := true }
def FnExactAreBinsUptoSaid : Prop := fnExactAreBinsUptoRow.holds Try.pinned (OpenSpec.upto fnExactAreBinsSpec)

/-- 'laws.FnExactBlendSums', WHERE WHAT IT READS IS OF BULK AT MOST 1048576: true; the input reads as it did. -/
def fnExactBlendSumsUptoRow : OpenClaim := { program := "ytjidcahgobilhaa", sum := "a29322fbb8612b450a05324cca78b2d79aba4b631deed80ac60aa082f5b2e795", func := "loop.example/g00914/laws.FnExactBlendSums", spec := "fnExactBlendSums", apart := false, narrowed := true }
def FnExactBlendSumsUptoSaid : Prop := fnExactBlendSumsUptoRow.holds Try.pinned (OpenSpec.upto fnExactBlendSumsSpec)

/-- 'laws.FnExactMeetsWanted', WHERE WHAT IT READS IS OF BULK AT MOST 1048576: true; the input reads as it did. -/
def fnExactMeetsWantedUptoRow : OpenClaim := { program := "ytjidcahgobilhaa", sum := "a29322fbb8612b450a05324cca78b2d79aba4b631deed80ac60aa082f5b2e795", func := "loop.example/g00914/laws.FnExactMeetsWanted", spec := "fnExactMeetsWanted", apart := false, narrowed := true }
def FnExactMeetsWantedUptoSaid : Prop := fnExactMeetsWantedUptoRow.holds Try.pinned (OpenSpec.upto fnExactMeetsWantedSpec)

/-- 'laws.FnExactLeastImpurity', WHERE WHAT IT READS IS OF BULK AT MOST 1048576: true; the input reads as it did. -/
def fnExactLeastImpurityUptoRow : OpenClaim := { program := "ytjidcahgobilhaa", sum := "a29322fbb8612b450a05324cca78b2d79aba4b631deed80ac60aa082f5b2e795", func := "loop.example/g00914/laws.FnExactLeastImpurity", spec := "fnExactLeastImpurity", unfollowed := true, recurses := true, apart := false, narrowed := true }
def FnExactLeastImpurityUptoSaid : Prop := fnExactLeastImpurityUptoRow.holds Try.pinned (OpenSpec.upto fnExactLeastImpuritySpec)

/-- 'laws.FnExactGradeRange', WHERE WHAT IT READS IS OF BULK AT MOST 1048576: true; the input reads as it did. -/
def fnExactGradeRangeUptoRow : OpenClaim := { program := "ytjidcahgobilhaa", sum := "a29322fbb8612b450a05324cca78b2d79aba4b631deed80ac60aa082f5b2e795", func := "loop.example/g00914/laws.FnExactGradeRange", spec := "fnExactGradeRange", unfollowed := true, recurses := true, apart := false, narrowed := true }
def FnExactGradeRangeUptoSaid : Prop := fnExactGradeRangeUptoRow.holds Try.pinned (OpenSpec.upto fnExactGradeRangeSpec)

end Rows
end Go.Proofs.Ytjidcahgobilhaa
