/-
  No cell of these rows narrows 'for every input' (looked for: loops, veiled, ifaces, maps, wideKeys, modest, calm, conditions, laid).
  DERIVED. THE GIVEN ROWS OF THIS SEAT. 15 by the template 'for every input the law returns true; each argument reads behind the call as it read before'; 0 by the template 'total and deterministic' (their statements: YtipkjdfnoonpcaaTotals.lean).
  GIVEN WITH THE SEED: the statements are not yours to turn. If you find one false, say at which input.
  Laid BY PROGRAM, IN A SANDBOX (cutbox-rows.mjs): the forced cells as the released guide's own fill.sh prints them over the translation 8e75b18f080959e5… (all of the seat's roots in one cut). By AI agents, Wed Nov 11 2026. No macro, syntax, notation, axiom, sorry.
-/
import Derived.Test.YtipkjdfnoonpcaaChecked
import GoSem.Claim
import GoSem.ClaimJoined
import GoSem.ClaimMapViews
import Derived.JoinedTies
import Derived.KernelRfl
namespace Go.Proofs.Ytipkjdfnoonpcaa
/- THE CELL 'sum', in the pinned program and in every row, IS THE sha256 OF THE DUMP (.gsa) THAT YtipkjdfnoonpcaaProg.lean LOADS. Nothing in Lean hashes anything: it is a label: what it is worth is what the hold of that sum in a sandbox is worth. -/
noncomputable def Try.pinned : Pinned := { name := "ytipkjdfnoonpcaa", sum := "8e75b18f080959e516db237247d3ea10c5505d7cbc1272835200f3db59c8439b", checked := Try.checked }
namespace Rows
def none {H : Type} : Left H := { results := [], args := [] }

/-- 'sightbenchlaw07.FindGrasps': WHATEVER THE INPUT: true; the input reads as it did. -/
def findGraspsSpec : ChangeSpec := { name := "findGrasps", fn := fun _ => fun
  | [d1, d2, d3, d4] => { results := [.lit (.bool true)], args := [d1, d2, d3, d4] }
  | _ => none }
def findGraspsRow : OpenClaim := { program := "ytipkjdfnoonpcaa", sum := "8e75b18f080959e516db237247d3ea10c5505d7cbc1272835200f3db59c8439b", func := "sightbench/sightbenchlaw07.FindGrasps", spec := "findGrasps", plainKeys := false, apart := false }
def FindGraspsSaid : Prop := findGraspsRow.holds Try.pinned (OpenSpec.ofChange findGraspsSpec)

/-- ITS FALSE NEIGHBOUR: 'it returns false'. Refute it at one input. -/
def findGraspsWrong : ChangeSpec := { name := "findGrasps", fn := fun _ => fun
  | [d1, d2, d3, d4] => { results := [.lit (.bool false)], args := [d1, d2, d3, d4] }
  | _ => none }
def FindGraspsWrongFalsely : Prop := findGraspsRow.holds Try.pinned (OpenSpec.ofChange findGraspsWrong)

/-- 'sightbenchlaw07.FindPoses': WHATEVER THE INPUT: true; the input reads as it did. -/
def findPosesSpec : ChangeSpec := { name := "findPoses", fn := fun _ => fun
  | [d1, d2, d3, d4, d5, d6] => { results := [.lit (.bool true)], args := [d1, d2, d3, d4, d5, d6] }
  | _ => none }
def findPosesRow : OpenClaim := { program := "ytipkjdfnoonpcaa", sum := "8e75b18f080959e516db237247d3ea10c5505d7cbc1272835200f3db59c8439b", func := "sightbench/sightbenchlaw07.FindPoses", spec := "findPoses", plainKeys := false, apart := false }
def FindPosesSaid : Prop := findPosesRow.holds Try.pinned (OpenSpec.ofChange findPosesSpec)

/-- ITS FALSE NEIGHBOUR: 'it returns false'. Refute it at one input. -/
def findPosesWrong : ChangeSpec := { name := "findPoses", fn := fun _ => fun
  | [d1, d2, d3, d4, d5, d6] => { results := [.lit (.bool false)], args := [d1, d2, d3, d4, d5, d6] }
  | _ => none }
def FindPosesWrongFalsely : Prop := findPosesRow.holds Try.pinned (OpenSpec.ofChange findPosesWrong)

/-- 'sightbenchlaw07.FindChecks': WHATEVER THE INPUT: true; the input reads as it did. -/
def findChecksSpec : ChangeSpec := { name := "findChecks", fn := fun _ => fun
  | [d1, d2, d3, d4] => { results := [.lit (.bool true)], args := [d1, d2, d3, d4] }
  | _ => none }
def findChecksRow : OpenClaim := { program := "ytipkjdfnoonpcaa", sum := "8e75b18f080959e516db237247d3ea10c5505d7cbc1272835200f3db59c8439b", func := "sightbench/sightbenchlaw07.FindChecks", spec := "findChecks", unfollowed := true, recurses := true, plainKeys := false, apart := false }
def FindChecksSaid : Prop := findChecksRow.holds Try.pinned (OpenSpec.ofChange findChecksSpec)

/-- ITS FALSE NEIGHBOUR: 'it returns false'. Refute it at one input. -/
def findChecksWrong : ChangeSpec := { name := "findChecks", fn := fun _ => fun
  | [d1, d2, d3, d4] => { results := [.lit (.bool false)], args := [d1, d2, d3, d4] }
  | _ => none }
def FindChecksWrongFalsely : Prop := findChecksRow.holds Try.pinned (OpenSpec.ofChange findChecksWrong)

/-- 'sightbenchlaw07.FindSearches': WHATEVER THE INPUT: true; the input reads as it did. -/
def findSearchesSpec : ChangeSpec := { name := "findSearches", fn := fun _ => fun
  | [d1, d2, d3] => { results := [.lit (.bool true)], args := [d1, d2, d3] }
  | _ => none }
def findSearchesRow : OpenClaim := { program := "ytipkjdfnoonpcaa", sum := "8e75b18f080959e516db237247d3ea10c5505d7cbc1272835200f3db59c8439b", func := "sightbench/sightbenchlaw07.FindSearches", spec := "findSearches", unfollowed := true, recurses := true, plainKeys := false, apart := false }
def FindSearchesSaid : Prop := findSearchesRow.holds Try.pinned (OpenSpec.ofChange findSearchesSpec)

/-- ITS FALSE NEIGHBOUR: 'it returns false'. Refute it at one input. -/
def findSearchesWrong : ChangeSpec := { name := "findSearches", fn := fun _ => fun
  | [d1, d2, d3] => { results := [.lit (.bool false)], args := [d1, d2, d3] }
  | _ => none }
def FindSearchesWrongFalsely : Prop := findSearchesRow.holds Try.pinned (OpenSpec.ofChange findSearchesWrong)

/-- 'sightbenchlaw07.FindExamples': WHATEVER THE INPUT: true; the input reads as it did. -/
def findExamplesSpec : ChangeSpec := { name := "findExamples", fn := fun _ => fun
  | [] => { results := [.lit (.bool true)], args := [] }
  | _ => none }
def findExamplesRow : OpenClaim := { program := "ytipkjdfnoonpcaa", sum := "8e75b18f080959e516db237247d3ea10c5505d7cbc1272835200f3db59c8439b", func := "sightbench/sightbenchlaw07.FindExamples", spec := "findExamples", unfollowed := true, recurses := true, plainKeys := false, apart := false }
def FindExamplesSaid : Prop := findExamplesRow.holds Try.pinned (OpenSpec.ofChange findExamplesSpec)

/-- ITS FALSE NEIGHBOUR: 'it returns false'. Refute it at one input. -/
def findExamplesWrong : ChangeSpec := { name := "findExamples", fn := fun _ => fun
  | [] => { results := [.lit (.bool false)], args := [] }
  | _ => none }
def FindExamplesWrongFalsely : Prop := findExamplesRow.holds Try.pinned (OpenSpec.ofChange findExamplesWrong)

/-- 'sightbenchlaw07.FindBelow': WHATEVER THE INPUT: true; the input reads as it did. -/
def findBelowSpec : ChangeSpec := { name := "findBelow", fn := fun _ => fun
  | [d1, d2, d3, d4, d5, d6, d7] => { results := [.lit (.bool true)], args := [d1, d2, d3, d4, d5, d6, d7] }
  | _ => none }
def findBelowRow : OpenClaim := { program := "ytipkjdfnoonpcaa", sum := "8e75b18f080959e516db237247d3ea10c5505d7cbc1272835200f3db59c8439b", func := "sightbench/sightbenchlaw07.FindBelow", spec := "findBelow", unfollowed := true, recurses := true, plainKeys := false, apart := false }
def FindBelowSaid : Prop := findBelowRow.holds Try.pinned (OpenSpec.ofChange findBelowSpec)

/-- ITS FALSE NEIGHBOUR: 'it returns false'. Refute it at one input. -/
def findBelowWrong : ChangeSpec := { name := "findBelow", fn := fun _ => fun
  | [d1, d2, d3, d4, d5, d6, d7] => { results := [.lit (.bool false)], args := [d1, d2, d3, d4, d5, d6, d7] }
  | _ => none }
def FindBelowWrongFalsely : Prop := findBelowRow.holds Try.pinned (OpenSpec.ofChange findBelowWrong)

/-- 'sightbenchlaw07.FindComplete': WHATEVER THE INPUT: true; the input reads as it did. -/
def findCompleteSpec : ChangeSpec := { name := "findComplete", fn := fun _ => fun
  | [d1, d2, d3] => { results := [.lit (.bool true)], args := [d1, d2, d3] }
  | _ => none }
def findCompleteRow : OpenClaim := { program := "ytipkjdfnoonpcaa", sum := "8e75b18f080959e516db237247d3ea10c5505d7cbc1272835200f3db59c8439b", func := "sightbench/sightbenchlaw07.FindComplete", spec := "findComplete", unfollowed := true, recurses := true, plainKeys := false, apart := false }
def FindCompleteSaid : Prop := findCompleteRow.holds Try.pinned (OpenSpec.ofChange findCompleteSpec)

/-- ITS FALSE NEIGHBOUR: 'it returns false'. Refute it at one input. -/
def findCompleteWrong : ChangeSpec := { name := "findComplete", fn := fun _ => fun
  | [d1, d2, d3] => { results := [.lit (.bool false)], args := [d1, d2, d3] }
  | _ => none }
def FindCompleteWrongFalsely : Prop := findCompleteRow.holds Try.pinned (OpenSpec.ofChange findCompleteWrong)

/-- 'sightbenchlaw07.FindProved': WHATEVER THE INPUT: true; the input reads as it did. -/
def findProvedSpec : ChangeSpec := { name := "findProved", fn := fun _ => fun
  | [d1, d2, d3, d4] => { results := [.lit (.bool true)], args := [d1, d2, d3, d4] }
  | _ => none }
def findProvedRow : OpenClaim := { program := "ytipkjdfnoonpcaa", sum := "8e75b18f080959e516db237247d3ea10c5505d7cbc1272835200f3db59c8439b", func := "sightbench/sightbenchlaw07.FindProved", spec := "findProved", unfollowed := true, recurses := true, plainKeys := false, apart := false }
def FindProvedSaid : Prop := findProvedRow.holds Try.pinned (OpenSpec.ofChange findProvedSpec)

/-- ITS FALSE NEIGHBOUR: 'it returns false'. Refute it at one input. -/
def findProvedWrong : ChangeSpec := { name := "findProved", fn := fun _ => fun
  | [d1, d2, d3, d4] => { results := [.lit (.bool false)], args := [d1, d2, d3, d4] }
  | _ => none }
def FindProvedWrongFalsely : Prop := findProvedRow.holds Try.pinned (OpenSpec.ofChange findProvedWrong)

/-- 'sightbenchlaw07.FindGrows': WHATEVER THE INPUT: true; the input reads as it did. -/
def findGrowsSpec : ChangeSpec := { name := "findGrows", fn := fun _ => fun
  | [d1, d2, d3, d4] => { results := [.lit (.bool true)], args := [d1, d2, d3, d4] }
  | _ => none }
def findGrowsRow : OpenClaim := { program := "ytipkjdfnoonpcaa", sum := "8e75b18f080959e516db237247d3ea10c5505d7cbc1272835200f3db59c8439b", func := "sightbench/sightbenchlaw07.FindGrows", spec := "findGrows", unfollowed := true, recurses := true, plainKeys := false, apart := false }
def FindGrowsSaid : Prop := findGrowsRow.holds Try.pinned (OpenSpec.ofChange findGrowsSpec)

/-- ITS FALSE NEIGHBOUR: 'it returns false'. Refute it at one input. -/
def findGrowsWrong : ChangeSpec := { name := "findGrows", fn := fun _ => fun
  | [d1, d2, d3, d4] => { results := [.lit (.bool false)], args := [d1, d2, d3, d4] }
  | _ => none }
def FindGrowsWrongFalsely : Prop := findGrowsRow.holds Try.pinned (OpenSpec.ofChange findGrowsWrong)

/-- 'sightbenchlaw07.FindCut': WHATEVER THE INPUT: true; the input reads as it did. -/
def findCutSpec : ChangeSpec := { name := "findCut", fn := fun _ => fun
  | [d1, d2, d3, d4, d5, d6] => { results := [.lit (.bool true)], args := [d1, d2, d3, d4, d5, d6] }
  | _ => none }
def findCutRow : OpenClaim := { program := "ytipkjdfnoonpcaa", sum := "8e75b18f080959e516db237247d3ea10c5505d7cbc1272835200f3db59c8439b", func := "sightbench/sightbenchlaw07.FindCut", spec := "findCut", unfollowed := true, recurses := true, plainKeys := false, apart := false }
def FindCutSaid : Prop := findCutRow.holds Try.pinned (OpenSpec.ofChange findCutSpec)

/-- ITS FALSE NEIGHBOUR: 'it returns false'. Refute it at one input. -/
def findCutWrong : ChangeSpec := { name := "findCut", fn := fun _ => fun
  | [d1, d2, d3, d4, d5, d6] => { results := [.lit (.bool false)], args := [d1, d2, d3, d4, d5, d6] }
  | _ => none }
def FindCutWrongFalsely : Prop := findCutRow.holds Try.pinned (OpenSpec.ofChange findCutWrong)

/-- 'sightbenchlaw07.FindHolds': WHATEVER THE INPUT: true; the input reads as it did. -/
def findHoldsSpec : ChangeSpec := { name := "findHolds", fn := fun _ => fun
  | [d1, d2, d3] => { results := [.lit (.bool true)], args := [d1, d2, d3] }
  | _ => none }
def findHoldsRow : OpenClaim := { program := "ytipkjdfnoonpcaa", sum := "8e75b18f080959e516db237247d3ea10c5505d7cbc1272835200f3db59c8439b", func := "sightbench/sightbenchlaw07.FindHolds", spec := "findHolds", unfollowed := true, recurses := true, plainKeys := false, apart := false }
def FindHoldsSaid : Prop := findHoldsRow.holds Try.pinned (OpenSpec.ofChange findHoldsSpec)

/-- ITS FALSE NEIGHBOUR: 'it returns false'. Refute it at one input. -/
def findHoldsWrong : ChangeSpec := { name := "findHolds", fn := fun _ => fun
  | [d1, d2, d3] => { results := [.lit (.bool false)], args := [d1, d2, d3] }
  | _ => none }
def FindHoldsWrongFalsely : Prop := findHoldsRow.holds Try.pinned (OpenSpec.ofChange findHoldsWrong)

/-- 'sightbenchlaw07.FindAll': WHATEVER THE INPUT: true; the input reads as it did. -/
def findAllSpec : ChangeSpec := { name := "findAll", fn := fun _ => fun
  | [d1, d2, d3, d4] => { results := [.lit (.bool true)], args := [d1, d2, d3, d4] }
  | _ => none }
def findAllRow : OpenClaim := { program := "ytipkjdfnoonpcaa", sum := "8e75b18f080959e516db237247d3ea10c5505d7cbc1272835200f3db59c8439b", func := "sightbench/sightbenchlaw07.FindAll", spec := "findAll", unfollowed := true, recurses := true, plainKeys := false, apart := false }
def FindAllSaid : Prop := findAllRow.holds Try.pinned (OpenSpec.ofChange findAllSpec)

/-- ITS FALSE NEIGHBOUR: 'it returns false'. Refute it at one input. -/
def findAllWrong : ChangeSpec := { name := "findAll", fn := fun _ => fun
  | [d1, d2, d3, d4] => { results := [.lit (.bool false)], args := [d1, d2, d3, d4] }
  | _ => none }
def FindAllWrongFalsely : Prop := findAllRow.holds Try.pinned (OpenSpec.ofChange findAllWrong)

/-- 'sightbenchlaw07.FindLoose': WHATEVER THE INPUT: true; the input reads as it did. -/
def findLooseSpec : ChangeSpec := { name := "findLoose", fn := fun _ => fun
  | [d1, d2, d3, d4] => { results := [.lit (.bool true)], args := [d1, d2, d3, d4] }
  | _ => none }
def findLooseRow : OpenClaim := { program := "ytipkjdfnoonpcaa", sum := "8e75b18f080959e516db237247d3ea10c5505d7cbc1272835200f3db59c8439b", func := "sightbench/sightbenchlaw07.FindLoose", spec := "findLoose", unfollowed := true, recurses := true, plainKeys := false, apart := false }
def FindLooseSaid : Prop := findLooseRow.holds Try.pinned (OpenSpec.ofChange findLooseSpec)

/-- ITS FALSE NEIGHBOUR: 'it returns false'. Refute it at one input. -/
def findLooseWrong : ChangeSpec := { name := "findLoose", fn := fun _ => fun
  | [d1, d2, d3, d4] => { results := [.lit (.bool false)], args := [d1, d2, d3, d4] }
  | _ => none }
def FindLooseWrongFalsely : Prop := findLooseRow.holds Try.pinned (OpenSpec.ofChange findLooseWrong)

/-- 'sightbenchlaw07.FindOffsets': WHATEVER THE INPUT: true; the input reads as it did. -/
def findOffsetsSpec : ChangeSpec := { name := "findOffsets", fn := fun _ => fun
  | [d1, d2, d3, d4, d5] => { results := [.lit (.bool true)], args := [d1, d2, d3, d4, d5] }
  | _ => none }
def findOffsetsRow : OpenClaim := { program := "ytipkjdfnoonpcaa", sum := "8e75b18f080959e516db237247d3ea10c5505d7cbc1272835200f3db59c8439b", func := "sightbench/sightbenchlaw07.FindOffsets", spec := "findOffsets", unfollowed := true, recurses := true, plainKeys := false, apart := false }
def FindOffsetsSaid : Prop := findOffsetsRow.holds Try.pinned (OpenSpec.ofChange findOffsetsSpec)

/-- ITS FALSE NEIGHBOUR: 'it returns false'. Refute it at one input. -/
def findOffsetsWrong : ChangeSpec := { name := "findOffsets", fn := fun _ => fun
  | [d1, d2, d3, d4, d5] => { results := [.lit (.bool false)], args := [d1, d2, d3, d4, d5] }
  | _ => none }
def FindOffsetsWrongFalsely : Prop := findOffsetsRow.holds Try.pinned (OpenSpec.ofChange findOffsetsWrong)

/-- 'sightbenchlaw07.FindTurned': WHATEVER THE INPUT: true; the input reads as it did. -/
def findTurnedSpec : ChangeSpec := { name := "findTurned", fn := fun _ => fun
  | [d1, d2, d3] => { results := [.lit (.bool true)], args := [d1, d2, d3] }
  | _ => none }
def findTurnedRow : OpenClaim := { program := "ytipkjdfnoonpcaa", sum := "8e75b18f080959e516db237247d3ea10c5505d7cbc1272835200f3db59c8439b", func := "sightbench/sightbenchlaw07.FindTurned", spec := "findTurned", unfollowed := true, recurses := true, plainKeys := false, apart := false }
def FindTurnedSaid : Prop := findTurnedRow.holds Try.pinned (OpenSpec.ofChange findTurnedSpec)

/-- ITS FALSE NEIGHBOUR: 'it returns false'. Refute it at one input. -/
def findTurnedWrong : ChangeSpec := { name := "findTurned", fn := fun _ => fun
  | [d1, d2, d3] => { results := [.lit (.bool false)], args := [d1, d2, d3] }
  | _ => none }
def FindTurnedWrongFalsely : Prop := findTurnedRow.holds Try.pinned (OpenSpec.ofChange findTurnedWrong)

/- THE SECOND FORM. 'bulk': how many values and letters a reading holds, each counted each time it is reached (what is shared counts as often as it is met; a slice's spare places count too). A statement '..UptoSaid' is the law's where the arguments, and the package variables that the reading takes, are together of bulk at most 1048576: NARROWER than '..Said'. Prove '..Said' where nothing that the law and all that it calls make is longer than what came in: it says more and counts as full. Else prove '..UptoSaid'. A law counts once. -/
mutual
def uptoBulk {H : Type} : DataW H → Nat
  | .lit (.string bytes) => bytes.length + 1
  | .lit _ => 1
  | .nil => 1
  | .ptr d => uptoBulk d + 1
  | .slice elems spare => uptoBulkAll elems + uptoBulkAll spare + 1
  | .agg parts => uptoBulkAll parts + 1
  | .iface _ d => uptoBulk d + 1
  | .map entries => uptoBulkEntries entries + 1
  | .held _ => 1
def uptoBulkAll {H : Type} : List (DataW H) → Nat
  | [] => 0
  | d :: r => uptoBulk d + uptoBulkAll r
def uptoBulkEntries {H : Type} : List (Lit × DataW H) → Nat
  | [] => 0
  | x :: r => uptoBulkEntry x + uptoBulkEntries r
def uptoBulkEntry {H : Type} : Lit × DataW H → Nat
  | (.string bytes, d) => bytes.length + uptoBulk d + 1
  | (_, d) => uptoBulk d + 1
 end
def uptoSmall : (H : Type) → List (DataW H) → Bool := fun _ ds => decide (uptoBulkAll ds ≤ 1048576)
def OpenSpec.upto (s : _root_.Go.ChangeSpec) : _root_.Go.OpenSpec := { _root_.Go.OpenSpec.ofChange s with cond := some uptoSmall }

/-- 'sightbenchlaw07.FindGrasps', WHERE WHAT IT READS IS OF BULK AT MOST 1048576: true; the input reads as it did. -/
def findGraspsUptoRow : OpenClaim := { program := "ytipkjdfnoonpcaa", sum := "8e75b18f080959e516db237247d3ea10c5505d7cbc1272835200f3db59c8439b", func := "sightbench/sightbenchlaw07.FindGrasps", spec := "findGrasps", plainKeys := false, apart := false, narrowed := true }
def FindGraspsUptoSaid : Prop := findGraspsUptoRow.holds Try.pinned (OpenSpec.upto findGraspsSpec)

/-- 'sightbenchlaw07.FindPoses', WHERE WHAT IT READS IS OF BULK AT MOST 1048576: true; the input reads as it did. -/
def findPosesUptoRow : OpenClaim := { program := "ytipkjdfnoonpcaa", sum := "8e75b18f080959e516db237247d3ea10c5505d7cbc1272835200f3db59c8439b", func := "sightbench/sightbenchlaw07.FindPoses", spec := "findPoses", plainKeys := false, apart := false, narrowed := true }
def FindPosesUptoSaid : Prop := findPosesUptoRow.holds Try.pinned (OpenSpec.upto findPosesSpec)

/-- 'sightbenchlaw07.FindChecks', WHERE WHAT IT READS IS OF BULK AT MOST 1048576: true; the input reads as it did. -/
def findChecksUptoRow : OpenClaim := { program := "ytipkjdfnoonpcaa", sum := "8e75b18f080959e516db237247d3ea10c5505d7cbc1272835200f3db59c8439b", func := "sightbench/sightbenchlaw07.FindChecks", spec := "findChecks", unfollowed := true, recurses := true, plainKeys := false, apart := false, narrowed := true }
def FindChecksUptoSaid : Prop := findChecksUptoRow.holds Try.pinned (OpenSpec.upto findChecksSpec)

/-- 'sightbenchlaw07.FindSearches', WHERE WHAT IT READS IS OF BULK AT MOST 1048576: true; the input reads as it did. -/
def findSearchesUptoRow : OpenClaim := { program := "ytipkjdfnoonpcaa", sum := "8e75b18f080959e516db237247d3ea10c5505d7cbc1272835200f3db59c8439b", func := "sightbench/sightbenchlaw07.FindSearches", spec := "findSearches", unfollowed := true, recurses := true, plainKeys := false, apart := false, narrowed := true }
def FindSearchesUptoSaid : Prop := findSearchesUptoRow.holds Try.pinned (OpenSpec.upto findSearchesSpec)

/-- 'sightbenchlaw07.FindExamples', WHERE WHAT IT READS IS OF BULK AT MOST 1048576: true; the input reads as it did. -/
def findExamplesUptoRow : OpenClaim := { program := "ytipkjdfnoonpcaa", sum := "8e75b18f080959e516db237247d3ea10c5505d7cbc1272835200f3db59c8439b", func := "sightbench/sightbenchlaw07.FindExamples", spec := "findExamples", unfollowed := true, recurses := true, plainKeys := false, apart := false, narrowed := true }
def FindExamplesUptoSaid : Prop := findExamplesUptoRow.holds Try.pinned (OpenSpec.upto findExamplesSpec)

/-- 'sightbenchlaw07.FindBelow', WHERE WHAT IT READS IS OF BULK AT MOST 1048576: true; the input reads as it did. -/
def findBelowUptoRow : OpenClaim := { program := "ytipkjdfnoonpcaa", sum := "8e75b18f080959e516db237247d3ea10c5505d7cbc1272835200f3db59c8439b", func := "sightbench/sightbenchlaw07.FindBelow", spec := "findBelow", unfollowed := true, recurses := true, plainKeys := false, apart := false, narrowed := true }
def FindBelowUptoSaid : Prop := findBelowUptoRow.holds Try.pinned (OpenSpec.upto findBelowSpec)

/-- 'sightbenchlaw07.FindComplete', WHERE WHAT IT READS IS OF BULK AT MOST 1048576: true; the input reads as it did. -/
def findCompleteUptoRow : OpenClaim := { program := "ytipkjdfnoonpcaa", sum := "8e75b18f080959e516db237247d3ea10c5505d7cbc1272835200f3db59c8439b", func := "sightbench/sightbenchlaw07.FindComplete", spec := "findComplete", unfollowed := true, recurses := true, plainKeys := false, apart := false, narrowed := true }
def FindCompleteUptoSaid : Prop := findCompleteUptoRow.holds Try.pinned (OpenSpec.upto findCompleteSpec)

/-- 'sightbenchlaw07.FindProved', WHERE WHAT IT READS IS OF BULK AT MOST 1048576: true; the input reads as it did. -/
def findProvedUptoRow : OpenClaim := { program := "ytipkjdfnoonpcaa", sum := "8e75b18f080959e516db237247d3ea10c5505d7cbc1272835200f3db59c8439b", func := "sightbench/sightbenchlaw07.FindProved", spec := "findProved", unfollowed := true, recurses := true, plainKeys := false, apart := false, narrowed := true }
def FindProvedUptoSaid : Prop := findProvedUptoRow.holds Try.pinned (OpenSpec.upto findProvedSpec)

/-- 'sightbenchlaw07.FindGrows', WHERE WHAT IT READS IS OF BULK AT MOST 1048576: true; the input reads as it did. -/
def findGrowsUptoRow : OpenClaim := { program := "ytipkjdfnoonpcaa", sum := "8e75b18f080959e516db237247d3ea10c5505d7cbc1272835200f3db59c8439b", func := "sightbench/sightbenchlaw07.FindGrows", spec := "findGrows", unfollowed := true, recurses := true, plainKeys := false, apart := false, narrowed := true }
def FindGrowsUptoSaid : Prop := findGrowsUptoRow.holds Try.pinned (OpenSpec.upto findGrowsSpec)

/-- 'sightbenchlaw07.FindCut', WHERE WHAT IT READS IS OF BULK AT MOST 1048576: true; the input reads as it did. -/
def findCutUptoRow : OpenClaim := { program := "ytipkjdfnoonpcaa", sum := "8e75b18f080959e516db237247d3ea10c5505d7cbc1272835200f3db59c8439b", func := "sightbench/sightbenchlaw07.FindCut", spec := "findCut", unfollowed := true, recurses := true, plainKeys := false, apart := false, narrowed := true }
def FindCutUptoSaid : Prop := findCutUptoRow.holds Try.pinned (OpenSpec.upto findCutSpec)

/-- 'sightbenchlaw07.FindHolds', WHERE WHAT IT READS IS OF BULK AT MOST 1048576: true; the input reads as it did. -/
def findHoldsUptoRow : OpenClaim := { program := "ytipkjdfnoonpcaa", sum := "8e75b18f080959e516db237247d3ea10c5505d7cbc1272835200f3db59c8439b", func := "sightbench/sightbenchlaw07.FindHolds", spec := "findHolds", unfollowed := true, recurses := true, plainKeys := false, apart := false, narrowed := true }
def FindHoldsUptoSaid : Prop := findHoldsUptoRow.holds Try.pinned (OpenSpec.upto findHoldsSpec)

/-- 'sightbenchlaw07.FindAll', WHERE WHAT IT READS IS OF BULK AT MOST 1048576: true; the input reads as it did. -/
def findAllUptoRow : OpenClaim := { program := "ytipkjdfnoonpcaa", sum := "8e75b18f080959e516db237247d3ea10c5505d7cbc1272835200f3db59c8439b", func := "sightbench/sightbenchlaw07.FindAll", spec := "findAll", unfollowed := true, recurses := true, plainKeys := false, apart := false, narrowed := true }
def FindAllUptoSaid : Prop := findAllUptoRow.holds Try.pinned (OpenSpec.upto findAllSpec)

/-- 'sightbenchlaw07.FindLoose', WHERE WHAT IT READS IS OF BULK AT MOST 1048576: true; the input reads as it did. -/
def findLooseUptoRow : OpenClaim := { program := "ytipkjdfnoonpcaa", sum := "8e75b18f080959e516db237247d3ea10c5505d7cbc1272835200f3db59c8439b", func := "sightbench/sightbenchlaw07.FindLoose", spec := "findLoose", unfollowed := true, recurses := true, plainKeys := false, apart := false, narrowed := true }
def FindLooseUptoSaid : Prop := findLooseUptoRow.holds Try.pinned (OpenSpec.upto findLooseSpec)

/-- 'sightbenchlaw07.FindOffsets', WHERE WHAT IT READS IS OF BULK AT MOST 1048576: true; the input reads as it did. -/
def findOffsetsUptoRow : OpenClaim := { program := "ytipkjdfnoonpcaa", sum := "8e75b18f080959e516db237247d3ea10c5505d7cbc1272835200f3db59c8439b", func := "sightbench/sightbenchlaw07.FindOffsets", spec := "findOffsets", unfollowed := true, recurses := true, plainKeys := false, apart := false, narrowed := true }
def FindOffsetsUptoSaid : Prop := findOffsetsUptoRow.holds Try.pinned (OpenSpec.upto findOffsetsSpec)

/-- 'sightbenchlaw07.FindTurned', WHERE WHAT IT READS IS OF BULK AT MOST 1048576: true; the input reads as it did. -/
def findTurnedUptoRow : OpenClaim := { program := "ytipkjdfnoonpcaa", sum := "8e75b18f080959e516db237247d3ea10c5505d7cbc1272835200f3db59c8439b", func := "sightbench/sightbenchlaw07.FindTurned", spec := "findTurned", unfollowed := true, recurses := true, plainKeys := false, apart := false, narrowed := true }
def FindTurnedUptoSaid : Prop := findTurnedUptoRow.holds Try.pinned (OpenSpec.upto findTurnedSpec)

end Rows
end Go.Proofs.Ytipkjdfnoonpcaa
