/-
  NARROWER THAN 'FOR EVERY INPUT', by the rows' own cells (each row's printed sentence says how): MarkSymbols: laid · MarkDecodes: laid · MarkReads: laid · MarkDraws: laid · MarkField: laid · MarkFar: laid · MarkCorrects: laid · MarkFits: laid · MarkSeen: laid · MarkDamaged: laid · MarkShapes: laid · MarkLines: laid · MarkApart: laid · MarkExamples: laid · MarkSharp: laid.
  DERIVED. THE GIVEN ROWS OF THIS SEAT. 15 by the template 'for every input the law returns true; each argument reads behind the call as it read before'; 0 by the template 'total and deterministic' (their statements: YtlnofbdhamingaaDoorTotals.lean).
  GIVEN WITH THE SEED: the statements are not yours to turn. If you find one false, say at which input.
  Laid BY PROGRAM, IN A SANDBOX (cutbox-rows.mjs): the forced cells as the released guide's own fill.sh prints them over the translation 79dc112bb6657215… (all of the seat's roots in one cut). By AI agents, Wed Nov 11 2026. No macro, syntax, notation, axiom, sorry.
-/
import Derived.Test.YtlnofbdhamingaaDoorChecked
import GoSem.PinnedTables
import GoSem.Claim
import GoSem.ClaimJoined
import GoSem.ClaimMapViews
import Derived.JoinedTies
import Derived.KernelRfl
namespace Go.Proofs.YtlnofbdhamingaaDoor
/- THE CELL 'sum', in the pinned program and in every row, IS THE sha256 OF THE DUMP (.gsa) THAT YtlnofbdhamingaaDoorProg.lean LOADS. Nothing in Lean hashes anything: it is a label: what it is worth is what the hold of that sum in a sandbox is worth. -/
noncomputable def Tryd.pinned : Pinned := { name := "ytlnofbdhamingaadoor", sum := "79dc112bb6657215f92da8d65560d8f1af040cbea2859bed233a7c5f5b34bbde", checked := Tryd.checked }
namespace Rows
def none {H : Type} : Left H := { results := [], args := [] }

/- WHAT THE LISTED PACKAGE-LEVEL VARIABLES READ AS WHEN THE CALL BEGINS. Each datum BY PROGRAM (the guide's laid-datum.mjs) off the statement by which the dump's own 'gosem.cut.vars' lays the variable. In a bare row this is a premise. The card (YtlnofbdhamingaaDoorCards.lean) ties it to the program's text. -/
def laid_sightbench_mark_powers {H : Type} : DataW H := .agg [.lit (.int .u8 1), .lit (.int .u8 2), .lit (.int .u8 4), .lit (.int .u8 8), .lit (.int .u8 3), .lit (.int .u8 6), .lit (.int .u8 12), .lit (.int .u8 11), .lit (.int .u8 5), .lit (.int .u8 10), .lit (.int .u8 7), .lit (.int .u8 14), .lit (.int .u8 15), .lit (.int .u8 13), .lit (.int .u8 9), .lit (.int .u8 1), .lit (.int .u8 2), .lit (.int .u8 4), .lit (.int .u8 8), .lit (.int .u8 3), .lit (.int .u8 6), .lit (.int .u8 12), .lit (.int .u8 11), .lit (.int .u8 5), .lit (.int .u8 10), .lit (.int .u8 7), .lit (.int .u8 14), .lit (.int .u8 15), .lit (.int .u8 13), .lit (.int .u8 9)]
def laid_sightbench_mark_logs {H : Type} : DataW H := .agg [.lit (.int .i64 0), .lit (.int .i64 0), .lit (.int .i64 1), .lit (.int .i64 4), .lit (.int .i64 2), .lit (.int .i64 8), .lit (.int .i64 5), .lit (.int .i64 10), .lit (.int .i64 3), .lit (.int .i64 14), .lit (.int .i64 9), .lit (.int .i64 7), .lit (.int .i64 6), .lit (.int .i64 13), .lit (.int .i64 11), .lit (.int .i64 12)]
def laid_unicode_utf8_acceptRanges {H : Type} : DataW H := .agg [.agg [.lit (.int .u8 128), .lit (.int .u8 191)], .agg [.lit (.int .u8 160), .lit (.int .u8 191)], .agg [.lit (.int .u8 128), .lit (.int .u8 159)], .agg [.lit (.int .u8 144), .lit (.int .u8 191)], .agg [.lit (.int .u8 128), .lit (.int .u8 143)], .agg [.lit (.int .u8 0), .lit (.int .u8 0)], .agg [.lit (.int .u8 0), .lit (.int .u8 0)], .agg [.lit (.int .u8 0), .lit (.int .u8 0)], .agg [.lit (.int .u8 0), .lit (.int .u8 0)], .agg [.lit (.int .u8 0), .lit (.int .u8 0)], .agg [.lit (.int .u8 0), .lit (.int .u8 0)], .agg [.lit (.int .u8 0), .lit (.int .u8 0)], .agg [.lit (.int .u8 0), .lit (.int .u8 0)], .agg [.lit (.int .u8 0), .lit (.int .u8 0)], .agg [.lit (.int .u8 0), .lit (.int .u8 0)], .agg [.lit (.int .u8 0), .lit (.int .u8 0)]]
/-- One of Go's own tables, pinned by name: the form's constant. -/
def laid_unicode_utf8_first : DataW Unit := Go.Pinned.utf8First

/-- 'sightbenchlaw06.MarkSymbols': WHATEVER THE INPUT: true; the input reads as it did. -/
def markSymbolsSpec : ChangeSpec := { name := "markSymbols", fn := fun _ => fun
  | [d1, d2, d3] => { results := [.lit (.bool true)], args := [d1, d2, d3] }
  | _ => none }
def markSymbolsRow : OpenClaim := { program := "ytlnofbdhamingaadoor", sum := "79dc112bb6657215f92da8d65560d8f1af040cbea2859bed233a7c5f5b34bbde", func := "sightbench/sightbenchlaw06.MarkSymbols", spec := "markSymbols", unfollowed := true, recurses := true, named := ["sightbench/mark.logs", "sightbench/mark.powers"], apart := false, laid := [("sightbench/mark.powers", laid_sightbench_mark_powers), ("sightbench/mark.logs", laid_sightbench_mark_logs)] }
def MarkSymbolsSaid : Prop := markSymbolsRow.holds Tryd.pinned (OpenSpec.ofChange markSymbolsSpec)

/-- ITS FALSE NEIGHBOUR: 'it returns false'. Refute it at one input. -/
def markSymbolsWrong : ChangeSpec := { name := "markSymbols", fn := fun _ => fun
  | [d1, d2, d3] => { results := [.lit (.bool false)], args := [d1, d2, d3] }
  | _ => none }
def MarkSymbolsWrongFalsely : Prop := markSymbolsRow.holds Tryd.pinned (OpenSpec.ofChange markSymbolsWrong)

/-- 'sightbenchlaw06.MarkDecodes': WHATEVER THE INPUT: true; the input reads as it did. -/
def markDecodesSpec : ChangeSpec := { name := "markDecodes", fn := fun _ => fun
  | [d1, d2, d3] => { results := [.lit (.bool true)], args := [d1, d2, d3] }
  | _ => none }
def markDecodesRow : OpenClaim := { program := "ytlnofbdhamingaadoor", sum := "79dc112bb6657215f92da8d65560d8f1af040cbea2859bed233a7c5f5b34bbde", func := "sightbench/sightbenchlaw06.MarkDecodes", spec := "markDecodes", unfollowed := true, recurses := true, named := ["sightbench/mark.powers", "sightbench/mark.logs"], apart := false, laid := [("sightbench/mark.powers", laid_sightbench_mark_powers), ("sightbench/mark.logs", laid_sightbench_mark_logs)] }
def MarkDecodesSaid : Prop := markDecodesRow.holds Tryd.pinned (OpenSpec.ofChange markDecodesSpec)

/-- ITS FALSE NEIGHBOUR: 'it returns false'. Refute it at one input. -/
def markDecodesWrong : ChangeSpec := { name := "markDecodes", fn := fun _ => fun
  | [d1, d2, d3] => { results := [.lit (.bool false)], args := [d1, d2, d3] }
  | _ => none }
def MarkDecodesWrongFalsely : Prop := markDecodesRow.holds Tryd.pinned (OpenSpec.ofChange markDecodesWrong)

/-- 'sightbenchlaw06.MarkReads': WHATEVER THE INPUT: true; the input reads as it did. -/
def markReadsSpec : ChangeSpec := { name := "markReads", fn := fun _ => fun
  | [d1, d2, d3, d4] => { results := [.lit (.bool true)], args := [d1, d2, d3, d4] }
  | _ => none }
def markReadsRow : OpenClaim := { program := "ytlnofbdhamingaadoor", sum := "79dc112bb6657215f92da8d65560d8f1af040cbea2859bed233a7c5f5b34bbde", func := "sightbench/sightbenchlaw06.MarkReads", spec := "markReads", unfollowed := true, recurses := true, named := ["sightbench/mark.powers", "sightbench/mark.logs"], apart := false, laid := [("sightbench/mark.powers", laid_sightbench_mark_powers), ("sightbench/mark.logs", laid_sightbench_mark_logs)] }
def MarkReadsSaid : Prop := markReadsRow.holds Tryd.pinned (OpenSpec.ofChange markReadsSpec)

/-- ITS FALSE NEIGHBOUR: 'it returns false'. Refute it at one input. -/
def markReadsWrong : ChangeSpec := { name := "markReads", fn := fun _ => fun
  | [d1, d2, d3, d4] => { results := [.lit (.bool false)], args := [d1, d2, d3, d4] }
  | _ => none }
def MarkReadsWrongFalsely : Prop := markReadsRow.holds Tryd.pinned (OpenSpec.ofChange markReadsWrong)

/-- 'sightbenchlaw06.MarkDraws': WHATEVER THE INPUT: true; the input reads as it did. -/
def markDrawsSpec : ChangeSpec := { name := "markDraws", fn := fun _ => fun
  | [d1, d2, d3, d4, d5] => { results := [.lit (.bool true)], args := [d1, d2, d3, d4, d5] }
  | _ => none }
def markDrawsRow : OpenClaim := { program := "ytlnofbdhamingaadoor", sum := "79dc112bb6657215f92da8d65560d8f1af040cbea2859bed233a7c5f5b34bbde", func := "sightbench/sightbenchlaw06.MarkDraws", spec := "markDraws", inPlace := ["internal/bytealg.IndexByteString", "internal/bytealg.IndexString"], unfollowed := true, recurses := true, named := ["sightbench/mark.powers", "sightbench/mark.logs", "unicode/utf8.first", "unicode/utf8.acceptRanges", "internal/bytealg.MaxLen"], apart := false, laid := [("unicode/utf8.acceptRanges", laid_unicode_utf8_acceptRanges), ("sightbench/mark.powers", laid_sightbench_mark_powers), ("sightbench/mark.logs", laid_sightbench_mark_logs), ("unicode/utf8.first", laid_unicode_utf8_first)] }
def MarkDrawsSaid : Prop := markDrawsRow.holds Tryd.pinned (OpenSpec.ofChange markDrawsSpec)

/-- ITS FALSE NEIGHBOUR: 'it returns false'. Refute it at one input. -/
def markDrawsWrong : ChangeSpec := { name := "markDraws", fn := fun _ => fun
  | [d1, d2, d3, d4, d5] => { results := [.lit (.bool false)], args := [d1, d2, d3, d4, d5] }
  | _ => none }
def MarkDrawsWrongFalsely : Prop := markDrawsRow.holds Tryd.pinned (OpenSpec.ofChange markDrawsWrong)

/-- 'sightbenchlaw06.MarkField': WHATEVER THE INPUT: true; the input reads as it did. -/
def markFieldSpec : ChangeSpec := { name := "markField", fn := fun _ => fun
  | [d1, d2, d3] => { results := [.lit (.bool true)], args := [d1, d2, d3] }
  | _ => none }
def markFieldRow : OpenClaim := { program := "ytlnofbdhamingaadoor", sum := "79dc112bb6657215f92da8d65560d8f1af040cbea2859bed233a7c5f5b34bbde", func := "sightbench/sightbenchlaw06.MarkField", spec := "markField", inPlace := ["internal/bytealg.IndexByteString", "internal/bytealg.IndexString", "internal/abi.NoEscape"], unfollowed := true, recurses := true, named := ["sightbench/mark.logs", "sightbench/mark.powers", "unicode/utf8.first", "unicode/utf8.acceptRanges", "internal/bytealg.MaxLen"], apart := false, laid := [("unicode/utf8.acceptRanges", laid_unicode_utf8_acceptRanges), ("sightbench/mark.powers", laid_sightbench_mark_powers), ("sightbench/mark.logs", laid_sightbench_mark_logs), ("unicode/utf8.first", laid_unicode_utf8_first)] }
def MarkFieldSaid : Prop := markFieldRow.holds Tryd.pinned (OpenSpec.ofChange markFieldSpec)

/-- ITS FALSE NEIGHBOUR: 'it returns false'. Refute it at one input. -/
def markFieldWrong : ChangeSpec := { name := "markField", fn := fun _ => fun
  | [d1, d2, d3] => { results := [.lit (.bool false)], args := [d1, d2, d3] }
  | _ => none }
def MarkFieldWrongFalsely : Prop := markFieldRow.holds Tryd.pinned (OpenSpec.ofChange markFieldWrong)

/-- 'sightbenchlaw06.MarkFar': WHATEVER THE INPUT: true; the input reads as it did. -/
def markFarSpec : ChangeSpec := { name := "markFar", fn := fun _ => fun
  | [d1, d2] => { results := [.lit (.bool true)], args := [d1, d2] }
  | _ => none }
def markFarRow : OpenClaim := { program := "ytlnofbdhamingaadoor", sum := "79dc112bb6657215f92da8d65560d8f1af040cbea2859bed233a7c5f5b34bbde", func := "sightbench/sightbenchlaw06.MarkFar", spec := "markFar", inPlace := ["internal/bytealg.IndexByteString", "internal/bytealg.IndexString", "internal/abi.NoEscape"], unfollowed := true, recurses := true, named := ["sightbench/mark.logs", "sightbench/mark.powers", "unicode/utf8.first", "unicode/utf8.acceptRanges", "internal/bytealg.MaxLen"], apart := false, laid := [("unicode/utf8.acceptRanges", laid_unicode_utf8_acceptRanges), ("sightbench/mark.powers", laid_sightbench_mark_powers), ("sightbench/mark.logs", laid_sightbench_mark_logs), ("unicode/utf8.first", laid_unicode_utf8_first)] }
def MarkFarSaid : Prop := markFarRow.holds Tryd.pinned (OpenSpec.ofChange markFarSpec)

/-- ITS FALSE NEIGHBOUR: 'it returns false'. Refute it at one input. -/
def markFarWrong : ChangeSpec := { name := "markFar", fn := fun _ => fun
  | [d1, d2] => { results := [.lit (.bool false)], args := [d1, d2] }
  | _ => none }
def MarkFarWrongFalsely : Prop := markFarRow.holds Tryd.pinned (OpenSpec.ofChange markFarWrong)

/-- 'sightbenchlaw06.MarkCorrects': WHATEVER THE INPUT: true; the input reads as it did. -/
def markCorrectsSpec : ChangeSpec := { name := "markCorrects", fn := fun _ => fun
  | [d1, d2] => { results := [.lit (.bool true)], args := [d1, d2] }
  | _ => none }
def markCorrectsRow : OpenClaim := { program := "ytlnofbdhamingaadoor", sum := "79dc112bb6657215f92da8d65560d8f1af040cbea2859bed233a7c5f5b34bbde", func := "sightbench/sightbenchlaw06.MarkCorrects", spec := "markCorrects", inPlace := ["internal/bytealg.IndexByteString", "internal/bytealg.IndexString", "internal/abi.NoEscape"], unfollowed := true, recurses := true, named := ["sightbench/mark.logs", "sightbench/mark.powers", "unicode/utf8.first", "unicode/utf8.acceptRanges", "internal/bytealg.MaxLen"], apart := false, laid := [("unicode/utf8.acceptRanges", laid_unicode_utf8_acceptRanges), ("sightbench/mark.powers", laid_sightbench_mark_powers), ("sightbench/mark.logs", laid_sightbench_mark_logs), ("unicode/utf8.first", laid_unicode_utf8_first)] }
def MarkCorrectsSaid : Prop := markCorrectsRow.holds Tryd.pinned (OpenSpec.ofChange markCorrectsSpec)

/-- ITS FALSE NEIGHBOUR: 'it returns false'. Refute it at one input. -/
def markCorrectsWrong : ChangeSpec := { name := "markCorrects", fn := fun _ => fun
  | [d1, d2] => { results := [.lit (.bool false)], args := [d1, d2] }
  | _ => none }
def MarkCorrectsWrongFalsely : Prop := markCorrectsRow.holds Tryd.pinned (OpenSpec.ofChange markCorrectsWrong)

/-- 'sightbenchlaw06.MarkFits': WHATEVER THE INPUT: true; the input reads as it did. -/
def markFitsSpec : ChangeSpec := { name := "markFits", fn := fun _ => fun
  | [d1, d2, d3, d4] => { results := [.lit (.bool true)], args := [d1, d2, d3, d4] }
  | _ => none }
def markFitsRow : OpenClaim := { program := "ytlnofbdhamingaadoor", sum := "79dc112bb6657215f92da8d65560d8f1af040cbea2859bed233a7c5f5b34bbde", func := "sightbench/sightbenchlaw06.MarkFits", spec := "markFits", inPlace := ["internal/bytealg.IndexByteString", "internal/bytealg.IndexString", "internal/abi.NoEscape"], unfollowed := true, recurses := true, named := ["sightbench/mark.logs", "sightbench/mark.powers", "unicode/utf8.first", "unicode/utf8.acceptRanges", "internal/bytealg.MaxLen"], apart := false, laid := [("unicode/utf8.acceptRanges", laid_unicode_utf8_acceptRanges), ("sightbench/mark.powers", laid_sightbench_mark_powers), ("sightbench/mark.logs", laid_sightbench_mark_logs), ("unicode/utf8.first", laid_unicode_utf8_first)] }
def MarkFitsSaid : Prop := markFitsRow.holds Tryd.pinned (OpenSpec.ofChange markFitsSpec)

/-- ITS FALSE NEIGHBOUR: 'it returns false'. Refute it at one input. -/
def markFitsWrong : ChangeSpec := { name := "markFits", fn := fun _ => fun
  | [d1, d2, d3, d4] => { results := [.lit (.bool false)], args := [d1, d2, d3, d4] }
  | _ => none }
def MarkFitsWrongFalsely : Prop := markFitsRow.holds Tryd.pinned (OpenSpec.ofChange markFitsWrong)

/-- 'sightbenchlaw06.MarkSeen': WHATEVER THE INPUT: true; the input reads as it did. -/
def markSeenSpec : ChangeSpec := { name := "markSeen", fn := fun _ => fun
  | [d1, d2, d3, d4, d5, d6] => { results := [.lit (.bool true)], args := [d1, d2, d3, d4, d5, d6] }
  | _ => none }
def markSeenRow : OpenClaim := { program := "ytlnofbdhamingaadoor", sum := "79dc112bb6657215f92da8d65560d8f1af040cbea2859bed233a7c5f5b34bbde", func := "sightbench/sightbenchlaw06.MarkSeen", spec := "markSeen", inPlace := ["internal/bytealg.IndexByteString", "internal/bytealg.IndexString", "internal/abi.NoEscape"], unfollowed := true, recurses := true, named := ["sightbench/mark.logs", "sightbench/mark.powers", "unicode/utf8.first", "unicode/utf8.acceptRanges", "internal/bytealg.MaxLen"], apart := false, laid := [("unicode/utf8.acceptRanges", laid_unicode_utf8_acceptRanges), ("sightbench/mark.powers", laid_sightbench_mark_powers), ("sightbench/mark.logs", laid_sightbench_mark_logs), ("unicode/utf8.first", laid_unicode_utf8_first)] }
def MarkSeenSaid : Prop := markSeenRow.holds Tryd.pinned (OpenSpec.ofChange markSeenSpec)

/-- ITS FALSE NEIGHBOUR: 'it returns false'. Refute it at one input. -/
def markSeenWrong : ChangeSpec := { name := "markSeen", fn := fun _ => fun
  | [d1, d2, d3, d4, d5, d6] => { results := [.lit (.bool false)], args := [d1, d2, d3, d4, d5, d6] }
  | _ => none }
def MarkSeenWrongFalsely : Prop := markSeenRow.holds Tryd.pinned (OpenSpec.ofChange markSeenWrong)

/-- 'sightbenchlaw06.MarkDamaged': WHATEVER THE INPUT: true; the input reads as it did. -/
def markDamagedSpec : ChangeSpec := { name := "markDamaged", fn := fun _ => fun
  | [d1, d2, d3] => { results := [.lit (.bool true)], args := [d1, d2, d3] }
  | _ => none }
def markDamagedRow : OpenClaim := { program := "ytlnofbdhamingaadoor", sum := "79dc112bb6657215f92da8d65560d8f1af040cbea2859bed233a7c5f5b34bbde", func := "sightbench/sightbenchlaw06.MarkDamaged", spec := "markDamaged", inPlace := ["internal/bytealg.IndexByteString", "internal/bytealg.IndexString", "internal/abi.NoEscape"], unfollowed := true, recurses := true, named := ["sightbench/mark.logs", "sightbench/mark.powers", "unicode/utf8.first", "unicode/utf8.acceptRanges", "internal/bytealg.MaxLen"], apart := false, laid := [("unicode/utf8.acceptRanges", laid_unicode_utf8_acceptRanges), ("sightbench/mark.powers", laid_sightbench_mark_powers), ("sightbench/mark.logs", laid_sightbench_mark_logs), ("unicode/utf8.first", laid_unicode_utf8_first)] }
def MarkDamagedSaid : Prop := markDamagedRow.holds Tryd.pinned (OpenSpec.ofChange markDamagedSpec)

/-- ITS FALSE NEIGHBOUR: 'it returns false'. Refute it at one input. -/
def markDamagedWrong : ChangeSpec := { name := "markDamaged", fn := fun _ => fun
  | [d1, d2, d3] => { results := [.lit (.bool false)], args := [d1, d2, d3] }
  | _ => none }
def MarkDamagedWrongFalsely : Prop := markDamagedRow.holds Tryd.pinned (OpenSpec.ofChange markDamagedWrong)

/-- 'sightbenchlaw06.MarkShapes': WHATEVER THE INPUT: true; the input reads as it did. -/
def markShapesSpec : ChangeSpec := { name := "markShapes", fn := fun _ => fun
  | [d1, d2, d3, d4] => { results := [.lit (.bool true)], args := [d1, d2, d3, d4] }
  | _ => none }
def markShapesRow : OpenClaim := { program := "ytlnofbdhamingaadoor", sum := "79dc112bb6657215f92da8d65560d8f1af040cbea2859bed233a7c5f5b34bbde", func := "sightbench/sightbenchlaw06.MarkShapes", spec := "markShapes", inPlace := ["internal/bytealg.IndexByteString", "internal/bytealg.IndexString", "internal/abi.NoEscape"], unfollowed := true, recurses := true, named := ["sightbench/mark.logs", "sightbench/mark.powers", "unicode/utf8.first", "unicode/utf8.acceptRanges", "internal/bytealg.MaxLen"], apart := false, laid := [("unicode/utf8.acceptRanges", laid_unicode_utf8_acceptRanges), ("sightbench/mark.powers", laid_sightbench_mark_powers), ("sightbench/mark.logs", laid_sightbench_mark_logs), ("unicode/utf8.first", laid_unicode_utf8_first)] }
def MarkShapesSaid : Prop := markShapesRow.holds Tryd.pinned (OpenSpec.ofChange markShapesSpec)

/-- ITS FALSE NEIGHBOUR: 'it returns false'. Refute it at one input. -/
def markShapesWrong : ChangeSpec := { name := "markShapes", fn := fun _ => fun
  | [d1, d2, d3, d4] => { results := [.lit (.bool false)], args := [d1, d2, d3, d4] }
  | _ => none }
def MarkShapesWrongFalsely : Prop := markShapesRow.holds Tryd.pinned (OpenSpec.ofChange markShapesWrong)

/-- 'sightbenchlaw06.MarkLines': WHATEVER THE INPUT: true; the input reads as it did. -/
def markLinesSpec : ChangeSpec := { name := "markLines", fn := fun _ => fun
  | [d1, d2, d3, d4, d5, d6] => { results := [.lit (.bool true)], args := [d1, d2, d3, d4, d5, d6] }
  | _ => none }
def markLinesRow : OpenClaim := { program := "ytlnofbdhamingaadoor", sum := "79dc112bb6657215f92da8d65560d8f1af040cbea2859bed233a7c5f5b34bbde", func := "sightbench/sightbenchlaw06.MarkLines", spec := "markLines", inPlace := ["internal/bytealg.IndexByteString", "internal/bytealg.IndexString", "internal/abi.NoEscape"], unfollowed := true, recurses := true, named := ["sightbench/mark.logs", "sightbench/mark.powers", "unicode/utf8.first", "unicode/utf8.acceptRanges", "internal/bytealg.MaxLen"], apart := false, laid := [("unicode/utf8.acceptRanges", laid_unicode_utf8_acceptRanges), ("sightbench/mark.powers", laid_sightbench_mark_powers), ("sightbench/mark.logs", laid_sightbench_mark_logs), ("unicode/utf8.first", laid_unicode_utf8_first)] }
def MarkLinesSaid : Prop := markLinesRow.holds Tryd.pinned (OpenSpec.ofChange markLinesSpec)

/-- ITS FALSE NEIGHBOUR: 'it returns false'. Refute it at one input. -/
def markLinesWrong : ChangeSpec := { name := "markLines", fn := fun _ => fun
  | [d1, d2, d3, d4, d5, d6] => { results := [.lit (.bool false)], args := [d1, d2, d3, d4, d5, d6] }
  | _ => none }
def MarkLinesWrongFalsely : Prop := markLinesRow.holds Tryd.pinned (OpenSpec.ofChange markLinesWrong)

/-- 'sightbenchlaw06.MarkApart': WHATEVER THE INPUT: true; the input reads as it did. -/
def markApartSpec : ChangeSpec := { name := "markApart", fn := fun _ => fun
  | [d1, d2, d3] => { results := [.lit (.bool true)], args := [d1, d2, d3] }
  | _ => none }
def markApartRow : OpenClaim := { program := "ytlnofbdhamingaadoor", sum := "79dc112bb6657215f92da8d65560d8f1af040cbea2859bed233a7c5f5b34bbde", func := "sightbench/sightbenchlaw06.MarkApart", spec := "markApart", inPlace := ["internal/bytealg.IndexByteString", "internal/bytealg.IndexString", "internal/abi.NoEscape"], unfollowed := true, recurses := true, named := ["sightbench/mark.logs", "sightbench/mark.powers", "unicode/utf8.first", "unicode/utf8.acceptRanges", "internal/bytealg.MaxLen"], apart := false, laid := [("unicode/utf8.acceptRanges", laid_unicode_utf8_acceptRanges), ("sightbench/mark.powers", laid_sightbench_mark_powers), ("sightbench/mark.logs", laid_sightbench_mark_logs), ("unicode/utf8.first", laid_unicode_utf8_first)] }
def MarkApartSaid : Prop := markApartRow.holds Tryd.pinned (OpenSpec.ofChange markApartSpec)

/-- ITS FALSE NEIGHBOUR: 'it returns false'. Refute it at one input. -/
def markApartWrong : ChangeSpec := { name := "markApart", fn := fun _ => fun
  | [d1, d2, d3] => { results := [.lit (.bool false)], args := [d1, d2, d3] }
  | _ => none }
def MarkApartWrongFalsely : Prop := markApartRow.holds Tryd.pinned (OpenSpec.ofChange markApartWrong)

/-- 'sightbenchlaw06.MarkExamples': WHATEVER THE INPUT: true; the input reads as it did. -/
def markExamplesSpec : ChangeSpec := { name := "markExamples", fn := fun _ => fun
  | [] => { results := [.lit (.bool true)], args := [] }
  | _ => none }
def markExamplesRow : OpenClaim := { program := "ytlnofbdhamingaadoor", sum := "79dc112bb6657215f92da8d65560d8f1af040cbea2859bed233a7c5f5b34bbde", func := "sightbench/sightbenchlaw06.MarkExamples", spec := "markExamples", inPlace := ["internal/bytealg.IndexByteString", "internal/bytealg.IndexString", "internal/abi.NoEscape"], unfollowed := true, recurses := true, named := ["sightbench/mark.logs", "sightbench/mark.powers", "unicode/utf8.first", "unicode/utf8.acceptRanges", "internal/bytealg.MaxLen"], apart := false, laid := [("unicode/utf8.acceptRanges", laid_unicode_utf8_acceptRanges), ("sightbench/mark.powers", laid_sightbench_mark_powers), ("sightbench/mark.logs", laid_sightbench_mark_logs), ("unicode/utf8.first", laid_unicode_utf8_first)] }
def MarkExamplesSaid : Prop := markExamplesRow.holds Tryd.pinned (OpenSpec.ofChange markExamplesSpec)

/-- ITS FALSE NEIGHBOUR: 'it returns false'. Refute it at one input. -/
def markExamplesWrong : ChangeSpec := { name := "markExamples", fn := fun _ => fun
  | [] => { results := [.lit (.bool false)], args := [] }
  | _ => none }
def MarkExamplesWrongFalsely : Prop := markExamplesRow.holds Tryd.pinned (OpenSpec.ofChange markExamplesWrong)

/-- 'sightbenchlaw06.MarkSharp': WHATEVER THE INPUT: true; the input reads as it did. -/
def markSharpSpec : ChangeSpec := { name := "markSharp", fn := fun _ => fun
  | [d1, d2] => { results := [.lit (.bool true)], args := [d1, d2] }
  | _ => none }
def markSharpRow : OpenClaim := { program := "ytlnofbdhamingaadoor", sum := "79dc112bb6657215f92da8d65560d8f1af040cbea2859bed233a7c5f5b34bbde", func := "sightbench/sightbenchlaw06.MarkSharp", spec := "markSharp", inPlace := ["internal/bytealg.IndexByteString", "internal/bytealg.IndexString", "internal/abi.NoEscape"], unfollowed := true, recurses := true, named := ["sightbench/mark.logs", "sightbench/mark.powers", "unicode/utf8.first", "unicode/utf8.acceptRanges", "internal/bytealg.MaxLen"], apart := false, laid := [("unicode/utf8.acceptRanges", laid_unicode_utf8_acceptRanges), ("sightbench/mark.powers", laid_sightbench_mark_powers), ("sightbench/mark.logs", laid_sightbench_mark_logs), ("unicode/utf8.first", laid_unicode_utf8_first)] }
def MarkSharpSaid : Prop := markSharpRow.holds Tryd.pinned (OpenSpec.ofChange markSharpSpec)

/-- ITS FALSE NEIGHBOUR: 'it returns false'. Refute it at one input. -/
def markSharpWrong : ChangeSpec := { name := "markSharp", fn := fun _ => fun
  | [d1, d2] => { results := [.lit (.bool false)], args := [d1, d2] }
  | _ => none }
def MarkSharpWrongFalsely : Prop := markSharpRow.holds Tryd.pinned (OpenSpec.ofChange markSharpWrong)

/- THE SECOND FORM. 'bulk': how many values and letters a reading holds, each counted each time it is reached (what is shared counts as often as it is met; a slice's spare places count too). A statement '..UptoSaid' is the law's where the arguments, and the package variables that the reading takes, are together of bulk at most 1048576: NARROWER than '..Said'. Prove '..Said' where nothing that the law and all that it calls make is longer than what came in: it says more and counts as full. Else prove '..UptoSaid'. A law counts once. -/
mutual
def uptoBulk {H : Type} : DataW H → Nat
  | .lit (.string bytes) => bytes.length + 1
  | .lit _ => 1
  | .nil => 1
  | .ptr d => uptoBulk d + 1
  | .slice elems spare => uptoBulkAll elems + uptoBulkAll spare + 1
  | .agg parts => uptoBulkAll parts + 1
  | .iface _ d => uptoBulk d + 1
  | .map entries => uptoBulkEntries entries + 1
  | .held _ => 1
def uptoBulkAll {H : Type} : List (DataW H) → Nat
  | [] => 0
  | d :: r => uptoBulk d + uptoBulkAll r
def uptoBulkEntries {H : Type} : List (Lit × DataW H) → Nat
  | [] => 0
  | x :: r => uptoBulkEntry x + uptoBulkEntries r
def uptoBulkEntry {H : Type} : Lit × DataW H → Nat
  | (.string bytes, d) => bytes.length + uptoBulk d + 1
  | (_, d) => uptoBulk d + 1
 end
def uptoSmall : (H : Type) → List (DataW H) → Bool := fun _ ds => decide (uptoBulkAll ds ≤ 1048576)
def OpenSpec.upto (s : _root_.Go.ChangeSpec) : _root_.Go.OpenSpec := { _root_.Go.OpenSpec.ofChange s with cond := some uptoSmall }

/-- 'sightbenchlaw06.MarkSymbols', WHERE WHAT IT READS IS OF BULK AT MOST 1048576: true; the input reads as it did. -/
def markSymbolsUptoRow : OpenClaim := { program := "ytlnofbdhamingaadoor", sum := "79dc112bb6657215f92da8d65560d8f1af040cbea2859bed233a7c5f5b34bbde", func := "sightbench/sightbenchlaw06.MarkSymbols", spec := "markSymbols", unfollowed := true, recurses := true, named := ["sightbench/mark.logs", "sightbench/mark.powers"], apart := false, laid := [("sightbench/mark.powers", laid_sightbench_mark_powers), ("sightbench/mark.logs", laid_sightbench_mark_logs)], narrowed := true }
def MarkSymbolsUptoSaid : Prop := markSymbolsUptoRow.holds Tryd.pinned (OpenSpec.upto markSymbolsSpec)

/-- 'sightbenchlaw06.MarkDecodes', WHERE WHAT IT READS IS OF BULK AT MOST 1048576: true; the input reads as it did. -/
def markDecodesUptoRow : OpenClaim := { program := "ytlnofbdhamingaadoor", sum := "79dc112bb6657215f92da8d65560d8f1af040cbea2859bed233a7c5f5b34bbde", func := "sightbench/sightbenchlaw06.MarkDecodes", spec := "markDecodes", unfollowed := true, recurses := true, named := ["sightbench/mark.powers", "sightbench/mark.logs"], apart := false, laid := [("sightbench/mark.powers", laid_sightbench_mark_powers), ("sightbench/mark.logs", laid_sightbench_mark_logs)], narrowed := true }
def MarkDecodesUptoSaid : Prop := markDecodesUptoRow.holds Tryd.pinned (OpenSpec.upto markDecodesSpec)

/-- 'sightbenchlaw06.MarkReads', WHERE WHAT IT READS IS OF BULK AT MOST 1048576: true; the input reads as it did. -/
def markReadsUptoRow : OpenClaim := { program := "ytlnofbdhamingaadoor", sum := "79dc112bb6657215f92da8d65560d8f1af040cbea2859bed233a7c5f5b34bbde", func := "sightbench/sightbenchlaw06.MarkReads", spec := "markReads", unfollowed := true, recurses := true, named := ["sightbench/mark.powers", "sightbench/mark.logs"], apart := false, laid := [("sightbench/mark.powers", laid_sightbench_mark_powers), ("sightbench/mark.logs", laid_sightbench_mark_logs)], narrowed := true }
def MarkReadsUptoSaid : Prop := markReadsUptoRow.holds Tryd.pinned (OpenSpec.upto markReadsSpec)

/-- 'sightbenchlaw06.MarkDraws', WHERE WHAT IT READS IS OF BULK AT MOST 1048576: true; the input reads as it did. -/
def markDrawsUptoRow : OpenClaim := { program := "ytlnofbdhamingaadoor", sum := "79dc112bb6657215f92da8d65560d8f1af040cbea2859bed233a7c5f5b34bbde", func := "sightbench/sightbenchlaw06.MarkDraws", spec := "markDraws", inPlace := ["internal/bytealg.IndexByteString", "internal/bytealg.IndexString"], unfollowed := true, recurses := true, named := ["sightbench/mark.powers", "sightbench/mark.logs", "unicode/utf8.first", "unicode/utf8.acceptRanges", "internal/bytealg.MaxLen"], apart := false, laid := [("unicode/utf8.acceptRanges", laid_unicode_utf8_acceptRanges), ("sightbench/mark.powers", laid_sightbench_mark_powers), ("sightbench/mark.logs", laid_sightbench_mark_logs), ("unicode/utf8.first", laid_unicode_utf8_first)], narrowed := true }
def MarkDrawsUptoSaid : Prop := markDrawsUptoRow.holds Tryd.pinned (OpenSpec.upto markDrawsSpec)

/-- 'sightbenchlaw06.MarkField', WHERE WHAT IT READS IS OF BULK AT MOST 1048576: true; the input reads as it did. -/
def markFieldUptoRow : OpenClaim := { program := "ytlnofbdhamingaadoor", sum := "79dc112bb6657215f92da8d65560d8f1af040cbea2859bed233a7c5f5b34bbde", func := "sightbench/sightbenchlaw06.MarkField", spec := "markField", inPlace := ["internal/bytealg.IndexByteString", "internal/bytealg.IndexString", "internal/abi.NoEscape"], unfollowed := true, recurses := true, named := ["sightbench/mark.logs", "sightbench/mark.powers", "unicode/utf8.first", "unicode/utf8.acceptRanges", "internal/bytealg.MaxLen"], apart := false, laid := [("unicode/utf8.acceptRanges", laid_unicode_utf8_acceptRanges), ("sightbench/mark.powers", laid_sightbench_mark_powers), ("sightbench/mark.logs", laid_sightbench_mark_logs), ("unicode/utf8.first", laid_unicode_utf8_first)], narrowed := true }
def MarkFieldUptoSaid : Prop := markFieldUptoRow.holds Tryd.pinned (OpenSpec.upto markFieldSpec)

/-- 'sightbenchlaw06.MarkFar', WHERE WHAT IT READS IS OF BULK AT MOST 1048576: true; the input reads as it did. -/
def markFarUptoRow : OpenClaim := { program := "ytlnofbdhamingaadoor", sum := "79dc112bb6657215f92da8d65560d8f1af040cbea2859bed233a7c5f5b34bbde", func := "sightbench/sightbenchlaw06.MarkFar", spec := "markFar", inPlace := ["internal/bytealg.IndexByteString", "internal/bytealg.IndexString", "internal/abi.NoEscape"], unfollowed := true, recurses := true, named := ["sightbench/mark.logs", "sightbench/mark.powers", "unicode/utf8.first", "unicode/utf8.acceptRanges", "internal/bytealg.MaxLen"], apart := false, laid := [("unicode/utf8.acceptRanges", laid_unicode_utf8_acceptRanges), ("sightbench/mark.powers", laid_sightbench_mark_powers), ("sightbench/mark.logs", laid_sightbench_mark_logs), ("unicode/utf8.first", laid_unicode_utf8_first)], narrowed := true }
def MarkFarUptoSaid : Prop := markFarUptoRow.holds Tryd.pinned (OpenSpec.upto markFarSpec)

/-- 'sightbenchlaw06.MarkCorrects', WHERE WHAT IT READS IS OF BULK AT MOST 1048576: true; the input reads as it did. -/
def markCorrectsUptoRow : OpenClaim := { program := "ytlnofbdhamingaadoor", sum := "79dc112bb6657215f92da8d65560d8f1af040cbea2859bed233a7c5f5b34bbde", func := "sightbench/sightbenchlaw06.MarkCorrects", spec := "markCorrects", inPlace := ["internal/bytealg.IndexByteString", "internal/bytealg.IndexString", "internal/abi.NoEscape"], unfollowed := true, recurses := true, named := ["sightbench/mark.logs", "sightbench/mark.powers", "unicode/utf8.first", "unicode/utf8.acceptRanges", "internal/bytealg.MaxLen"], apart := false, laid := [("unicode/utf8.acceptRanges", laid_unicode_utf8_acceptRanges), ("sightbench/mark.powers", laid_sightbench_mark_powers), ("sightbench/mark.logs", laid_sightbench_mark_logs), ("unicode/utf8.first", laid_unicode_utf8_first)], narrowed := true }
def MarkCorrectsUptoSaid : Prop := markCorrectsUptoRow.holds Tryd.pinned (OpenSpec.upto markCorrectsSpec)

/-- 'sightbenchlaw06.MarkFits', WHERE WHAT IT READS IS OF BULK AT MOST 1048576: true; the input reads as it did. -/
def markFitsUptoRow : OpenClaim := { program := "ytlnofbdhamingaadoor", sum := "79dc112bb6657215f92da8d65560d8f1af040cbea2859bed233a7c5f5b34bbde", func := "sightbench/sightbenchlaw06.MarkFits", spec := "markFits", inPlace := ["internal/bytealg.IndexByteString", "internal/bytealg.IndexString", "internal/abi.NoEscape"], unfollowed := true, recurses := true, named := ["sightbench/mark.logs", "sightbench/mark.powers", "unicode/utf8.first", "unicode/utf8.acceptRanges", "internal/bytealg.MaxLen"], apart := false, laid := [("unicode/utf8.acceptRanges", laid_unicode_utf8_acceptRanges), ("sightbench/mark.powers", laid_sightbench_mark_powers), ("sightbench/mark.logs", laid_sightbench_mark_logs), ("unicode/utf8.first", laid_unicode_utf8_first)], narrowed := true }
def MarkFitsUptoSaid : Prop := markFitsUptoRow.holds Tryd.pinned (OpenSpec.upto markFitsSpec)

/-- 'sightbenchlaw06.MarkSeen', WHERE WHAT IT READS IS OF BULK AT MOST 1048576: true; the input reads as it did. -/
def markSeenUptoRow : OpenClaim := { program := "ytlnofbdhamingaadoor", sum := "79dc112bb6657215f92da8d65560d8f1af040cbea2859bed233a7c5f5b34bbde", func := "sightbench/sightbenchlaw06.MarkSeen", spec := "markSeen", inPlace := ["internal/bytealg.IndexByteString", "internal/bytealg.IndexString", "internal/abi.NoEscape"], unfollowed := true, recurses := true, named := ["sightbench/mark.logs", "sightbench/mark.powers", "unicode/utf8.first", "unicode/utf8.acceptRanges", "internal/bytealg.MaxLen"], apart := false, laid := [("unicode/utf8.acceptRanges", laid_unicode_utf8_acceptRanges), ("sightbench/mark.powers", laid_sightbench_mark_powers), ("sightbench/mark.logs", laid_sightbench_mark_logs), ("unicode/utf8.first", laid_unicode_utf8_first)], narrowed := true }
def MarkSeenUptoSaid : Prop := markSeenUptoRow.holds Tryd.pinned (OpenSpec.upto markSeenSpec)

/-- 'sightbenchlaw06.MarkDamaged', WHERE WHAT IT READS IS OF BULK AT MOST 1048576: true; the input reads as it did. -/
def markDamagedUptoRow : OpenClaim := { program := "ytlnofbdhamingaadoor", sum := "79dc112bb6657215f92da8d65560d8f1af040cbea2859bed233a7c5f5b34bbde", func := "sightbench/sightbenchlaw06.MarkDamaged", spec := "markDamaged", inPlace := ["internal/bytealg.IndexByteString", "internal/bytealg.IndexString", "internal/abi.NoEscape"], unfollowed := true, recurses := true, named := ["sightbench/mark.logs", "sightbench/mark.powers", "unicode/utf8.first", "unicode/utf8.acceptRanges", "internal/bytealg.MaxLen"], apart := false, laid := [("unicode/utf8.acceptRanges", laid_unicode_utf8_acceptRanges), ("sightbench/mark.powers", laid_sightbench_mark_powers), ("sightbench/mark.logs", laid_sightbench_mark_logs), ("unicode/utf8.first", laid_unicode_utf8_first)], narrowed := true }
def MarkDamagedUptoSaid : Prop := markDamagedUptoRow.holds Tryd.pinned (OpenSpec.upto markDamagedSpec)

/-- 'sightbenchlaw06.MarkShapes', WHERE WHAT IT READS IS OF BULK AT MOST 1048576: true; the input reads as it did. -/
def markShapesUptoRow : OpenClaim := { program := "ytlnofbdhamingaadoor", sum := "79dc112bb6657215f92da8d65560d8f1af040cbea2859bed233a7c5f5b34bbde", func := "sightbench/sightbenchlaw06.MarkShapes", spec := "markShapes", inPlace := ["internal/bytealg.IndexByteString", "internal/bytealg.IndexString", "internal/abi.NoEscape"], unfollowed := true, recurses := true, named := ["sightbench/mark.logs", "sightbench/mark.powers", "unicode/utf8.first", "unicode/utf8.acceptRanges", "internal/bytealg.MaxLen"], apart := false, laid := [("unicode/utf8.acceptRanges", laid_unicode_utf8_acceptRanges), ("sightbench/mark.powers", laid_sightbench_mark_powers), ("sightbench/mark.logs", laid_sightbench_mark_logs), ("unicode/utf8.first", laid_unicode_utf8_first)], narrowed := true }
def MarkShapesUptoSaid : Prop := markShapesUptoRow.holds Tryd.pinned (OpenSpec.upto markShapesSpec)

/-- 'sightbenchlaw06.MarkLines', WHERE WHAT IT READS IS OF BULK AT MOST 1048576: true; the input reads as it did. -/
def markLinesUptoRow : OpenClaim := { program := "ytlnofbdhamingaadoor", sum := "79dc112bb6657215f92da8d65560d8f1af040cbea2859bed233a7c5f5b34bbde", func := "sightbench/sightbenchlaw06.MarkLines", spec := "markLines", inPlace := ["internal/bytealg.IndexByteString", "internal/bytealg.IndexString", "internal/abi.NoEscape"], unfollowed := true, recurses := true, named := ["sightbench/mark.logs", "sightbench/mark.powers", "unicode/utf8.first", "unicode/utf8.acceptRanges", "internal/bytealg.MaxLen"], apart := false, laid := [("unicode/utf8.acceptRanges", laid_unicode_utf8_acceptRanges), ("sightbench/mark.powers", laid_sightbench_mark_powers), ("sightbench/mark.logs", laid_sightbench_mark_logs), ("unicode/utf8.first", laid_unicode_utf8_first)], narrowed := true }
def MarkLinesUptoSaid : Prop := markLinesUptoRow.holds Tryd.pinned (OpenSpec.upto markLinesSpec)

/-- 'sightbenchlaw06.MarkApart', WHERE WHAT IT READS IS OF BULK AT MOST 1048576: true; the input reads as it did. -/
def markApartUptoRow : OpenClaim := { program := "ytlnofbdhamingaadoor", sum := "79dc112bb6657215f92da8d65560d8f1af040cbea2859bed233a7c5f5b34bbde", func := "sightbench/sightbenchlaw06.MarkApart", spec := "markApart", inPlace := ["internal/bytealg.IndexByteString", "internal/bytealg.IndexString", "internal/abi.NoEscape"], unfollowed := true, recurses := true, named := ["sightbench/mark.logs", "sightbench/mark.powers", "unicode/utf8.first", "unicode/utf8.acceptRanges", "internal/bytealg.MaxLen"], apart := false, laid := [("unicode/utf8.acceptRanges", laid_unicode_utf8_acceptRanges), ("sightbench/mark.powers", laid_sightbench_mark_powers), ("sightbench/mark.logs", laid_sightbench_mark_logs), ("unicode/utf8.first", laid_unicode_utf8_first)], narrowed := true }
def MarkApartUptoSaid : Prop := markApartUptoRow.holds Tryd.pinned (OpenSpec.upto markApartSpec)

/-- 'sightbenchlaw06.MarkExamples', WHERE WHAT IT READS IS OF BULK AT MOST 1048576: true; the input reads as it did. -/
def markExamplesUptoRow : OpenClaim := { program := "ytlnofbdhamingaadoor", sum := "79dc112bb6657215f92da8d65560d8f1af040cbea2859bed233a7c5f5b34bbde", func := "sightbench/sightbenchlaw06.MarkExamples", spec := "markExamples", inPlace := ["internal/bytealg.IndexByteString", "internal/bytealg.IndexString", "internal/abi.NoEscape"], unfollowed := true, recurses := true, named := ["sightbench/mark.logs", "sightbench/mark.powers", "unicode/utf8.first", "unicode/utf8.acceptRanges", "internal/bytealg.MaxLen"], apart := false, laid := [("unicode/utf8.acceptRanges", laid_unicode_utf8_acceptRanges), ("sightbench/mark.powers", laid_sightbench_mark_powers), ("sightbench/mark.logs", laid_sightbench_mark_logs), ("unicode/utf8.first", laid_unicode_utf8_first)], narrowed := true }
def MarkExamplesUptoSaid : Prop := markExamplesUptoRow.holds Tryd.pinned (OpenSpec.upto markExamplesSpec)

/-- 'sightbenchlaw06.MarkSharp', WHERE WHAT IT READS IS OF BULK AT MOST 1048576: true; the input reads as it did. -/
def markSharpUptoRow : OpenClaim := { program := "ytlnofbdhamingaadoor", sum := "79dc112bb6657215f92da8d65560d8f1af040cbea2859bed233a7c5f5b34bbde", func := "sightbench/sightbenchlaw06.MarkSharp", spec := "markSharp", inPlace := ["internal/bytealg.IndexByteString", "internal/bytealg.IndexString", "internal/abi.NoEscape"], unfollowed := true, recurses := true, named := ["sightbench/mark.logs", "sightbench/mark.powers", "unicode/utf8.first", "unicode/utf8.acceptRanges", "internal/bytealg.MaxLen"], apart := false, laid := [("unicode/utf8.acceptRanges", laid_unicode_utf8_acceptRanges), ("sightbench/mark.powers", laid_sightbench_mark_powers), ("sightbench/mark.logs", laid_sightbench_mark_logs), ("unicode/utf8.first", laid_unicode_utf8_first)], narrowed := true }
def MarkSharpUptoSaid : Prop := markSharpUptoRow.holds Tryd.pinned (OpenSpec.upto markSharpSpec)

end Rows
end Go.Proofs.YtlnofbdhamingaaDoor
