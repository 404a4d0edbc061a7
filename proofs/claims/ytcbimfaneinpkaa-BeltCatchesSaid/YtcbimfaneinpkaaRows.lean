/-
  No cell of these rows narrows 'for every input' (looked for: loops, veiled, ifaces, maps, wideKeys, modest, calm, conditions, laid).
  DERIVED. THE GIVEN ROWS OF THIS SEAT. 13 by the template 'for every input the law returns true; each argument reads behind the call as it read before'; 0 by the template 'total and deterministic' (their statements: YtcbimfaneinpkaaTotals.lean).
  GIVEN WITH THE SEED: the statements are not yours to turn. If you find one false, say at which input.
  Laid BY PROGRAM, IN A SANDBOX (cutbox-rows.mjs): the forced cells as the released guide's own fill.sh prints them over the translation 50ee7344d5c6bdb1… (all of the seat's roots in one cut). By AI agents, Wed Nov 11 2026. No macro, syntax, notation, axiom, sorry.
-/
import Derived.Test.YtcbimfaneinpkaaChecked
import GoSem.Claim
import GoSem.ClaimJoined
import GoSem.ClaimMapViews
import Derived.JoinedTies
import Derived.KernelRfl
namespace Go.Proofs.Ytcbimfaneinpkaa
/- THE CELL 'sum', in the pinned program and in every row, IS THE sha256 OF THE DUMP (.gsa) THAT YtcbimfaneinpkaaProg.lean LOADS. Nothing in Lean hashes anything: it is a label: what it is worth is what the hold of that sum in a sandbox is worth. -/
noncomputable def Try.pinned : Pinned := { name := "ytcbimfaneinpkaa", sum := "50ee7344d5c6bdb19cdb3e645f4fda7c5be152de6d72d7a128306327b9156ae1", checked := Try.checked }
namespace Rows
def none {H : Type} : Left H := { results := [], args := [] }

/-- 'sightbenchlaw09.BeltWindows': WHATEVER THE INPUT: true; the input reads as it did. -/
def beltWindowsSpec : ChangeSpec := { name := "beltWindows", fn := fun _ => fun
  | [d1, d2, d3] => { results := [.lit (.bool true)], args := [d1, d2, d3] }
  | _ => none }
def beltWindowsRow : OpenClaim := { program := "ytcbimfaneinpkaa", sum := "50ee7344d5c6bdb19cdb3e645f4fda7c5be152de6d72d7a128306327b9156ae1", func := "sightbench/sightbenchlaw09.BeltWindows", spec := "beltWindows", apart := false }
def BeltWindowsSaid : Prop := beltWindowsRow.holds Try.pinned (OpenSpec.ofChange beltWindowsSpec)

/-- ITS FALSE NEIGHBOUR: 'it returns false'. Refute it at one input. -/
def beltWindowsWrong : ChangeSpec := { name := "beltWindows", fn := fun _ => fun
  | [d1, d2, d3] => { results := [.lit (.bool false)], args := [d1, d2, d3] }
  | _ => none }
def BeltWindowsWrongFalsely : Prop := beltWindowsRow.holds Try.pinned (OpenSpec.ofChange beltWindowsWrong)

/-- 'sightbenchlaw09.BeltMatches': WHATEVER THE INPUT: true; the input reads as it did. -/
def beltMatchesSpec : ChangeSpec := { name := "beltMatches", fn := fun _ => fun
  | [d1, d2, d3] => { results := [.lit (.bool true)], args := [d1, d2, d3] }
  | _ => none }
def beltMatchesRow : OpenClaim := { program := "ytcbimfaneinpkaa", sum := "50ee7344d5c6bdb19cdb3e645f4fda7c5be152de6d72d7a128306327b9156ae1", func := "sightbench/sightbenchlaw09.BeltMatches", spec := "beltMatches", unfollowed := true, recurses := true, apart := false }
def BeltMatchesSaid : Prop := beltMatchesRow.holds Try.pinned (OpenSpec.ofChange beltMatchesSpec)

/-- ITS FALSE NEIGHBOUR: 'it returns false'. Refute it at one input. -/
def beltMatchesWrong : ChangeSpec := { name := "beltMatches", fn := fun _ => fun
  | [d1, d2, d3] => { results := [.lit (.bool false)], args := [d1, d2, d3] }
  | _ => none }
def BeltMatchesWrongFalsely : Prop := beltMatchesRow.holds Try.pinned (OpenSpec.ofChange beltMatchesWrong)

/-- 'sightbenchlaw09.BeltTracks': WHATEVER THE INPUT: true; the input reads as it did. -/
def beltTracksSpec : ChangeSpec := { name := "beltTracks", fn := fun _ => fun
  | [d1, d2, d3] => { results := [.lit (.bool true)], args := [d1, d2, d3] }
  | _ => none }
def beltTracksRow : OpenClaim := { program := "ytcbimfaneinpkaa", sum := "50ee7344d5c6bdb19cdb3e645f4fda7c5be152de6d72d7a128306327b9156ae1", func := "sightbench/sightbenchlaw09.BeltTracks", spec := "beltTracks", unfollowed := true, recurses := true, apart := false }
def BeltTracksSaid : Prop := beltTracksRow.holds Try.pinned (OpenSpec.ofChange beltTracksSpec)

/-- ITS FALSE NEIGHBOUR: 'it returns false'. Refute it at one input. -/
def beltTracksWrong : ChangeSpec := { name := "beltTracks", fn := fun _ => fun
  | [d1, d2, d3] => { results := [.lit (.bool false)], args := [d1, d2, d3] }
  | _ => none }
def BeltTracksWrongFalsely : Prop := beltTracksRow.holds Try.pinned (OpenSpec.ofChange beltTracksWrong)

/-- 'sightbenchlaw09.BeltAdvances': WHATEVER THE INPUT: true; the input reads as it did. -/
def beltAdvancesSpec : ChangeSpec := { name := "beltAdvances", fn := fun _ => fun
  | [d1, d2] => { results := [.lit (.bool true)], args := [d1, d2] }
  | _ => none }
def beltAdvancesRow : OpenClaim := { program := "ytcbimfaneinpkaa", sum := "50ee7344d5c6bdb19cdb3e645f4fda7c5be152de6d72d7a128306327b9156ae1", func := "sightbench/sightbenchlaw09.BeltAdvances", spec := "beltAdvances", unfollowed := true, recurses := true, apart := false }
def BeltAdvancesSaid : Prop := beltAdvancesRow.holds Try.pinned (OpenSpec.ofChange beltAdvancesSpec)

/-- ITS FALSE NEIGHBOUR: 'it returns false'. Refute it at one input. -/
def beltAdvancesWrong : ChangeSpec := { name := "beltAdvances", fn := fun _ => fun
  | [d1, d2] => { results := [.lit (.bool false)], args := [d1, d2] }
  | _ => none }
def BeltAdvancesWrongFalsely : Prop := beltAdvancesRow.holds Try.pinned (OpenSpec.ofChange beltAdvancesWrong)

/-- 'sightbenchlaw09.BeltPlace': WHATEVER THE INPUT: true; the input reads as it did. -/
def beltPlaceSpec : ChangeSpec := { name := "beltPlace", fn := fun _ => fun
  | [d1, d2, d3, d4] => { results := [.lit (.bool true)], args := [d1, d2, d3, d4] }
  | _ => none }
def beltPlaceRow : OpenClaim := { program := "ytcbimfaneinpkaa", sum := "50ee7344d5c6bdb19cdb3e645f4fda7c5be152de6d72d7a128306327b9156ae1", func := "sightbench/sightbenchlaw09.BeltPlace", spec := "beltPlace", unfollowed := true, recurses := true, apart := false }
def BeltPlaceSaid : Prop := beltPlaceRow.holds Try.pinned (OpenSpec.ofChange beltPlaceSpec)

/-- ITS FALSE NEIGHBOUR: 'it returns false'. Refute it at one input. -/
def beltPlaceWrong : ChangeSpec := { name := "beltPlace", fn := fun _ => fun
  | [d1, d2, d3, d4] => { results := [.lit (.bool false)], args := [d1, d2, d3, d4] }
  | _ => none }
def BeltPlaceWrongFalsely : Prop := beltPlaceRow.holds Try.pinned (OpenSpec.ofChange beltPlaceWrong)

/-- 'sightbenchlaw09.BeltCatches': WHATEVER THE INPUT: true; the input reads as it did. -/
def beltCatchesSpec : ChangeSpec := { name := "beltCatches", fn := fun _ => fun
  | [d1, d2, d3] => { results := [.lit (.bool true)], args := [d1, d2, d3] }
  | _ => none }
def beltCatchesRow : OpenClaim := { program := "ytcbimfaneinpkaa", sum := "50ee7344d5c6bdb19cdb3e645f4fda7c5be152de6d72d7a128306327b9156ae1", func := "sightbench/sightbenchlaw09.BeltCatches", spec := "beltCatches", unfollowed := true, recurses := true, apart := false }
def BeltCatchesSaid : Prop := beltCatchesRow.holds Try.pinned (OpenSpec.ofChange beltCatchesSpec)

/-- ITS FALSE NEIGHBOUR: 'it returns false'. Refute it at one input. -/
def beltCatchesWrong : ChangeSpec := { name := "beltCatches", fn := fun _ => fun
  | [d1, d2, d3] => { results := [.lit (.bool false)], args := [d1, d2, d3] }
  | _ => none }
def BeltCatchesWrongFalsely : Prop := beltCatchesRow.holds Try.pinned (OpenSpec.ofChange beltCatchesWrong)

/-- 'sightbenchlaw09.BeltHit': WHATEVER THE INPUT: true; the input reads as it did. -/
def beltHitSpec : ChangeSpec := { name := "beltHit", fn := fun _ => fun
  | [d1, d2, d3, d4] => { results := [.lit (.bool true)], args := [d1, d2, d3, d4] }
  | _ => none }
def beltHitRow : OpenClaim := { program := "ytcbimfaneinpkaa", sum := "50ee7344d5c6bdb19cdb3e645f4fda7c5be152de6d72d7a128306327b9156ae1", func := "sightbench/sightbenchlaw09.BeltHit", spec := "beltHit", unfollowed := true, recurses := true, apart := false }
def BeltHitSaid : Prop := beltHitRow.holds Try.pinned (OpenSpec.ofChange beltHitSpec)

/-- ITS FALSE NEIGHBOUR: 'it returns false'. Refute it at one input. -/
def beltHitWrong : ChangeSpec := { name := "beltHit", fn := fun _ => fun
  | [d1, d2, d3, d4] => { results := [.lit (.bool false)], args := [d1, d2, d3, d4] }
  | _ => none }
def BeltHitWrongFalsely : Prop := beltHitRow.holds Try.pinned (OpenSpec.ofChange beltHitWrong)

/-- 'sightbenchlaw09.BeltCut': WHATEVER THE INPUT: true; the input reads as it did. -/
def beltCutSpec : ChangeSpec := { name := "beltCut", fn := fun _ => fun
  | [d1, d2, d3] => { results := [.lit (.bool true)], args := [d1, d2, d3] }
  | _ => none }
def beltCutRow : OpenClaim := { program := "ytcbimfaneinpkaa", sum := "50ee7344d5c6bdb19cdb3e645f4fda7c5be152de6d72d7a128306327b9156ae1", func := "sightbench/sightbenchlaw09.BeltCut", spec := "beltCut", unfollowed := true, recurses := true, apart := false }
def BeltCutSaid : Prop := beltCutRow.holds Try.pinned (OpenSpec.ofChange beltCutSpec)

/-- ITS FALSE NEIGHBOUR: 'it returns false'. Refute it at one input. -/
def beltCutWrong : ChangeSpec := { name := "beltCut", fn := fun _ => fun
  | [d1, d2, d3] => { results := [.lit (.bool false)], args := [d1, d2, d3] }
  | _ => none }
def BeltCutWrongFalsely : Prop := beltCutRow.holds Try.pinned (OpenSpec.ofChange beltCutWrong)

/-- 'sightbenchlaw09.BeltKeeps': WHATEVER THE INPUT: true; the input reads as it did. -/
def beltKeepsSpec : ChangeSpec := { name := "beltKeeps", fn := fun _ => fun
  | [d1, d2, d3, d4] => { results := [.lit (.bool true)], args := [d1, d2, d3, d4] }
  | _ => none }
def beltKeepsRow : OpenClaim := { program := "ytcbimfaneinpkaa", sum := "50ee7344d5c6bdb19cdb3e645f4fda7c5be152de6d72d7a128306327b9156ae1", func := "sightbench/sightbenchlaw09.BeltKeeps", spec := "beltKeeps", unfollowed := true, recurses := true, apart := false }
def BeltKeepsSaid : Prop := beltKeepsRow.holds Try.pinned (OpenSpec.ofChange beltKeepsSpec)

/-- ITS FALSE NEIGHBOUR: 'it returns false'. Refute it at one input. -/
def beltKeepsWrong : ChangeSpec := { name := "beltKeeps", fn := fun _ => fun
  | [d1, d2, d3, d4] => { results := [.lit (.bool false)], args := [d1, d2, d3, d4] }
  | _ => none }
def BeltKeepsWrongFalsely : Prop := beltKeepsRow.holds Try.pinned (OpenSpec.ofChange beltKeepsWrong)

/-- 'sightbenchlaw09.BeltTrue': WHATEVER THE INPUT: true; the input reads as it did. -/
def beltTrueSpec : ChangeSpec := { name := "beltTrue", fn := fun _ => fun
  | [d1, d2, d3, d4, d5, d6, d7] => { results := [.lit (.bool true)], args := [d1, d2, d3, d4, d5, d6, d7] }
  | _ => none }
def beltTrueRow : OpenClaim := { program := "ytcbimfaneinpkaa", sum := "50ee7344d5c6bdb19cdb3e645f4fda7c5be152de6d72d7a128306327b9156ae1", func := "sightbench/sightbenchlaw09.BeltTrue", spec := "beltTrue", unfollowed := true, recurses := true, apart := false }
def BeltTrueSaid : Prop := beltTrueRow.holds Try.pinned (OpenSpec.ofChange beltTrueSpec)

/-- ITS FALSE NEIGHBOUR: 'it returns false'. Refute it at one input. -/
def beltTrueWrong : ChangeSpec := { name := "beltTrue", fn := fun _ => fun
  | [d1, d2, d3, d4, d5, d6, d7] => { results := [.lit (.bool false)], args := [d1, d2, d3, d4, d5, d6, d7] }
  | _ => none }
def BeltTrueWrongFalsely : Prop := beltTrueRow.holds Try.pinned (OpenSpec.ofChange beltTrueWrong)

/-- 'sightbenchlaw09.BeltMatched': WHATEVER THE INPUT: true; the input reads as it did. -/
def beltMatchedSpec : ChangeSpec := { name := "beltMatched", fn := fun _ => fun
  | [d1, d2, d3, d4] => { results := [.lit (.bool true)], args := [d1, d2, d3, d4] }
  | _ => none }
def beltMatchedRow : OpenClaim := { program := "ytcbimfaneinpkaa", sum := "50ee7344d5c6bdb19cdb3e645f4fda7c5be152de6d72d7a128306327b9156ae1", func := "sightbench/sightbenchlaw09.BeltMatched", spec := "beltMatched", unfollowed := true, recurses := true, apart := false }
def BeltMatchedSaid : Prop := beltMatchedRow.holds Try.pinned (OpenSpec.ofChange beltMatchedSpec)

/-- ITS FALSE NEIGHBOUR: 'it returns false'. Refute it at one input. -/
def beltMatchedWrong : ChangeSpec := { name := "beltMatched", fn := fun _ => fun
  | [d1, d2, d3, d4] => { results := [.lit (.bool false)], args := [d1, d2, d3, d4] }
  | _ => none }
def BeltMatchedWrongFalsely : Prop := beltMatchedRow.holds Try.pinned (OpenSpec.ofChange beltMatchedWrong)

/-- 'sightbenchlaw09.BeltExamples': WHATEVER THE INPUT: true; the input reads as it did. -/
def beltExamplesSpec : ChangeSpec := { name := "beltExamples", fn := fun _ => fun
  | [] => { results := [.lit (.bool true)], args := [] }
  | _ => none }
def beltExamplesRow : OpenClaim := { program := "ytcbimfaneinpkaa", sum := "50ee7344d5c6bdb19cdb3e645f4fda7c5be152de6d72d7a128306327b9156ae1", func := "sightbench/sightbenchlaw09.BeltExamples", spec := "beltExamples", unfollowed := true, recurses := true, apart := false }
def BeltExamplesSaid : Prop := beltExamplesRow.holds Try.pinned (OpenSpec.ofChange beltExamplesSpec)

/-- ITS FALSE NEIGHBOUR: 'it returns false'. Refute it at one input. -/
def beltExamplesWrong : ChangeSpec := { name := "beltExamples", fn := fun _ => fun
  | [] => { results := [.lit (.bool false)], args := [] }
  | _ => none }
def BeltExamplesWrongFalsely : Prop := beltExamplesRow.holds Try.pinned (OpenSpec.ofChange beltExamplesWrong)

/-- 'sightbenchlaw09.BeltReach': WHATEVER THE INPUT: true; the input reads as it did. -/
def beltReachSpec : ChangeSpec := { name := "beltReach", fn := fun _ => fun
  | [d1, d2] => { results := [.lit (.bool true)], args := [d1, d2] }
  | _ => none }
def beltReachRow : OpenClaim := { program := "ytcbimfaneinpkaa", sum := "50ee7344d5c6bdb19cdb3e645f4fda7c5be152de6d72d7a128306327b9156ae1", func := "sightbench/sightbenchlaw09.BeltReach", spec := "beltReach", unfollowed := true, recurses := true, apart := false }
def BeltReachSaid : Prop := beltReachRow.holds Try.pinned (OpenSpec.ofChange beltReachSpec)

/-- ITS FALSE NEIGHBOUR: 'it returns false'. Refute it at one input. -/
def beltReachWrong : ChangeSpec := { name := "beltReach", fn := fun _ => fun
  | [d1, d2] => { results := [.lit (.bool false)], args := [d1, d2] }
  | _ => none }
def BeltReachWrongFalsely : Prop := beltReachRow.holds Try.pinned (OpenSpec.ofChange beltReachWrong)

/- THE SECOND FORM. 'bulk': how many values and letters a reading holds, each counted each time it is reached (what is shared counts as often as it is met; a slice's spare places count too). A statement '..UptoSaid' is the law's where the arguments, and the package variables that the reading takes, are together of bulk at most 1048576: NARROWER than '..Said'. Prove '..Said' where nothing that the law and all that it calls make is longer than what came in: it says more and counts as full. Else prove '..UptoSaid'. A law counts once. -/
mutual
def uptoBulk {H : Type} : DataW H → Nat
  | .lit (.string bytes) => bytes.length + 1
  | .lit _ => 1
  | .nil => 1
  | .ptr d => uptoBulk d + 1
  | .slice elems spare => uptoBulkAll elems + uptoBulkAll spare + 1
  | .agg parts => uptoBulkAll parts + 1
  | .iface _ d => uptoBulk d + 1
  | .map entries => uptoBulkEntries entries + 1
  | .held _ => 1
def uptoBulkAll {H : Type} : List (DataW H) → Nat
  | [] => 0
  | d :: r => uptoBulk d + uptoBulkAll r
def uptoBulkEntries {H : Type} : List (Lit × DataW H) → Nat
  | [] => 0
  | x :: r => uptoBulkEntry x + uptoBulkEntries r
def uptoBulkEntry {H : Type} : Lit × DataW H → Nat
  | (.string bytes, d) => bytes.length + uptoBulk d + 1
  | (_, d) => uptoBulk d + 1
 end
def uptoSmall : (H : Type) → List (DataW H) → Bool := fun _ ds => decide (uptoBulkAll ds ≤ 1048576)
def OpenSpec.upto (s : _root_.Go.ChangeSpec) : _root_.Go.OpenSpec := { _root_.Go.OpenSpec.ofChange s with cond := some uptoSmall }

/-- 'sightbenchlaw09.BeltWindows', WHERE WHAT IT READS IS OF BULK AT MOST 1048576: true; the input reads as it did. -/
def beltWindowsUptoRow : OpenClaim := { program := "ytcbimfaneinpkaa", sum := "50ee7344d5c6bdb19cdb3e645f4fda7c5be152de6d72d7a128306327b9156ae1", func := "sightbench/sightbenchlaw09.BeltWindows", spec := "beltWindows", apart := false, narrowed := true }
def BeltWindowsUptoSaid : Prop := beltWindowsUptoRow.holds Try.pinned (OpenSpec.upto beltWindowsSpec)

/-- 'sightbenchlaw09.BeltMatches', WHERE WHAT IT READS IS OF BULK AT MOST 1048576: true; the input reads as it did. -/
def beltMatchesUptoRow : OpenClaim := { program := "ytcbimfaneinpkaa", sum := "50ee7344d5c6bdb19cdb3e645f4fda7c5be152de6d72d7a128306327b9156ae1", func := "sightbench/sightbenchlaw09.BeltMatches", spec := "beltMatches", unfollowed := true, recurses := true, apart := false, narrowed := true }
def BeltMatchesUptoSaid : Prop := beltMatchesUptoRow.holds Try.pinned (OpenSpec.upto beltMatchesSpec)

/-- 'sightbenchlaw09.BeltTracks', WHERE WHAT IT READS IS OF BULK AT MOST 1048576: true; the input reads as it did. -/
def beltTracksUptoRow : OpenClaim := { program := "ytcbimfaneinpkaa", sum := "50ee7344d5c6bdb19cdb3e645f4fda7c5be152de6d72d7a128306327b9156ae1", func := "sightbench/sightbenchlaw09.BeltTracks", spec := "beltTracks", unfollowed := true, recurses := true, apart := false, narrowed := true }
def BeltTracksUptoSaid : Prop := beltTracksUptoRow.holds Try.pinned (OpenSpec.upto beltTracksSpec)

/-- 'sightbenchlaw09.BeltAdvances', WHERE WHAT IT READS IS OF BULK AT MOST 1048576: true; the input reads as it did. -/
def beltAdvancesUptoRow : OpenClaim := { program := "ytcbimfaneinpkaa", sum := "50ee7344d5c6bdb19cdb3e645f4fda7c5be152de6d72d7a128306327b9156ae1", func := "sightbench/sightbenchlaw09.BeltAdvances", spec := "beltAdvances", unfollowed := true, recurses := true, apart := false, narrowed := true }
def BeltAdvancesUptoSaid : Prop := beltAdvancesUptoRow.holds Try.pinned (OpenSpec.upto beltAdvancesSpec)

/-- 'sightbenchlaw09.BeltPlace', WHERE WHAT IT READS IS OF BULK AT MOST 1048576: true; the input reads as it did. -/
def beltPlaceUptoRow : OpenClaim := { program := "ytcbimfaneinpkaa", sum := "50ee7344d5c6bdb19cdb3e645f4fda7c5be152de6d72d7a128306327b9156ae1", func := "sightbench/sightbenchlaw09.BeltPlace", spec := "beltPlace", unfollowed := true, recurses := true, apart := false, narrowed := true }
def BeltPlaceUptoSaid : Prop := beltPlaceUptoRow.holds Try.pinned (OpenSpec.upto beltPlaceSpec)

/-- 'sightbenchlaw09.BeltCatches', WHERE WHAT IT READS IS OF BULK AT MOST 1048576: true; the input reads as it did. -/
def beltCatchesUptoRow : OpenClaim := { program := "ytcbimfaneinpkaa", sum := "50ee7344d5c6bdb19cdb3e645f4fda7c5be152de6d72d7a128306327b9156ae1", func := "sightbench/sightbenchlaw09.BeltCatches", spec := "beltCatches", unfollowed := true, recurses := true, apart := false, narrowed := true }
def BeltCatchesUptoSaid : Prop := beltCatchesUptoRow.holds Try.pinned (OpenSpec.upto beltCatchesSpec)

/-- 'sightbenchlaw09.BeltHit', WHERE WHAT IT READS IS OF BULK AT MOST 1048576: true; the input reads as it did. -/
def beltHitUptoRow : OpenClaim := { program := "ytcbimfaneinpkaa", sum := "50ee7344d5c6bdb19cdb3e645f4fda7c5be152de6d72d7a128306327b9156ae1", func := "sightbench/sightbenchlaw09.BeltHit", spec := "beltHit", unfollowed := true, recurses := true, apart := false, narrowed := true }
def BeltHitUptoSaid : Prop := beltHitUptoRow.holds Try.pinned (OpenSpec.upto beltHitSpec)

/-- 'sightbenchlaw09.BeltCut', WHERE WHAT IT READS IS OF BULK AT MOST 1048576: true; the input reads as it did. -/
def beltCutUptoRow : OpenClaim := { program := "ytcbimfaneinpkaa", sum := "50ee7344d5c6bdb19cdb3e645f4fda7c5be152de6d72d7a128306327b9156ae1", func := "sightbench/sightbenchlaw09.BeltCut", spec := "beltCut", unfollowed := true, recurses := true, apart := false, narrowed := true }
def BeltCutUptoSaid : Prop := beltCutUptoRow.holds Try.pinned (OpenSpec.upto beltCutSpec)

/-- 'sightbenchlaw09.BeltKeeps', WHERE WHAT IT READS IS OF BULK AT MOST 1048576: true; the input reads as it did. -/
def beltKeepsUptoRow : OpenClaim := { program := "ytcbimfaneinpkaa", sum := "50ee7344d5c6bdb19cdb3e645f4fda7c5be152de6d72d7a128306327b9156ae1", func := "sightbench/sightbenchlaw09.BeltKeeps", spec := "beltKeeps", unfollowed := true, recurses := true, apart := false, narrowed := true }
def BeltKeepsUptoSaid : Prop := beltKeepsUptoRow.holds Try.pinned (OpenSpec.upto beltKeepsSpec)

/-- 'sightbenchlaw09.BeltTrue', WHERE WHAT IT READS IS OF BULK AT MOST 1048576: true; the input reads as it did. -/
def beltTrueUptoRow : OpenClaim := { program := "ytcbimfaneinpkaa", sum := "50ee7344d5c6bdb19cdb3e645f4fda7c5be152de6d72d7a128306327b9156ae1", func := "sightbench/sightbenchlaw09.BeltTrue", spec := "beltTrue", unfollowed := true, recurses := true, apart := false, narrowed := true }
def BeltTrueUptoSaid : Prop := beltTrueUptoRow.holds Try.pinned (OpenSpec.upto beltTrueSpec)

/-- 'sightbenchlaw09.BeltMatched', WHERE WHAT IT READS IS OF BULK AT MOST 1048576: true; the input reads as it did. -/
def beltMatchedUptoRow : OpenClaim := { program := "ytcbimfaneinpkaa", sum := "50ee7344d5c6bdb19cdb3e645f4fda7c5be152de6d72d7a128306327b9156ae1", func := "sightbench/sightbenchlaw09.BeltMatched", spec := "beltMatched", unfollowed := true, recurses := true, apart := false, narrowed := true }
def BeltMatchedUptoSaid : Prop := beltMatchedUptoRow.holds Try.pinned (OpenSpec.upto beltMatchedSpec)

/-- 'sightbenchlaw09.BeltExamples', WHERE WHAT IT READS IS OF BULK AT MOST 1048576: true; the input reads as it did. -/
def beltExamplesUptoRow : OpenClaim := { program := "ytcbimfaneinpkaa", sum := "50ee7344d5c6bdb19cdb3e645f4fda7c5be152de6d72d7a128306327b9156ae1", func := "sightbench/sightbenchlaw09.BeltExamples", spec := "beltExamples", unfollowed := true, recurses := true, apart := false, narrowed := true }
def BeltExamplesUptoSaid : Prop := beltExamplesUptoRow.holds Try.pinned (OpenSpec.upto beltExamplesSpec)

/-- 'sightbenchlaw09.BeltReach', WHERE WHAT IT READS IS OF BULK AT MOST 1048576: true; the input reads as it did. -/
def beltReachUptoRow : OpenClaim := { program := "ytcbimfaneinpkaa", sum := "50ee7344d5c6bdb19cdb3e645f4fda7c5be152de6d72d7a128306327b9156ae1", func := "sightbench/sightbenchlaw09.BeltReach", spec := "beltReach", unfollowed := true, recurses := true, apart := false, narrowed := true }
def BeltReachUptoSaid : Prop := beltReachUptoRow.holds Try.pinned (OpenSpec.upto beltReachSpec)

end Rows
end Go.Proofs.Ytcbimfaneinpkaa
