/-
  NARROWER THAN 'FOR EVERY INPUT', by the rows' own cells (each row's printed sentence says how): ExactTextBack: laid · ExactExamples: laid · ExactField: laid · ExactBack: laid · ExactMade: laid · ExactOrder: laid · ExactNext: laid · ExactRoots: laid · ExactMeets: laid · ExactTight: laid · ExactEncloses: laid · ExactWithin: laid · ExactWholes: laid.
  DERIVED. THE GIVEN ROWS OF THIS SEAT. 13 by the template 'for every input the law returns true; each argument reads behind the call as it read before'; 0 by the template 'total and deterministic' (their statements: YtodoimeiklilhaaDoorTotals.lean).
  GIVEN WITH THE SEED: the statements are not yours to turn. If you find one false, say at which input.
  Laid BY PROGRAM, IN A SANDBOX (cutbox-rows.mjs): the forced cells as the released guide's own fill.sh prints them over the translation 9e51ebbc9e5dd079… (all of the seat's roots in one cut). By AI agents, Wed Nov 11 2026. No macro, syntax, notation, axiom, sorry.
-/
import Derived.Test.YtodoimeiklilhaaDoorChecked
import GoSem.Claim
import GoSem.ClaimJoined
import GoSem.ClaimMapViews
import Derived.JoinedTies
import Derived.KernelRfl
namespace Go.Proofs.YtodoimeiklilhaaDoor
/- THE CELL 'sum', in the pinned program and in every row, IS THE sha256 OF THE DUMP (.gsa) THAT YtodoimeiklilhaaDoorProg.lean LOADS. Nothing in Lean hashes anything: it is a label: what it is worth is what the hold of that sum in a sandbox is worth. -/
noncomputable def Tryd.pinned : Pinned := { name := "ytodoimeiklilhaadoor", sum := "9e51ebbc9e5dd07993abc37d42f583dbc2bd1b626fdf3ace6799be0d23a759d5", checked := Tryd.checked }
namespace Rows
def none {H : Type} : Left H := { results := [], args := [] }

/- WHAT THE LISTED PACKAGE-LEVEL VARIABLES READ AS WHEN THE CALL BEGINS. Each datum BY PROGRAM (the guide's laid-datum.mjs) off the statement by which the dump's own 'gosem.cut.vars' lays the variable. In a bare row this is a premise. The card (YtodoimeiklilhaaDoorCards.lean) ties it to the program's text. -/
def laid_math_bits_deBruijn32tab {H : Type} : DataW H := .agg [.lit (.int .u8 0), .lit (.int .u8 1), .lit (.int .u8 28), .lit (.int .u8 2), .lit (.int .u8 29), .lit (.int .u8 14), .lit (.int .u8 24), .lit (.int .u8 3), .lit (.int .u8 30), .lit (.int .u8 22), .lit (.int .u8 20), .lit (.int .u8 15), .lit (.int .u8 25), .lit (.int .u8 17), .lit (.int .u8 4), .lit (.int .u8 8), .lit (.int .u8 31), .lit (.int .u8 27), .lit (.int .u8 13), .lit (.int .u8 23), .lit (.int .u8 21), .lit (.int .u8 19), .lit (.int .u8 16), .lit (.int .u8 7), .lit (.int .u8 26), .lit (.int .u8 12), .lit (.int .u8 18), .lit (.int .u8 6), .lit (.int .u8 11), .lit (.int .u8 5), .lit (.int .u8 10), .lit (.int .u8 9)]
def laid_math_bits_deBruijn64tab {H : Type} : DataW H := .agg [.lit (.int .u8 0), .lit (.int .u8 1), .lit (.int .u8 56), .lit (.int .u8 2), .lit (.int .u8 57), .lit (.int .u8 49), .lit (.int .u8 28), .lit (.int .u8 3), .lit (.int .u8 61), .lit (.int .u8 58), .lit (.int .u8 42), .lit (.int .u8 50), .lit (.int .u8 38), .lit (.int .u8 29), .lit (.int .u8 17), .lit (.int .u8 4), .lit (.int .u8 62), .lit (.int .u8 47), .lit (.int .u8 59), .lit (.int .u8 36), .lit (.int .u8 45), .lit (.int .u8 43), .lit (.int .u8 51), .lit (.int .u8 22), .lit (.int .u8 53), .lit (.int .u8 39), .lit (.int .u8 33), .lit (.int .u8 30), .lit (.int .u8 24), .lit (.int .u8 18), .lit (.int .u8 12), .lit (.int .u8 5), .lit (.int .u8 63), .lit (.int .u8 55), .lit (.int .u8 48), .lit (.int .u8 27), .lit (.int .u8 60), .lit (.int .u8 41), .lit (.int .u8 37), .lit (.int .u8 16), .lit (.int .u8 46), .lit (.int .u8 35), .lit (.int .u8 44), .lit (.int .u8 21), .lit (.int .u8 52), .lit (.int .u8 32), .lit (.int .u8 23), .lit (.int .u8 11), .lit (.int .u8 54), .lit (.int .u8 26), .lit (.int .u8 40), .lit (.int .u8 15), .lit (.int .u8 34), .lit (.int .u8 20), .lit (.int .u8 31), .lit (.int .u8 10), .lit (.int .u8 25), .lit (.int .u8 14), .lit (.int .u8 19), .lit (.int .u8 9), .lit (.int .u8 13), .lit (.int .u8 8), .lit (.int .u8 7), .lit (.int .u8 6)]
def laid_internal_strconv_uint64pow10 {H : Type} : DataW H := .agg [.lit (.int .u64 1), .lit (.int .u64 10), .lit (.int .u64 100), .lit (.int .u64 1000), .lit (.int .u64 10000), .lit (.int .u64 100000), .lit (.int .u64 1000000), .lit (.int .u64 10000000), .lit (.int .u64 100000000), .lit (.int .u64 1000000000), .lit (.int .u64 10000000000), .lit (.int .u64 100000000000), .lit (.int .u64 1000000000000), .lit (.int .u64 10000000000000), .lit (.int .u64 100000000000000), .lit (.int .u64 1000000000000000), .lit (.int .u64 10000000000000000), .lit (.int .u64 100000000000000000), .lit (.int .u64 1000000000000000000), .lit (.int .u64 10000000000000000000)]
def laid_strconv_ErrRange {H : Type} : DataW H := .iface "*errors.errorString" (.ptr (.agg [.lit (.string [118, 97, 108, 117, 101, 32, 111, 117, 116, 32, 111, 102, 32, 114, 97, 110, 103, 101])]))
def laid_strconv_ErrSyntax {H : Type} : DataW H := .iface "*errors.errorString" (.ptr (.agg [.lit (.string [105, 110, 118, 97, 108, 105, 100, 32, 115, 121, 110, 116, 97, 120])]))

/-- 'sightbenchlaw01.ExactTextBack': WHATEVER THE INPUT: true; the input reads as it did. -/
def exactTextBackSpec : ChangeSpec := { name := "exactTextBack", fn := fun _ => fun
  | [d1, d2] => { results := [.lit (.bool true)], args := [d1, d2] }
  | _ => none }
def exactTextBackRow : OpenClaim := { program := "ytodoimeiklilhaadoor", sum := "9e51ebbc9e5dd07993abc37d42f583dbc2bd1b626fdf3ace6799be0d23a759d5", func := "sightbench/sightbenchlaw01.ExactTextBack", spec := "exactTextBack", inPlace := ["math/bits.Add64", "math/bits.Sub64", "internal/bytealg.IndexByteString", "internal/bytealg.IndexString"], unfollowed := true, recurses := true, named := ["math/bits.divideError", "math/bits.overflowError", "internal/strconv.uint64pow10", "math/bits.deBruijn32tab", "math/bits.deBruijn64tab", "internal/bytealg.MaxLen", "strconv.ErrSyntax", "strconv.ErrRange"], apart := false, laid := [("math/bits.deBruijn32tab", laid_math_bits_deBruijn32tab), ("math/bits.deBruijn64tab", laid_math_bits_deBruijn64tab), ("internal/strconv.uint64pow10", laid_internal_strconv_uint64pow10), ("strconv.ErrRange", laid_strconv_ErrRange), ("strconv.ErrSyntax", laid_strconv_ErrSyntax)] }
def ExactTextBackSaid : Prop := exactTextBackRow.holds Tryd.pinned (OpenSpec.ofChange exactTextBackSpec)

/-- ITS FALSE NEIGHBOUR: 'it returns false'. Refute it at one input. -/
def exactTextBackWrong : ChangeSpec := { name := "exactTextBack", fn := fun _ => fun
  | [d1, d2] => { results := [.lit (.bool false)], args := [d1, d2] }
  | _ => none }
def ExactTextBackWrongFalsely : Prop := exactTextBackRow.holds Tryd.pinned (OpenSpec.ofChange exactTextBackWrong)

/-- 'sightbenchlaw01.ExactExamples': WHATEVER THE INPUT: true; the input reads as it did. -/
def exactExamplesSpec : ChangeSpec := { name := "exactExamples", fn := fun _ => fun
  | [] => { results := [.lit (.bool true)], args := [] }
  | _ => none }
def exactExamplesRow : OpenClaim := { program := "ytodoimeiklilhaadoor", sum := "9e51ebbc9e5dd07993abc37d42f583dbc2bd1b626fdf3ace6799be0d23a759d5", func := "sightbench/sightbenchlaw01.ExactExamples", spec := "exactExamples", inPlace := ["math/bits.Add64", "math/bits.Sub64", "internal/bytealg.IndexByteString", "internal/bytealg.IndexString"], unfollowed := true, recurses := true, named := ["math/bits.divideError", "math/bits.overflowError", "internal/strconv.uint64pow10", "math/bits.deBruijn32tab", "math/bits.deBruijn64tab", "internal/bytealg.MaxLen", "strconv.ErrSyntax", "strconv.ErrRange"], apart := false, laid := [("math/bits.deBruijn32tab", laid_math_bits_deBruijn32tab), ("math/bits.deBruijn64tab", laid_math_bits_deBruijn64tab), ("internal/strconv.uint64pow10", laid_internal_strconv_uint64pow10), ("strconv.ErrRange", laid_strconv_ErrRange), ("strconv.ErrSyntax", laid_strconv_ErrSyntax)] }
def ExactExamplesSaid : Prop := exactExamplesRow.holds Tryd.pinned (OpenSpec.ofChange exactExamplesSpec)

/-- ITS FALSE NEIGHBOUR: 'it returns false'. Refute it at one input. -/
def exactExamplesWrong : ChangeSpec := { name := "exactExamples", fn := fun _ => fun
  | [] => { results := [.lit (.bool false)], args := [] }
  | _ => none }
def ExactExamplesWrongFalsely : Prop := exactExamplesRow.holds Tryd.pinned (OpenSpec.ofChange exactExamplesWrong)

/-- 'sightbenchlaw01.ExactField': WHATEVER THE INPUT: true; the input reads as it did. -/
def exactFieldSpec : ChangeSpec := { name := "exactField", fn := fun _ => fun
  | [d1, d2, d3] => { results := [.lit (.bool true)], args := [d1, d2, d3] }
  | _ => none }
def exactFieldRow : OpenClaim := { program := "ytodoimeiklilhaadoor", sum := "9e51ebbc9e5dd07993abc37d42f583dbc2bd1b626fdf3ace6799be0d23a759d5", func := "sightbench/sightbenchlaw01.ExactField", spec := "exactField", inPlace := ["math/bits.Add64", "math/bits.Sub64"], unfollowed := true, recurses := true, named := ["math/bits.divideError", "math/bits.overflowError", "internal/strconv.uint64pow10", "math/bits.deBruijn32tab", "math/bits.deBruijn64tab"], apart := false, laid := [("math/bits.deBruijn32tab", laid_math_bits_deBruijn32tab), ("math/bits.deBruijn64tab", laid_math_bits_deBruijn64tab), ("internal/strconv.uint64pow10", laid_internal_strconv_uint64pow10)] }
def ExactFieldSaid : Prop := exactFieldRow.holds Tryd.pinned (OpenSpec.ofChange exactFieldSpec)

/-- ITS FALSE NEIGHBOUR: 'it returns false'. Refute it at one input. -/
def exactFieldWrong : ChangeSpec := { name := "exactField", fn := fun _ => fun
  | [d1, d2, d3] => { results := [.lit (.bool false)], args := [d1, d2, d3] }
  | _ => none }
def ExactFieldWrongFalsely : Prop := exactFieldRow.holds Tryd.pinned (OpenSpec.ofChange exactFieldWrong)

/-- 'sightbenchlaw01.ExactBack': WHATEVER THE INPUT: true; the input reads as it did. -/
def exactBackSpec : ChangeSpec := { name := "exactBack", fn := fun _ => fun
  | [d1, d2] => { results := [.lit (.bool true)], args := [d1, d2] }
  | _ => none }
def exactBackRow : OpenClaim := { program := "ytodoimeiklilhaadoor", sum := "9e51ebbc9e5dd07993abc37d42f583dbc2bd1b626fdf3ace6799be0d23a759d5", func := "sightbench/sightbenchlaw01.ExactBack", spec := "exactBack", inPlace := ["math/bits.Add64", "math/bits.Sub64"], unfollowed := true, recurses := true, named := ["math/bits.divideError", "math/bits.overflowError", "internal/strconv.uint64pow10", "math/bits.deBruijn32tab", "math/bits.deBruijn64tab"], apart := false, laid := [("math/bits.deBruijn32tab", laid_math_bits_deBruijn32tab), ("math/bits.deBruijn64tab", laid_math_bits_deBruijn64tab), ("internal/strconv.uint64pow10", laid_internal_strconv_uint64pow10)] }
def ExactBackSaid : Prop := exactBackRow.holds Tryd.pinned (OpenSpec.ofChange exactBackSpec)

/-- ITS FALSE NEIGHBOUR: 'it returns false'. Refute it at one input. -/
def exactBackWrong : ChangeSpec := { name := "exactBack", fn := fun _ => fun
  | [d1, d2] => { results := [.lit (.bool false)], args := [d1, d2] }
  | _ => none }
def ExactBackWrongFalsely : Prop := exactBackRow.holds Tryd.pinned (OpenSpec.ofChange exactBackWrong)

/-- 'sightbenchlaw01.ExactMade': WHATEVER THE INPUT: true; the input reads as it did. -/
def exactMadeSpec : ChangeSpec := { name := "exactMade", fn := fun _ => fun
  | [d1, d2, d3, d4] => { results := [.lit (.bool true)], args := [d1, d2, d3, d4] }
  | _ => none }
def exactMadeRow : OpenClaim := { program := "ytodoimeiklilhaadoor", sum := "9e51ebbc9e5dd07993abc37d42f583dbc2bd1b626fdf3ace6799be0d23a759d5", func := "sightbench/sightbenchlaw01.ExactMade", spec := "exactMade", inPlace := ["math/bits.Add64", "math/bits.Sub64"], unfollowed := true, recurses := true, named := ["math/bits.divideError", "math/bits.overflowError", "internal/strconv.uint64pow10", "math/bits.deBruijn32tab", "math/bits.deBruijn64tab"], apart := false, laid := [("math/bits.deBruijn32tab", laid_math_bits_deBruijn32tab), ("math/bits.deBruijn64tab", laid_math_bits_deBruijn64tab), ("internal/strconv.uint64pow10", laid_internal_strconv_uint64pow10)] }
def ExactMadeSaid : Prop := exactMadeRow.holds Tryd.pinned (OpenSpec.ofChange exactMadeSpec)

/-- ITS FALSE NEIGHBOUR: 'it returns false'. Refute it at one input. -/
def exactMadeWrong : ChangeSpec := { name := "exactMade", fn := fun _ => fun
  | [d1, d2, d3, d4] => { results := [.lit (.bool false)], args := [d1, d2, d3, d4] }
  | _ => none }
def ExactMadeWrongFalsely : Prop := exactMadeRow.holds Tryd.pinned (OpenSpec.ofChange exactMadeWrong)

/-- 'sightbenchlaw01.ExactOrder': WHATEVER THE INPUT: true; the input reads as it did. -/
def exactOrderSpec : ChangeSpec := { name := "exactOrder", fn := fun _ => fun
  | [d1, d2, d3] => { results := [.lit (.bool true)], args := [d1, d2, d3] }
  | _ => none }
def exactOrderRow : OpenClaim := { program := "ytodoimeiklilhaadoor", sum := "9e51ebbc9e5dd07993abc37d42f583dbc2bd1b626fdf3ace6799be0d23a759d5", func := "sightbench/sightbenchlaw01.ExactOrder", spec := "exactOrder", inPlace := ["math/bits.Add64", "math/bits.Sub64"], unfollowed := true, recurses := true, named := ["math/bits.divideError", "math/bits.overflowError", "internal/strconv.uint64pow10", "math/bits.deBruijn32tab", "math/bits.deBruijn64tab"], apart := false, laid := [("math/bits.deBruijn32tab", laid_math_bits_deBruijn32tab), ("math/bits.deBruijn64tab", laid_math_bits_deBruijn64tab), ("internal/strconv.uint64pow10", laid_internal_strconv_uint64pow10)] }
def ExactOrderSaid : Prop := exactOrderRow.holds Tryd.pinned (OpenSpec.ofChange exactOrderSpec)

/-- ITS FALSE NEIGHBOUR: 'it returns false'. Refute it at one input. -/
def exactOrderWrong : ChangeSpec := { name := "exactOrder", fn := fun _ => fun
  | [d1, d2, d3] => { results := [.lit (.bool false)], args := [d1, d2, d3] }
  | _ => none }
def ExactOrderWrongFalsely : Prop := exactOrderRow.holds Tryd.pinned (OpenSpec.ofChange exactOrderWrong)

/-- 'sightbenchlaw01.ExactNext': WHATEVER THE INPUT: true; the input reads as it did. -/
def exactNextSpec : ChangeSpec := { name := "exactNext", fn := fun _ => fun
  | [d] => { results := [.lit (.bool true)], args := [d] }
  | _ => none }
def exactNextRow : OpenClaim := { program := "ytodoimeiklilhaadoor", sum := "9e51ebbc9e5dd07993abc37d42f583dbc2bd1b626fdf3ace6799be0d23a759d5", func := "sightbench/sightbenchlaw01.ExactNext", spec := "exactNext", inPlace := ["math/bits.Add64", "math/bits.Sub64"], unfollowed := true, recurses := true, named := ["math/bits.divideError", "math/bits.overflowError", "internal/strconv.uint64pow10", "math/bits.deBruijn32tab", "math/bits.deBruijn64tab"], apart := false, laid := [("math/bits.deBruijn32tab", laid_math_bits_deBruijn32tab), ("math/bits.deBruijn64tab", laid_math_bits_deBruijn64tab), ("internal/strconv.uint64pow10", laid_internal_strconv_uint64pow10)] }
def ExactNextSaid : Prop := exactNextRow.holds Tryd.pinned (OpenSpec.ofChange exactNextSpec)

/-- ITS FALSE NEIGHBOUR: 'it returns false'. Refute it at one input. -/
def exactNextWrong : ChangeSpec := { name := "exactNext", fn := fun _ => fun
  | [d] => { results := [.lit (.bool false)], args := [d] }
  | _ => none }
def ExactNextWrongFalsely : Prop := exactNextRow.holds Tryd.pinned (OpenSpec.ofChange exactNextWrong)

/-- 'sightbenchlaw01.ExactRoots': WHATEVER THE INPUT: true; the input reads as it did. -/
def exactRootsSpec : ChangeSpec := { name := "exactRoots", fn := fun _ => fun
  | [d1, d2] => { results := [.lit (.bool true)], args := [d1, d2] }
  | _ => none }
def exactRootsRow : OpenClaim := { program := "ytodoimeiklilhaadoor", sum := "9e51ebbc9e5dd07993abc37d42f583dbc2bd1b626fdf3ace6799be0d23a759d5", func := "sightbench/sightbenchlaw01.ExactRoots", spec := "exactRoots", inPlace := ["math/bits.Add64", "math/bits.Sub64"], unfollowed := true, recurses := true, named := ["math/bits.divideError", "math/bits.overflowError", "internal/strconv.uint64pow10", "math/bits.deBruijn32tab", "math/bits.deBruijn64tab"], apart := false, laid := [("math/bits.deBruijn32tab", laid_math_bits_deBruijn32tab), ("math/bits.deBruijn64tab", laid_math_bits_deBruijn64tab), ("internal/strconv.uint64pow10", laid_internal_strconv_uint64pow10)] }
def ExactRootsSaid : Prop := exactRootsRow.holds Tryd.pinned (OpenSpec.ofChange exactRootsSpec)

/-- ITS FALSE NEIGHBOUR: 'it returns false'. Refute it at one input. -/
def exactRootsWrong : ChangeSpec := { name := "exactRoots", fn := fun _ => fun
  | [d1, d2] => { results := [.lit (.bool false)], args := [d1, d2] }
  | _ => none }
def ExactRootsWrongFalsely : Prop := exactRootsRow.holds Tryd.pinned (OpenSpec.ofChange exactRootsWrong)

/-- 'sightbenchlaw01.ExactMeets': WHATEVER THE INPUT: true; the input reads as it did. -/
def exactMeetsSpec : ChangeSpec := { name := "exactMeets", fn := fun _ => fun
  | [d1, d2, d3] => { results := [.lit (.bool true)], args := [d1, d2, d3] }
  | _ => none }
def exactMeetsRow : OpenClaim := { program := "ytodoimeiklilhaadoor", sum := "9e51ebbc9e5dd07993abc37d42f583dbc2bd1b626fdf3ace6799be0d23a759d5", func := "sightbench/sightbenchlaw01.ExactMeets", spec := "exactMeets", inPlace := ["math/bits.Add64", "math/bits.Sub64"], unfollowed := true, recurses := true, named := ["math/bits.divideError", "math/bits.overflowError", "internal/strconv.uint64pow10", "math/bits.deBruijn32tab", "math/bits.deBruijn64tab"], apart := false, laid := [("math/bits.deBruijn32tab", laid_math_bits_deBruijn32tab), ("math/bits.deBruijn64tab", laid_math_bits_deBruijn64tab), ("internal/strconv.uint64pow10", laid_internal_strconv_uint64pow10)] }
def ExactMeetsSaid : Prop := exactMeetsRow.holds Tryd.pinned (OpenSpec.ofChange exactMeetsSpec)

/-- ITS FALSE NEIGHBOUR: 'it returns false'. Refute it at one input. -/
def exactMeetsWrong : ChangeSpec := { name := "exactMeets", fn := fun _ => fun
  | [d1, d2, d3] => { results := [.lit (.bool false)], args := [d1, d2, d3] }
  | _ => none }
def ExactMeetsWrongFalsely : Prop := exactMeetsRow.holds Tryd.pinned (OpenSpec.ofChange exactMeetsWrong)

/-- 'sightbenchlaw01.ExactTight': WHATEVER THE INPUT: true; the input reads as it did. -/
def exactTightSpec : ChangeSpec := { name := "exactTight", fn := fun _ => fun
  | [d1, d2, d3] => { results := [.lit (.bool true)], args := [d1, d2, d3] }
  | _ => none }
def exactTightRow : OpenClaim := { program := "ytodoimeiklilhaadoor", sum := "9e51ebbc9e5dd07993abc37d42f583dbc2bd1b626fdf3ace6799be0d23a759d5", func := "sightbench/sightbenchlaw01.ExactTight", spec := "exactTight", inPlace := ["math/bits.Add64", "math/bits.Sub64"], unfollowed := true, recurses := true, named := ["math/bits.divideError", "math/bits.overflowError", "internal/strconv.uint64pow10", "math/bits.deBruijn32tab", "math/bits.deBruijn64tab"], apart := false, laid := [("math/bits.deBruijn32tab", laid_math_bits_deBruijn32tab), ("math/bits.deBruijn64tab", laid_math_bits_deBruijn64tab), ("internal/strconv.uint64pow10", laid_internal_strconv_uint64pow10)] }
def ExactTightSaid : Prop := exactTightRow.holds Tryd.pinned (OpenSpec.ofChange exactTightSpec)

/-- ITS FALSE NEIGHBOUR: 'it returns false'. Refute it at one input. -/
def exactTightWrong : ChangeSpec := { name := "exactTight", fn := fun _ => fun
  | [d1, d2, d3] => { results := [.lit (.bool false)], args := [d1, d2, d3] }
  | _ => none }
def ExactTightWrongFalsely : Prop := exactTightRow.holds Tryd.pinned (OpenSpec.ofChange exactTightWrong)

/-- 'sightbenchlaw01.ExactEncloses': WHATEVER THE INPUT: true; the input reads as it did. -/
def exactEnclosesSpec : ChangeSpec := { name := "exactEncloses", fn := fun _ => fun
  | [d1, d2, d3, d4, d5] => { results := [.lit (.bool true)], args := [d1, d2, d3, d4, d5] }
  | _ => none }
def exactEnclosesRow : OpenClaim := { program := "ytodoimeiklilhaadoor", sum := "9e51ebbc9e5dd07993abc37d42f583dbc2bd1b626fdf3ace6799be0d23a759d5", func := "sightbench/sightbenchlaw01.ExactEncloses", spec := "exactEncloses", inPlace := ["math/bits.Add64", "math/bits.Sub64"], unfollowed := true, recurses := true, named := ["math/bits.divideError", "math/bits.overflowError", "internal/strconv.uint64pow10", "math/bits.deBruijn32tab", "math/bits.deBruijn64tab"], apart := false, laid := [("math/bits.deBruijn32tab", laid_math_bits_deBruijn32tab), ("math/bits.deBruijn64tab", laid_math_bits_deBruijn64tab), ("internal/strconv.uint64pow10", laid_internal_strconv_uint64pow10)] }
def ExactEnclosesSaid : Prop := exactEnclosesRow.holds Tryd.pinned (OpenSpec.ofChange exactEnclosesSpec)

/-- ITS FALSE NEIGHBOUR: 'it returns false'. Refute it at one input. -/
def exactEnclosesWrong : ChangeSpec := { name := "exactEncloses", fn := fun _ => fun
  | [d1, d2, d3, d4, d5] => { results := [.lit (.bool false)], args := [d1, d2, d3, d4, d5] }
  | _ => none }
def ExactEnclosesWrongFalsely : Prop := exactEnclosesRow.holds Tryd.pinned (OpenSpec.ofChange exactEnclosesWrong)

/-- 'sightbenchlaw01.ExactWithin': WHATEVER THE INPUT: true; the input reads as it did. -/
def exactWithinSpec : ChangeSpec := { name := "exactWithin", fn := fun _ => fun
  | [d1, d2, d3, d4, d5] => { results := [.lit (.bool true)], args := [d1, d2, d3, d4, d5] }
  | _ => none }
def exactWithinRow : OpenClaim := { program := "ytodoimeiklilhaadoor", sum := "9e51ebbc9e5dd07993abc37d42f583dbc2bd1b626fdf3ace6799be0d23a759d5", func := "sightbench/sightbenchlaw01.ExactWithin", spec := "exactWithin", inPlace := ["math/bits.Add64", "math/bits.Sub64"], unfollowed := true, recurses := true, named := ["math/bits.divideError", "math/bits.overflowError", "internal/strconv.uint64pow10", "math/bits.deBruijn32tab", "math/bits.deBruijn64tab"], apart := false, laid := [("math/bits.deBruijn32tab", laid_math_bits_deBruijn32tab), ("math/bits.deBruijn64tab", laid_math_bits_deBruijn64tab), ("internal/strconv.uint64pow10", laid_internal_strconv_uint64pow10)] }
def ExactWithinSaid : Prop := exactWithinRow.holds Tryd.pinned (OpenSpec.ofChange exactWithinSpec)

/-- ITS FALSE NEIGHBOUR: 'it returns false'. Refute it at one input. -/
def exactWithinWrong : ChangeSpec := { name := "exactWithin", fn := fun _ => fun
  | [d1, d2, d3, d4, d5] => { results := [.lit (.bool false)], args := [d1, d2, d3, d4, d5] }
  | _ => none }
def ExactWithinWrongFalsely : Prop := exactWithinRow.holds Tryd.pinned (OpenSpec.ofChange exactWithinWrong)

/-- 'sightbenchlaw01.ExactWholes': WHATEVER THE INPUT: true; the input reads as it did. -/
def exactWholesSpec : ChangeSpec := { name := "exactWholes", fn := fun _ => fun
  | [d1, d2, d3] => { results := [.lit (.bool true)], args := [d1, d2, d3] }
  | _ => none }
def exactWholesRow : OpenClaim := { program := "ytodoimeiklilhaadoor", sum := "9e51ebbc9e5dd07993abc37d42f583dbc2bd1b626fdf3ace6799be0d23a759d5", func := "sightbench/sightbenchlaw01.ExactWholes", spec := "exactWholes", inPlace := ["math/bits.Add64", "math/bits.Sub64", "internal/bytealg.IndexByteString", "internal/bytealg.IndexString"], unfollowed := true, recurses := true, named := ["internal/strconv.uint64pow10", "math/bits.deBruijn32tab", "math/bits.deBruijn64tab", "internal/bytealg.MaxLen", "strconv.ErrSyntax", "strconv.ErrRange", "math/bits.divideError", "math/bits.overflowError"], apart := false, laid := [("math/bits.deBruijn32tab", laid_math_bits_deBruijn32tab), ("math/bits.deBruijn64tab", laid_math_bits_deBruijn64tab), ("internal/strconv.uint64pow10", laid_internal_strconv_uint64pow10), ("strconv.ErrRange", laid_strconv_ErrRange), ("strconv.ErrSyntax", laid_strconv_ErrSyntax)] }
def ExactWholesSaid : Prop := exactWholesRow.holds Tryd.pinned (OpenSpec.ofChange exactWholesSpec)

/-- ITS FALSE NEIGHBOUR: 'it returns false'. Refute it at one input. -/
def exactWholesWrong : ChangeSpec := { name := "exactWholes", fn := fun _ => fun
  | [d1, d2, d3] => { results := [.lit (.bool false)], args := [d1, d2, d3] }
  | _ => none }
def ExactWholesWrongFalsely : Prop := exactWholesRow.holds Tryd.pinned (OpenSpec.ofChange exactWholesWrong)

/- THE SECOND FORM. 'bulk': how many values and letters a reading holds, each counted each time it is reached (what is shared counts as often as it is met; a slice's spare places count too). A statement '..UptoSaid' is the law's where the arguments, and the package variables that the reading takes, are together of bulk at most 1048576: NARROWER than '..Said'. Prove '..Said' where nothing that the law and all that it calls make is longer than what came in: it says more and counts as full. Else prove '..UptoSaid'. A law counts once. -/
mutual
def uptoBulk {H : Type} : DataW H → Nat
  | .lit (.string bytes) => bytes.length + 1
  | .lit _ => 1
  | .nil => 1
  | .ptr d => uptoBulk d + 1
  | .slice elems spare => uptoBulkAll elems + uptoBulkAll spare + 1
  | .agg parts => uptoBulkAll parts + 1
  | .iface _ d => uptoBulk d + 1
  | .map entries => uptoBulkEntries entries + 1
  | .held _ => 1
def uptoBulkAll {H : Type} : List (DataW H) → Nat
  | [] => 0
  | d :: r => uptoBulk d + uptoBulkAll r
def uptoBulkEntries {H : Type} : List (Lit × DataW H) → Nat
  | [] => 0
  | x :: r => uptoBulkEntry x + uptoBulkEntries r
def uptoBulkEntry {H : Type} : Lit × DataW H → Nat
  | (.string bytes, d) => bytes.length + uptoBulk d + 1
  | (_, d) => uptoBulk d + 1
 end
def uptoSmall : (H : Type) → List (DataW H) → Bool := fun _ ds => decide (uptoBulkAll ds ≤ 1048576)
def OpenSpec.upto (s : _root_.Go.ChangeSpec) : _root_.Go.OpenSpec := { _root_.Go.OpenSpec.ofChange s with cond := some uptoSmall }

/-- 'sightbenchlaw01.ExactTextBack', WHERE WHAT IT READS IS OF BULK AT MOST 1048576: true; the input reads as it did. -/
def exactTextBackUptoRow : OpenClaim := { program := "ytodoimeiklilhaadoor", sum := "9e51ebbc9e5dd07993abc37d42f583dbc2bd1b626fdf3ace6799be0d23a759d5", func := "sightbench/sightbenchlaw01.ExactTextBack", spec := "exactTextBack", inPlace := ["math/bits.Add64", "math/bits.Sub64", "internal/bytealg.IndexByteString", "internal/bytealg.IndexString"], unfollowed := true, recurses := true, named := ["math/bits.divideError", "math/bits.overflowError", "internal/strconv.uint64pow10", "math/bits.deBruijn32tab", "math/bits.deBruijn64tab", "internal/bytealg.MaxLen", "strconv.ErrSyntax", "strconv.ErrRange"], apart := false, laid := [("math/bits.deBruijn32tab", laid_math_bits_deBruijn32tab), ("math/bits.deBruijn64tab", laid_math_bits_deBruijn64tab), ("internal/strconv.uint64pow10", laid_internal_strconv_uint64pow10), ("strconv.ErrRange", laid_strconv_ErrRange), ("strconv.ErrSyntax", laid_strconv_ErrSyntax)], narrowed := true }
def ExactTextBackUptoSaid : Prop := exactTextBackUptoRow.holds Tryd.pinned (OpenSpec.upto exactTextBackSpec)

/-- 'sightbenchlaw01.ExactExamples', WHERE WHAT IT READS IS OF BULK AT MOST 1048576: true; the input reads as it did. -/
def exactExamplesUptoRow : OpenClaim := { program := "ytodoimeiklilhaadoor", sum := "9e51ebbc9e5dd07993abc37d42f583dbc2bd1b626fdf3ace6799be0d23a759d5", func := "sightbench/sightbenchlaw01.ExactExamples", spec := "exactExamples", inPlace := ["math/bits.Add64", "math/bits.Sub64", "internal/bytealg.IndexByteString", "internal/bytealg.IndexString"], unfollowed := true, recurses := true, named := ["math/bits.divideError", "math/bits.overflowError", "internal/strconv.uint64pow10", "math/bits.deBruijn32tab", "math/bits.deBruijn64tab", "internal/bytealg.MaxLen", "strconv.ErrSyntax", "strconv.ErrRange"], apart := false, laid := [("math/bits.deBruijn32tab", laid_math_bits_deBruijn32tab), ("math/bits.deBruijn64tab", laid_math_bits_deBruijn64tab), ("internal/strconv.uint64pow10", laid_internal_strconv_uint64pow10), ("strconv.ErrRange", laid_strconv_ErrRange), ("strconv.ErrSyntax", laid_strconv_ErrSyntax)], narrowed := true }
def ExactExamplesUptoSaid : Prop := exactExamplesUptoRow.holds Tryd.pinned (OpenSpec.upto exactExamplesSpec)

/-- 'sightbenchlaw01.ExactField', WHERE WHAT IT READS IS OF BULK AT MOST 1048576: true; the input reads as it did. -/
def exactFieldUptoRow : OpenClaim := { program := "ytodoimeiklilhaadoor", sum := "9e51ebbc9e5dd07993abc37d42f583dbc2bd1b626fdf3ace6799be0d23a759d5", func := "sightbench/sightbenchlaw01.ExactField", spec := "exactField", inPlace := ["math/bits.Add64", "math/bits.Sub64"], unfollowed := true, recurses := true, named := ["math/bits.divideError", "math/bits.overflowError", "internal/strconv.uint64pow10", "math/bits.deBruijn32tab", "math/bits.deBruijn64tab"], apart := false, laid := [("math/bits.deBruijn32tab", laid_math_bits_deBruijn32tab), ("math/bits.deBruijn64tab", laid_math_bits_deBruijn64tab), ("internal/strconv.uint64pow10", laid_internal_strconv_uint64pow10)], narrowed := true }
def ExactFieldUptoSaid : Prop := exactFieldUptoRow.holds Tryd.pinned (OpenSpec.upto exactFieldSpec)

/-- 'sightbenchlaw01.ExactBack', WHERE WHAT IT READS IS OF BULK AT MOST 1048576: true; the input reads as it did. -/
def exactBackUptoRow : OpenClaim := { program := "ytodoimeiklilhaadoor", sum := "9e51ebbc9e5dd07993abc37d42f583dbc2bd1b626fdf3ace6799be0d23a759d5", func := "sightbench/sightbenchlaw01.ExactBack", spec := "exactBack", inPlace := ["math/bits.Add64", "math/bits.Sub64"], unfollowed := true, recurses := true, named := ["math/bits.divideError", "math/bits.overflowError", "internal/strconv.uint64pow10", "math/bits.deBruijn32tab", "math/bits.deBruijn64tab"], apart := false, laid := [("math/bits.deBruijn32tab", laid_math_bits_deBruijn32tab), ("math/bits.deBruijn64tab", laid_math_bits_deBruijn64tab), ("internal/strconv.uint64pow10", laid_internal_strconv_uint64pow10)], narrowed := true }
def ExactBackUptoSaid : Prop := exactBackUptoRow.holds Tryd.pinned (OpenSpec.upto exactBackSpec)

/-- 'sightbenchlaw01.ExactMade', WHERE WHAT IT READS IS OF BULK AT MOST 1048576: true; the input reads as it did. -/
def exactMadeUptoRow : OpenClaim := { program := "ytodoimeiklilhaadoor", sum := "9e51ebbc9e5dd07993abc37d42f583dbc2bd1b626fdf3ace6799be0d23a759d5", func := "sightbench/sightbenchlaw01.ExactMade", spec := "exactMade", inPlace := ["math/bits.Add64", "math/bits.Sub64"], unfollowed := true, recurses := true, named := ["math/bits.divideError", "math/bits.overflowError", "internal/strconv.uint64pow10", "math/bits.deBruijn32tab", "math/bits.deBruijn64tab"], apart := false, laid := [("math/bits.deBruijn32tab", laid_math_bits_deBruijn32tab), ("math/bits.deBruijn64tab", laid_math_bits_deBruijn64tab), ("internal/strconv.uint64pow10", laid_internal_strconv_uint64pow10)], narrowed := true }
def ExactMadeUptoSaid : Prop := exactMadeUptoRow.holds Tryd.pinned (OpenSpec.upto exactMadeSpec)

/-- 'sightbenchlaw01.ExactOrder', WHERE WHAT IT READS IS OF BULK AT MOST 1048576: true; the input reads as it did. -/
def exactOrderUptoRow : OpenClaim := { program := "ytodoimeiklilhaadoor", sum := "9e51ebbc9e5dd07993abc37d42f583dbc2bd1b626fdf3ace6799be0d23a759d5", func := "sightbench/sightbenchlaw01.ExactOrder", spec := "exactOrder", inPlace := ["math/bits.Add64", "math/bits.Sub64"], unfollowed := true, recurses := true, named := ["math/bits.divideError", "math/bits.overflowError", "internal/strconv.uint64pow10", "math/bits.deBruijn32tab", "math/bits.deBruijn64tab"], apart := false, laid := [("math/bits.deBruijn32tab", laid_math_bits_deBruijn32tab), ("math/bits.deBruijn64tab", laid_math_bits_deBruijn64tab), ("internal/strconv.uint64pow10", laid_internal_strconv_uint64pow10)], narrowed := true }
def ExactOrderUptoSaid : Prop := exactOrderUptoRow.holds Tryd.pinned (OpenSpec.upto exactOrderSpec)

/-- 'sightbenchlaw01.ExactNext', WHERE WHAT IT READS IS OF BULK AT MOST 1048576: true; the input reads as it did. -/
def exactNextUptoRow : OpenClaim := { program := "ytodoimeiklilhaadoor", sum := "9e51ebbc9e5dd07993abc37d42f583dbc2bd1b626fdf3ace6799be0d23a759d5", func := "sightbench/sightbenchlaw01.ExactNext", spec := "exactNext", inPlace := ["math/bits.Add64", "math/bits.Sub64"], unfollowed := true, recurses := true, named := ["math/bits.divideError", "math/bits.overflowError", "internal/strconv.uint64pow10", "math/bits.deBruijn32tab", "math/bits.deBruijn64tab"], apart := false, laid := [("math/bits.deBruijn32tab", laid_math_bits_deBruijn32tab), ("math/bits.deBruijn64tab", laid_math_bits_deBruijn64tab), ("internal/strconv.uint64pow10", laid_internal_strconv_uint64pow10)], narrowed := true }
def ExactNextUptoSaid : Prop := exactNextUptoRow.holds Tryd.pinned (OpenSpec.upto exactNextSpec)

/-- 'sightbenchlaw01.ExactRoots', WHERE WHAT IT READS IS OF BULK AT MOST 1048576: true; the input reads as it did. -/
def exactRootsUptoRow : OpenClaim := { program := "ytodoimeiklilhaadoor", sum := "9e51ebbc9e5dd07993abc37d42f583dbc2bd1b626fdf3ace6799be0d23a759d5", func := "sightbench/sightbenchlaw01.ExactRoots", spec := "exactRoots", inPlace := ["math/bits.Add64", "math/bits.Sub64"], unfollowed := true, recurses := true, named := ["math/bits.divideError", "math/bits.overflowError", "internal/strconv.uint64pow10", "math/bits.deBruijn32tab", "math/bits.deBruijn64tab"], apart := false, laid := [("math/bits.deBruijn32tab", laid_math_bits_deBruijn32tab), ("math/bits.deBruijn64tab", laid_math_bits_deBruijn64tab), ("internal/strconv.uint64pow10", laid_internal_strconv_uint64pow10)], narrowed := true }
def ExactRootsUptoSaid : Prop := exactRootsUptoRow.holds Tryd.pinned (OpenSpec.upto exactRootsSpec)

/-- 'sightbenchlaw01.ExactMeets', WHERE WHAT IT READS IS OF BULK AT MOST 1048576: true; the input reads as it did. -/
def exactMeetsUptoRow : OpenClaim := { program := "ytodoimeiklilhaadoor", sum := "9e51ebbc9e5dd07993abc37d42f583dbc2bd1b626fdf3ace6799be0d23a759d5", func := "sightbench/sightbenchlaw01.ExactMeets", spec := "exactMeets", inPlace := ["math/bits.Add64", "math/bits.Sub64"], unfollowed := true, recurses := true, named := ["math/bits.divideError", "math/bits.overflowError", "internal/strconv.uint64pow10", "math/bits.deBruijn32tab", "math/bits.deBruijn64tab"], apart := false, laid := [("math/bits.deBruijn32tab", laid_math_bits_deBruijn32tab), ("math/bits.deBruijn64tab", laid_math_bits_deBruijn64tab), ("internal/strconv.uint64pow10", laid_internal_strconv_uint64pow10)], narrowed := true }
def ExactMeetsUptoSaid : Prop := exactMeetsUptoRow.holds Tryd.pinned (OpenSpec.upto exactMeetsSpec)

/-- 'sightbenchlaw01.ExactTight', WHERE WHAT IT READS IS OF BULK AT MOST 1048576: true; the input reads as it did. -/
def exactTightUptoRow : OpenClaim := { program := "ytodoimeiklilhaadoor", sum := "9e51ebbc9e5dd07993abc37d42f583dbc2bd1b626fdf3ace6799be0d23a759d5", func := "sightbench/sightbenchlaw01.ExactTight", spec := "exactTight", inPlace := ["math/bits.Add64", "math/bits.Sub64"], unfollowed := true, recurses := true, named := ["math/bits.divideError", "math/bits.overflowError", "internal/strconv.uint64pow10", "math/bits.deBruijn32tab", "math/bits.deBruijn64tab"], apart := false, laid := [("math/bits.deBruijn32tab", laid_math_bits_deBruijn32tab), ("math/bits.deBruijn64tab", laid_math_bits_deBruijn64tab), ("internal/strconv.uint64pow10", laid_internal_strconv_uint64pow10)], narrowed := true }
def ExactTightUptoSaid : Prop := exactTightUptoRow.holds Tryd.pinned (OpenSpec.upto exactTightSpec)

/-- 'sightbenchlaw01.ExactEncloses', WHERE WHAT IT READS IS OF BULK AT MOST 1048576: true; the input reads as it did. -/
def exactEnclosesUptoRow : OpenClaim := { program := "ytodoimeiklilhaadoor", sum := "9e51ebbc9e5dd07993abc37d42f583dbc2bd1b626fdf3ace6799be0d23a759d5", func := "sightbench/sightbenchlaw01.ExactEncloses", spec := "exactEncloses", inPlace := ["math/bits.Add64", "math/bits.Sub64"], unfollowed := true, recurses := true, named := ["math/bits.divideError", "math/bits.overflowError", "internal/strconv.uint64pow10", "math/bits.deBruijn32tab", "math/bits.deBruijn64tab"], apart := false, laid := [("math/bits.deBruijn32tab", laid_math_bits_deBruijn32tab), ("math/bits.deBruijn64tab", laid_math_bits_deBruijn64tab), ("internal/strconv.uint64pow10", laid_internal_strconv_uint64pow10)], narrowed := true }
def ExactEnclosesUptoSaid : Prop := exactEnclosesUptoRow.holds Tryd.pinned (OpenSpec.upto exactEnclosesSpec)

/-- 'sightbenchlaw01.ExactWithin', WHERE WHAT IT READS IS OF BULK AT MOST 1048576: true; the input reads as it did. -/
def exactWithinUptoRow : OpenClaim := { program := "ytodoimeiklilhaadoor", sum := "9e51ebbc9e5dd07993abc37d42f583dbc2bd1b626fdf3ace6799be0d23a759d5", func := "sightbench/sightbenchlaw01.ExactWithin", spec := "exactWithin", inPlace := ["math/bits.Add64", "math/bits.Sub64"], unfollowed := true, recurses := true, named := ["math/bits.divideError", "math/bits.overflowError", "internal/strconv.uint64pow10", "math/bits.deBruijn32tab", "math/bits.deBruijn64tab"], apart := false, laid := [("math/bits.deBruijn32tab", laid_math_bits_deBruijn32tab), ("math/bits.deBruijn64tab", laid_math_bits_deBruijn64tab), ("internal/strconv.uint64pow10", laid_internal_strconv_uint64pow10)], narrowed := true }
def ExactWithinUptoSaid : Prop := exactWithinUptoRow.holds Tryd.pinned (OpenSpec.upto exactWithinSpec)

/-- 'sightbenchlaw01.ExactWholes', WHERE WHAT IT READS IS OF BULK AT MOST 1048576: true; the input reads as it did. -/
def exactWholesUptoRow : OpenClaim := { program := "ytodoimeiklilhaadoor", sum := "9e51ebbc9e5dd07993abc37d42f583dbc2bd1b626fdf3ace6799be0d23a759d5", func := "sightbench/sightbenchlaw01.ExactWholes", spec := "exactWholes", inPlace := ["math/bits.Add64", "math/bits.Sub64", "internal/bytealg.IndexByteString", "internal/bytealg.IndexString"], unfollowed := true, recurses := true, named := ["internal/strconv.uint64pow10", "math/bits.deBruijn32tab", "math/bits.deBruijn64tab", "internal/bytealg.MaxLen", "strconv.ErrSyntax", "strconv.ErrRange", "math/bits.divideError", "math/bits.overflowError"], apart := false, laid := [("math/bits.deBruijn32tab", laid_math_bits_deBruijn32tab), ("math/bits.deBruijn64tab", laid_math_bits_deBruijn64tab), ("internal/strconv.uint64pow10", laid_internal_strconv_uint64pow10), ("strconv.ErrRange", laid_strconv_ErrRange), ("strconv.ErrSyntax", laid_strconv_ErrSyntax)], narrowed := true }
def ExactWholesUptoSaid : Prop := exactWholesUptoRow.holds Tryd.pinned (OpenSpec.upto exactWholesSpec)

end Rows
end Go.Proofs.YtodoimeiklilhaaDoor
