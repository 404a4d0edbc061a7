/-
  DERIVED. GIVEN WITH THE SEED: THE CARDS: each row of YtodoimeiklilhaaDoorRows.lean that lists a variable, with what it lists TIED to the program's text (the seventh form; the later family's looks); each row that meets fmt, with fmt's text TOLD by the authors' own Lean function (tested against real Go, not proved from fmt's source: count such statements apart). THE CARD IS WHAT COUNTS. Prove the row's statement (the work); the ties are given (YtodoimeiklilhaaDoorTie.lean); close each card by the builder's one call (the guide's Derived/Test/ToyasCard.lean, 'card_holds'). Laid BY PROGRAM, IN A SANDBOX (cutbox-door.mjs). By AI agents, Wed Nov 11 2026. No macro, syntax, notation, axiom, sorry.
-/
import Derived.Test.YtodoimeiklilhaaDoorRows
import GoSem.ClaimSeven
namespace Go.Proofs.YtodoimeiklilhaaDoor
namespace Rows

/-- THE TIED CARD OF 'sightbenchlaw01.ExactTextBack'. -/
def exactTextBackCard : Claim7 := { stood := { row := exactTextBackRow, standIns := [], harness := (true, "73743f9602a8d5b2498bc42576e978659e5ec542a0c108d2da9e79b7b063b3cf"), looks := true }, kinds := [], alts := [], laidByText := true, laidKinds := [.data, .data, .data, .sentinel, .sentinel], laidTests := true, laidLooks := .later }
def ExactTextBackCardSaid : Prop := Claim7.holds Tryd.pinned (.plain (OpenSpec.ofChange exactTextBackSpec)) exactTextBackCard

/-- THE TIED CARD OF 'sightbenchlaw01.ExactExamples'. -/
def exactExamplesCard : Claim7 := { stood := { row := exactExamplesRow, standIns := [], harness := (true, "73743f9602a8d5b2498bc42576e978659e5ec542a0c108d2da9e79b7b063b3cf"), looks := true }, kinds := [], alts := [], laidByText := true, laidKinds := [.data, .data, .data, .sentinel, .sentinel], laidTests := true, laidLooks := .later }
def ExactExamplesCardSaid : Prop := Claim7.holds Tryd.pinned (.plain (OpenSpec.ofChange exactExamplesSpec)) exactExamplesCard

/-- THE TIED CARD OF 'sightbenchlaw01.ExactField'. -/
def exactFieldCard : Claim7 := { stood := { row := exactFieldRow, standIns := [], harness := (true, "73743f9602a8d5b2498bc42576e978659e5ec542a0c108d2da9e79b7b063b3cf"), looks := true }, kinds := [], alts := [], laidByText := true, laidKinds := [.data, .data, .data], laidTests := true, laidLooks := .later }
def ExactFieldCardSaid : Prop := Claim7.holds Tryd.pinned (.plain (OpenSpec.ofChange exactFieldSpec)) exactFieldCard

/-- THE TIED CARD OF 'sightbenchlaw01.ExactBack'. -/
def exactBackCard : Claim7 := { stood := { row := exactBackRow, standIns := [], harness := (true, "73743f9602a8d5b2498bc42576e978659e5ec542a0c108d2da9e79b7b063b3cf"), looks := true }, kinds := [], alts := [], laidByText := true, laidKinds := [.data, .data, .data], laidTests := true, laidLooks := .later }
def ExactBackCardSaid : Prop := Claim7.holds Tryd.pinned (.plain (OpenSpec.ofChange exactBackSpec)) exactBackCard

/-- THE TIED CARD OF 'sightbenchlaw01.ExactMade'. -/
def exactMadeCard : Claim7 := { stood := { row := exactMadeRow, standIns := [], harness := (true, "73743f9602a8d5b2498bc42576e978659e5ec542a0c108d2da9e79b7b063b3cf"), looks := true }, kinds := [], alts := [], laidByText := true, laidKinds := [.data, .data, .data], laidTests := true, laidLooks := .later }
def ExactMadeCardSaid : Prop := Claim7.holds Tryd.pinned (.plain (OpenSpec.ofChange exactMadeSpec)) exactMadeCard

/-- THE TIED CARD OF 'sightbenchlaw01.ExactOrder'. -/
def exactOrderCard : Claim7 := { stood := { row := exactOrderRow, standIns := [], harness := (true, "73743f9602a8d5b2498bc42576e978659e5ec542a0c108d2da9e79b7b063b3cf"), looks := true }, kinds := [], alts := [], laidByText := true, laidKinds := [.data, .data, .data], laidTests := true, laidLooks := .later }
def ExactOrderCardSaid : Prop := Claim7.holds Tryd.pinned (.plain (OpenSpec.ofChange exactOrderSpec)) exactOrderCard

/-- THE TIED CARD OF 'sightbenchlaw01.ExactNext'. -/
def exactNextCard : Claim7 := { stood := { row := exactNextRow, standIns := [], harness := (true, "73743f9602a8d5b2498bc42576e978659e5ec542a0c108d2da9e79b7b063b3cf"), looks := true }, kinds := [], alts := [], laidByText := true, laidKinds := [.data, .data, .data], laidTests := true, laidLooks := .later }
def ExactNextCardSaid : Prop := Claim7.holds Tryd.pinned (.plain (OpenSpec.ofChange exactNextSpec)) exactNextCard

/-- THE TIED CARD OF 'sightbenchlaw01.ExactRoots'. -/
def exactRootsCard : Claim7 := { stood := { row := exactRootsRow, standIns := [], harness := (true, "73743f9602a8d5b2498bc42576e978659e5ec542a0c108d2da9e79b7b063b3cf"), looks := true }, kinds := [], alts := [], laidByText := true, laidKinds := [.data, .data, .data], laidTests := true, laidLooks := .later }
def ExactRootsCardSaid : Prop := Claim7.holds Tryd.pinned (.plain (OpenSpec.ofChange exactRootsSpec)) exactRootsCard

/-- THE TIED CARD OF 'sightbenchlaw01.ExactMeets'. -/
def exactMeetsCard : Claim7 := { stood := { row := exactMeetsRow, standIns := [], harness := (true, "73743f9602a8d5b2498bc42576e978659e5ec542a0c108d2da9e79b7b063b3cf"), looks := true }, kinds := [], alts := [], laidByText := true, laidKinds := [.data, .data, .data], laidTests := true, laidLooks := .later }
def ExactMeetsCardSaid : Prop := Claim7.holds Tryd.pinned (.plain (OpenSpec.ofChange exactMeetsSpec)) exactMeetsCard

/-- THE TIED CARD OF 'sightbenchlaw01.ExactTight'. -/
def exactTightCard : Claim7 := { stood := { row := exactTightRow, standIns := [], harness := (true, "73743f9602a8d5b2498bc42576e978659e5ec542a0c108d2da9e79b7b063b3cf"), looks := true }, kinds := [], alts := [], laidByText := true, laidKinds := [.data, .data, .data], laidTests := true, laidLooks := .later }
def ExactTightCardSaid : Prop := Claim7.holds Tryd.pinned (.plain (OpenSpec.ofChange exactTightSpec)) exactTightCard

/-- THE TIED CARD OF 'sightbenchlaw01.ExactEncloses'. -/
def exactEnclosesCard : Claim7 := { stood := { row := exactEnclosesRow, standIns := [], harness := (true, "73743f9602a8d5b2498bc42576e978659e5ec542a0c108d2da9e79b7b063b3cf"), looks := true }, kinds := [], alts := [], laidByText := true, laidKinds := [.data, .data, .data], laidTests := true, laidLooks := .later }
def ExactEnclosesCardSaid : Prop := Claim7.holds Tryd.pinned (.plain (OpenSpec.ofChange exactEnclosesSpec)) exactEnclosesCard

/-- THE TIED CARD OF 'sightbenchlaw01.ExactWithin'. -/
def exactWithinCard : Claim7 := { stood := { row := exactWithinRow, standIns := [], harness := (true, "73743f9602a8d5b2498bc42576e978659e5ec542a0c108d2da9e79b7b063b3cf"), looks := true }, kinds := [], alts := [], laidByText := true, laidKinds := [.data, .data, .data], laidTests := true, laidLooks := .later }
def ExactWithinCardSaid : Prop := Claim7.holds Tryd.pinned (.plain (OpenSpec.ofChange exactWithinSpec)) exactWithinCard

/-- THE TIED CARD OF 'sightbenchlaw01.ExactWholes'. -/
def exactWholesCard : Claim7 := { stood := { row := exactWholesRow, standIns := [], harness := (true, "73743f9602a8d5b2498bc42576e978659e5ec542a0c108d2da9e79b7b063b3cf"), looks := true }, kinds := [], alts := [], laidByText := true, laidKinds := [.data, .data, .data, .sentinel, .sentinel], laidTests := true, laidLooks := .later }
def ExactWholesCardSaid : Prop := Claim7.holds Tryd.pinned (.plain (OpenSpec.ofChange exactWholesSpec)) exactWholesCard

/-- THE SECOND FORM's CARD OF 'sightbenchlaw01.ExactTextBack'. -/
def exactTextBackUptoCard : Claim7 := { stood := { row := exactTextBackUptoRow, standIns := [], harness := (true, "73743f9602a8d5b2498bc42576e978659e5ec542a0c108d2da9e79b7b063b3cf"), looks := true }, kinds := [], alts := [], laidByText := true, laidKinds := [.data, .data, .data, .sentinel, .sentinel], laidTests := true, laidLooks := .later }
def ExactTextBackUptoCardSaid : Prop := Claim7.holds Tryd.pinned (.plain (OpenSpec.upto exactTextBackSpec)) exactTextBackUptoCard

/-- THE SECOND FORM's CARD OF 'sightbenchlaw01.ExactExamples'. -/
def exactExamplesUptoCard : Claim7 := { stood := { row := exactExamplesUptoRow, standIns := [], harness := (true, "73743f9602a8d5b2498bc42576e978659e5ec542a0c108d2da9e79b7b063b3cf"), looks := true }, kinds := [], alts := [], laidByText := true, laidKinds := [.data, .data, .data, .sentinel, .sentinel], laidTests := true, laidLooks := .later }
def ExactExamplesUptoCardSaid : Prop := Claim7.holds Tryd.pinned (.plain (OpenSpec.upto exactExamplesSpec)) exactExamplesUptoCard

/-- THE SECOND FORM's CARD OF 'sightbenchlaw01.ExactField'. -/
def exactFieldUptoCard : Claim7 := { stood := { row := exactFieldUptoRow, standIns := [], harness := (true, "73743f9602a8d5b2498bc42576e978659e5ec542a0c108d2da9e79b7b063b3cf"), looks := true }, kinds := [], alts := [], laidByText := true, laidKinds := [.data, .data, .data], laidTests := true, laidLooks := .later }
def ExactFieldUptoCardSaid : Prop := Claim7.holds Tryd.pinned (.plain (OpenSpec.upto exactFieldSpec)) exactFieldUptoCard

/-- THE SECOND FORM's CARD OF 'sightbenchlaw01.ExactBack'. -/
def exactBackUptoCard : Claim7 := { stood := { row := exactBackUptoRow, standIns := [], harness := (true, "73743f9602a8d5b2498bc42576e978659e5ec542a0c108d2da9e79b7b063b3cf"), looks := true }, kinds := [], alts := [], laidByText := true, laidKinds := [.data, .data, .data], laidTests := true, laidLooks := .later }
def ExactBackUptoCardSaid : Prop := Claim7.holds Tryd.pinned (.plain (OpenSpec.upto exactBackSpec)) exactBackUptoCard

/-- THE SECOND FORM's CARD OF 'sightbenchlaw01.ExactMade'. -/
def exactMadeUptoCard : Claim7 := { stood := { row := exactMadeUptoRow, standIns := [], harness := (true, "73743f9602a8d5b2498bc42576e978659e5ec542a0c108d2da9e79b7b063b3cf"), looks := true }, kinds := [], alts := [], laidByText := true, laidKinds := [.data, .data, .data], laidTests := true, laidLooks := .later }
def ExactMadeUptoCardSaid : Prop := Claim7.holds Tryd.pinned (.plain (OpenSpec.upto exactMadeSpec)) exactMadeUptoCard

/-- THE SECOND FORM's CARD OF 'sightbenchlaw01.ExactOrder'. -/
def exactOrderUptoCard : Claim7 := { stood := { row := exactOrderUptoRow, standIns := [], harness := (true, "73743f9602a8d5b2498bc42576e978659e5ec542a0c108d2da9e79b7b063b3cf"), looks := true }, kinds := [], alts := [], laidByText := true, laidKinds := [.data, .data, .data], laidTests := true, laidLooks := .later }
def ExactOrderUptoCardSaid : Prop := Claim7.holds Tryd.pinned (.plain (OpenSpec.upto exactOrderSpec)) exactOrderUptoCard

/-- THE SECOND FORM's CARD OF 'sightbenchlaw01.ExactNext'. -/
def exactNextUptoCard : Claim7 := { stood := { row := exactNextUptoRow, standIns := [], harness := (true, "73743f9602a8d5b2498bc42576e978659e5ec542a0c108d2da9e79b7b063b3cf"), looks := true }, kinds := [], alts := [], laidByText := true, laidKinds := [.data, .data, .data], laidTests := true, laidLooks := .later }
def ExactNextUptoCardSaid : Prop := Claim7.holds Tryd.pinned (.plain (OpenSpec.upto exactNextSpec)) exactNextUptoCard

/-- THE SECOND FORM's CARD OF 'sightbenchlaw01.ExactRoots'. -/
def exactRootsUptoCard : Claim7 := { stood := { row := exactRootsUptoRow, standIns := [], harness := (true, "73743f9602a8d5b2498bc42576e978659e5ec542a0c108d2da9e79b7b063b3cf"), looks := true }, kinds := [], alts := [], laidByText := true, laidKinds := [.data, .data, .data], laidTests := true, laidLooks := .later }
def ExactRootsUptoCardSaid : Prop := Claim7.holds Tryd.pinned (.plain (OpenSpec.upto exactRootsSpec)) exactRootsUptoCard

/-- THE SECOND FORM's CARD OF 'sightbenchlaw01.ExactMeets'. -/
def exactMeetsUptoCard : Claim7 := { stood := { row := exactMeetsUptoRow, standIns := [], harness := (true, "73743f9602a8d5b2498bc42576e978659e5ec542a0c108d2da9e79b7b063b3cf"), looks := true }, kinds := [], alts := [], laidByText := true, laidKinds := [.data, .data, .data], laidTests := true, laidLooks := .later }
def ExactMeetsUptoCardSaid : Prop := Claim7.holds Tryd.pinned (.plain (OpenSpec.upto exactMeetsSpec)) exactMeetsUptoCard

/-- THE SECOND FORM's CARD OF 'sightbenchlaw01.ExactTight'. -/
def exactTightUptoCard : Claim7 := { stood := { row := exactTightUptoRow, standIns := [], harness := (true, "73743f9602a8d5b2498bc42576e978659e5ec542a0c108d2da9e79b7b063b3cf"), looks := true }, kinds := [], alts := [], laidByText := true, laidKinds := [.data, .data, .data], laidTests := true, laidLooks := .later }
def ExactTightUptoCardSaid : Prop := Claim7.holds Tryd.pinned (.plain (OpenSpec.upto exactTightSpec)) exactTightUptoCard

/-- THE SECOND FORM's CARD OF 'sightbenchlaw01.ExactEncloses'. -/
def exactEnclosesUptoCard : Claim7 := { stood := { row := exactEnclosesUptoRow, standIns := [], harness := (true, "73743f9602a8d5b2498bc42576e978659e5ec542a0c108d2da9e79b7b063b3cf"), looks := true }, kinds := [], alts := [], laidByText := true, laidKinds := [.data, .data, .data], laidTests := true, laidLooks := .later }
def ExactEnclosesUptoCardSaid : Prop := Claim7.holds Tryd.pinned (.plain (OpenSpec.upto exactEnclosesSpec)) exactEnclosesUptoCard

/-- THE SECOND FORM's CARD OF 'sightbenchlaw01.ExactWithin'. -/
def exactWithinUptoCard : Claim7 := { stood := { row := exactWithinUptoRow, standIns := [], harness := (true, "73743f9602a8d5b2498bc42576e978659e5ec542a0c108d2da9e79b7b063b3cf"), looks := true }, kinds := [], alts := [], laidByText := true, laidKinds := [.data, .data, .data], laidTests := true, laidLooks := .later }
def ExactWithinUptoCardSaid : Prop := Claim7.holds Tryd.pinned (.plain (OpenSpec.upto exactWithinSpec)) exactWithinUptoCard

/-- THE SECOND FORM's CARD OF 'sightbenchlaw01.ExactWholes'. -/
def exactWholesUptoCard : Claim7 := { stood := { row := exactWholesUptoRow, standIns := [], harness := (true, "73743f9602a8d5b2498bc42576e978659e5ec542a0c108d2da9e79b7b063b3cf"), looks := true }, kinds := [], alts := [], laidByText := true, laidKinds := [.data, .data, .data, .sentinel, .sentinel], laidTests := true, laidLooks := .later }
def ExactWholesUptoCardSaid : Prop := Claim7.holds Tryd.pinned (.plain (OpenSpec.upto exactWholesSpec)) exactWholesUptoCard
end Rows
end Go.Proofs.YtodoimeiklilhaaDoor
