/-
  DERIVED. GIVEN WITH THE SEED: THE CARDS: each row of YtlnofbdhamingaaDoorRows.lean that lists a variable, with what it lists TIED to the program's text (the seventh form; the later family's looks); each row that meets fmt, with fmt's text TOLD by the authors' own Lean function (tested against real Go, not proved from fmt's source: count such statements apart). THE CARD IS WHAT COUNTS. Prove the row's statement (the work); the ties are given (YtlnofbdhamingaaDoorTie.lean); close each card by the builder's one call (the guide's Derived/Test/ToyasCard.lean, 'card_holds'). Laid BY PROGRAM, IN A SANDBOX (cutbox-door.mjs). By AI agents, Wed Nov 11 2026. No macro, syntax, notation, axiom, sorry.
-/
import Derived.Test.YtlnofbdhamingaaDoorRows
import GoSem.ClaimSeven
namespace Go.Proofs.YtlnofbdhamingaaDoor
namespace Rows

/-- THE TIED CARD OF 'sightbenchlaw06.MarkSymbols'. -/
def markSymbolsCard : Claim7 := { stood := { row := markSymbolsRow, standIns := [], harness := (true, "77e809affb4fd19b4b66d45cb4e990bb930714b87f1c58a7808240162d94acbc"), looks := false }, kinds := [], alts := [], laidByText := true, laidKinds := [.data, .data], laidTests := true, laidLooks := .later }
def MarkSymbolsCardSaid : Prop := Claim7.holds Tryd.pinned (.plain (OpenSpec.ofChange markSymbolsSpec)) markSymbolsCard

/-- THE TIED CARD OF 'sightbenchlaw06.MarkDecodes'. -/
def markDecodesCard : Claim7 := { stood := { row := markDecodesRow, standIns := [], harness := (true, "77e809affb4fd19b4b66d45cb4e990bb930714b87f1c58a7808240162d94acbc"), looks := false }, kinds := [], alts := [], laidByText := true, laidKinds := [.data, .data], laidTests := true, laidLooks := .later }
def MarkDecodesCardSaid : Prop := Claim7.holds Tryd.pinned (.plain (OpenSpec.ofChange markDecodesSpec)) markDecodesCard

/-- THE TIED CARD OF 'sightbenchlaw06.MarkReads'. -/
def markReadsCard : Claim7 := { stood := { row := markReadsRow, standIns := [], harness := (true, "77e809affb4fd19b4b66d45cb4e990bb930714b87f1c58a7808240162d94acbc"), looks := false }, kinds := [], alts := [], laidByText := true, laidKinds := [.data, .data], laidTests := true, laidLooks := .later }
def MarkReadsCardSaid : Prop := Claim7.holds Tryd.pinned (.plain (OpenSpec.ofChange markReadsSpec)) markReadsCard

/-- THE TIED CARD OF 'sightbenchlaw06.MarkDraws'. -/
def markDrawsCard : Claim7 := { stood := { row := markDrawsRow, standIns := [], harness := (true, "77e809affb4fd19b4b66d45cb4e990bb930714b87f1c58a7808240162d94acbc"), looks := false }, kinds := [], alts := [], laidByText := true, laidKinds := [.data, .data, .data, .pinned], laidTests := true, laidLooks := .later }
def MarkDrawsCardSaid : Prop := Claim7.holds Tryd.pinned (.plain (OpenSpec.ofChange markDrawsSpec)) markDrawsCard

/-- THE TIED CARD OF 'sightbenchlaw06.MarkField'. -/
def markFieldCard : Claim7 := { stood := { row := markFieldRow, standIns := [], harness := (true, "77e809affb4fd19b4b66d45cb4e990bb930714b87f1c58a7808240162d94acbc"), looks := false }, kinds := [], alts := [], laidByText := true, laidKinds := [.data, .data, .data, .pinned], laidTests := true, laidLooks := .later }
def MarkFieldCardSaid : Prop := Claim7.holds Tryd.pinned (.plain (OpenSpec.ofChange markFieldSpec)) markFieldCard

/-- THE TIED CARD OF 'sightbenchlaw06.MarkFar'. -/
def markFarCard : Claim7 := { stood := { row := markFarRow, standIns := [], harness := (true, "77e809affb4fd19b4b66d45cb4e990bb930714b87f1c58a7808240162d94acbc"), looks := false }, kinds := [], alts := [], laidByText := true, laidKinds := [.data, .data, .data, .pinned], laidTests := true, laidLooks := .later }
def MarkFarCardSaid : Prop := Claim7.holds Tryd.pinned (.plain (OpenSpec.ofChange markFarSpec)) markFarCard

/-- THE TIED CARD OF 'sightbenchlaw06.MarkCorrects'. -/
def markCorrectsCard : Claim7 := { stood := { row := markCorrectsRow, standIns := [], harness := (true, "77e809affb4fd19b4b66d45cb4e990bb930714b87f1c58a7808240162d94acbc"), looks := false }, kinds := [], alts := [], laidByText := true, laidKinds := [.data, .data, .data, .pinned], laidTests := true, laidLooks := .later }
def MarkCorrectsCardSaid : Prop := Claim7.holds Tryd.pinned (.plain (OpenSpec.ofChange markCorrectsSpec)) markCorrectsCard

/-- THE TIED CARD OF 'sightbenchlaw06.MarkFits'. -/
def markFitsCard : Claim7 := { stood := { row := markFitsRow, standIns := [], harness := (true, "77e809affb4fd19b4b66d45cb4e990bb930714b87f1c58a7808240162d94acbc"), looks := false }, kinds := [], alts := [], laidByText := true, laidKinds := [.data, .data, .data, .pinned], laidTests := true, laidLooks := .later }
def MarkFitsCardSaid : Prop := Claim7.holds Tryd.pinned (.plain (OpenSpec.ofChange markFitsSpec)) markFitsCard

/-- THE TIED CARD OF 'sightbenchlaw06.MarkSeen'. -/
def markSeenCard : Claim7 := { stood := { row := markSeenRow, standIns := [], harness := (true, "77e809affb4fd19b4b66d45cb4e990bb930714b87f1c58a7808240162d94acbc"), looks := false }, kinds := [], alts := [], laidByText := true, laidKinds := [.data, .data, .data, .pinned], laidTests := true, laidLooks := .later }
def MarkSeenCardSaid : Prop := Claim7.holds Tryd.pinned (.plain (OpenSpec.ofChange markSeenSpec)) markSeenCard

/-- THE TIED CARD OF 'sightbenchlaw06.MarkDamaged'. -/
def markDamagedCard : Claim7 := { stood := { row := markDamagedRow, standIns := [], harness := (true, "77e809affb4fd19b4b66d45cb4e990bb930714b87f1c58a7808240162d94acbc"), looks := false }, kinds := [], alts := [], laidByText := true, laidKinds := [.data, .data, .data, .pinned], laidTests := true, laidLooks := .later }
def MarkDamagedCardSaid : Prop := Claim7.holds Tryd.pinned (.plain (OpenSpec.ofChange markDamagedSpec)) markDamagedCard

/-- THE TIED CARD OF 'sightbenchlaw06.MarkShapes'. -/
def markShapesCard : Claim7 := { stood := { row := markShapesRow, standIns := [], harness := (true, "77e809affb4fd19b4b66d45cb4e990bb930714b87f1c58a7808240162d94acbc"), looks := false }, kinds := [], alts := [], laidByText := true, laidKinds := [.data, .data, .data, .pinned], laidTests := true, laidLooks := .later }
def MarkShapesCardSaid : Prop := Claim7.holds Tryd.pinned (.plain (OpenSpec.ofChange markShapesSpec)) markShapesCard

/-- THE TIED CARD OF 'sightbenchlaw06.MarkLines'. -/
def markLinesCard : Claim7 := { stood := { row := markLinesRow, standIns := [], harness := (true, "77e809affb4fd19b4b66d45cb4e990bb930714b87f1c58a7808240162d94acbc"), looks := false }, kinds := [], alts := [], laidByText := true, laidKinds := [.data, .data, .data, .pinned], laidTests := true, laidLooks := .later }
def MarkLinesCardSaid : Prop := Claim7.holds Tryd.pinned (.plain (OpenSpec.ofChange markLinesSpec)) markLinesCard

/-- THE TIED CARD OF 'sightbenchlaw06.MarkApart'. -/
def markApartCard : Claim7 := { stood := { row := markApartRow, standIns := [], harness := (true, "77e809affb4fd19b4b66d45cb4e990bb930714b87f1c58a7808240162d94acbc"), looks := false }, kinds := [], alts := [], laidByText := true, laidKinds := [.data, .data, .data, .pinned], laidTests := true, laidLooks := .later }
def MarkApartCardSaid : Prop := Claim7.holds Tryd.pinned (.plain (OpenSpec.ofChange markApartSpec)) markApartCard

/-- THE TIED CARD OF 'sightbenchlaw06.MarkExamples'. -/
def markExamplesCard : Claim7 := { stood := { row := markExamplesRow, standIns := [], harness := (true, "77e809affb4fd19b4b66d45cb4e990bb930714b87f1c58a7808240162d94acbc"), looks := false }, kinds := [], alts := [], laidByText := true, laidKinds := [.data, .data, .data, .pinned], laidTests := true, laidLooks := .later }
def MarkExamplesCardSaid : Prop := Claim7.holds Tryd.pinned (.plain (OpenSpec.ofChange markExamplesSpec)) markExamplesCard

/-- THE TIED CARD OF 'sightbenchlaw06.MarkSharp'. -/
def markSharpCard : Claim7 := { stood := { row := markSharpRow, standIns := [], harness := (true, "77e809affb4fd19b4b66d45cb4e990bb930714b87f1c58a7808240162d94acbc"), looks := false }, kinds := [], alts := [], laidByText := true, laidKinds := [.data, .data, .data, .pinned], laidTests := true, laidLooks := .later }
def MarkSharpCardSaid : Prop := Claim7.holds Tryd.pinned (.plain (OpenSpec.ofChange markSharpSpec)) markSharpCard

/-- THE SECOND FORM's CARD OF 'sightbenchlaw06.MarkSymbols'. -/
def markSymbolsUptoCard : Claim7 := { stood := { row := markSymbolsUptoRow, standIns := [], harness := (true, "77e809affb4fd19b4b66d45cb4e990bb930714b87f1c58a7808240162d94acbc"), looks := false }, kinds := [], alts := [], laidByText := true, laidKinds := [.data, .data], laidTests := true, laidLooks := .later }
def MarkSymbolsUptoCardSaid : Prop := Claim7.holds Tryd.pinned (.plain (OpenSpec.upto markSymbolsSpec)) markSymbolsUptoCard

/-- THE SECOND FORM's CARD OF 'sightbenchlaw06.MarkDecodes'. -/
def markDecodesUptoCard : Claim7 := { stood := { row := markDecodesUptoRow, standIns := [], harness := (true, "77e809affb4fd19b4b66d45cb4e990bb930714b87f1c58a7808240162d94acbc"), looks := false }, kinds := [], alts := [], laidByText := true, laidKinds := [.data, .data], laidTests := true, laidLooks := .later }
def MarkDecodesUptoCardSaid : Prop := Claim7.holds Tryd.pinned (.plain (OpenSpec.upto markDecodesSpec)) markDecodesUptoCard

/-- THE SECOND FORM's CARD OF 'sightbenchlaw06.MarkReads'. -/
def markReadsUptoCard : Claim7 := { stood := { row := markReadsUptoRow, standIns := [], harness := (true, "77e809affb4fd19b4b66d45cb4e990bb930714b87f1c58a7808240162d94acbc"), looks := false }, kinds := [], alts := [], laidByText := true, laidKinds := [.data, .data], laidTests := true, laidLooks := .later }
def MarkReadsUptoCardSaid : Prop := Claim7.holds Tryd.pinned (.plain (OpenSpec.upto markReadsSpec)) markReadsUptoCard

/-- THE SECOND FORM's CARD OF 'sightbenchlaw06.MarkDraws'. -/
def markDrawsUptoCard : Claim7 := { stood := { row := markDrawsUptoRow, standIns := [], harness := (true, "77e809affb4fd19b4b66d45cb4e990bb930714b87f1c58a7808240162d94acbc"), looks := false }, kinds := [], alts := [], laidByText := true, laidKinds := [.data, .data, .data, .pinned], laidTests := true, laidLooks := .later }
def MarkDrawsUptoCardSaid : Prop := Claim7.holds Tryd.pinned (.plain (OpenSpec.upto markDrawsSpec)) markDrawsUptoCard

/-- THE SECOND FORM's CARD OF 'sightbenchlaw06.MarkField'. -/
def markFieldUptoCard : Claim7 := { stood := { row := markFieldUptoRow, standIns := [], harness := (true, "77e809affb4fd19b4b66d45cb4e990bb930714b87f1c58a7808240162d94acbc"), looks := false }, kinds := [], alts := [], laidByText := true, laidKinds := [.data, .data, .data, .pinned], laidTests := true, laidLooks := .later }
def MarkFieldUptoCardSaid : Prop := Claim7.holds Tryd.pinned (.plain (OpenSpec.upto markFieldSpec)) markFieldUptoCard

/-- THE SECOND FORM's CARD OF 'sightbenchlaw06.MarkFar'. -/
def markFarUptoCard : Claim7 := { stood := { row := markFarUptoRow, standIns := [], harness := (true, "77e809affb4fd19b4b66d45cb4e990bb930714b87f1c58a7808240162d94acbc"), looks := false }, kinds := [], alts := [], laidByText := true, laidKinds := [.data, .data, .data, .pinned], laidTests := true, laidLooks := .later }
def MarkFarUptoCardSaid : Prop := Claim7.holds Tryd.pinned (.plain (OpenSpec.upto markFarSpec)) markFarUptoCard

/-- THE SECOND FORM's CARD OF 'sightbenchlaw06.MarkCorrects'. -/
def markCorrectsUptoCard : Claim7 := { stood := { row := markCorrectsUptoRow, standIns := [], harness := (true, "77e809affb4fd19b4b66d45cb4e990bb930714b87f1c58a7808240162d94acbc"), looks := false }, kinds := [], alts := [], laidByText := true, laidKinds := [.data, .data, .data, .pinned], laidTests := true, laidLooks := .later }
def MarkCorrectsUptoCardSaid : Prop := Claim7.holds Tryd.pinned (.plain (OpenSpec.upto markCorrectsSpec)) markCorrectsUptoCard

/-- THE SECOND FORM's CARD OF 'sightbenchlaw06.MarkFits'. -/
def markFitsUptoCard : Claim7 := { stood := { row := markFitsUptoRow, standIns := [], harness := (true, "77e809affb4fd19b4b66d45cb4e990bb930714b87f1c58a7808240162d94acbc"), looks := false }, kinds := [], alts := [], laidByText := true, laidKinds := [.data, .data, .data, .pinned], laidTests := true, laidLooks := .later }
def MarkFitsUptoCardSaid : Prop := Claim7.holds Tryd.pinned (.plain (OpenSpec.upto markFitsSpec)) markFitsUptoCard

/-- THE SECOND FORM's CARD OF 'sightbenchlaw06.MarkSeen'. -/
def markSeenUptoCard : Claim7 := { stood := { row := markSeenUptoRow, standIns := [], harness := (true, "77e809affb4fd19b4b66d45cb4e990bb930714b87f1c58a7808240162d94acbc"), looks := false }, kinds := [], alts := [], laidByText := true, laidKinds := [.data, .data, .data, .pinned], laidTests := true, laidLooks := .later }
def MarkSeenUptoCardSaid : Prop := Claim7.holds Tryd.pinned (.plain (OpenSpec.upto markSeenSpec)) markSeenUptoCard

/-- THE SECOND FORM's CARD OF 'sightbenchlaw06.MarkDamaged'. -/
def markDamagedUptoCard : Claim7 := { stood := { row := markDamagedUptoRow, standIns := [], harness := (true, "77e809affb4fd19b4b66d45cb4e990bb930714b87f1c58a7808240162d94acbc"), looks := false }, kinds := [], alts := [], laidByText := true, laidKinds := [.data, .data, .data, .pinned], laidTests := true, laidLooks := .later }
def MarkDamagedUptoCardSaid : Prop := Claim7.holds Tryd.pinned (.plain (OpenSpec.upto markDamagedSpec)) markDamagedUptoCard

/-- THE SECOND FORM's CARD OF 'sightbenchlaw06.MarkShapes'. -/
def markShapesUptoCard : Claim7 := { stood := { row := markShapesUptoRow, standIns := [], harness := (true, "77e809affb4fd19b4b66d45cb4e990bb930714b87f1c58a7808240162d94acbc"), looks := false }, kinds := [], alts := [], laidByText := true, laidKinds := [.data, .data, .data, .pinned], laidTests := true, laidLooks := .later }
def MarkShapesUptoCardSaid : Prop := Claim7.holds Tryd.pinned (.plain (OpenSpec.upto markShapesSpec)) markShapesUptoCard

/-- THE SECOND FORM's CARD OF 'sightbenchlaw06.MarkLines'. -/
def markLinesUptoCard : Claim7 := { stood := { row := markLinesUptoRow, standIns := [], harness := (true, "77e809affb4fd19b4b66d45cb4e990bb930714b87f1c58a7808240162d94acbc"), looks := false }, kinds := [], alts := [], laidByText := true, laidKinds := [.data, .data, .data, .pinned], laidTests := true, laidLooks := .later }
def MarkLinesUptoCardSaid : Prop := Claim7.holds Tryd.pinned (.plain (OpenSpec.upto markLinesSpec)) markLinesUptoCard

/-- THE SECOND FORM's CARD OF 'sightbenchlaw06.MarkApart'. -/
def markApartUptoCard : Claim7 := { stood := { row := markApartUptoRow, standIns := [], harness := (true, "77e809affb4fd19b4b66d45cb4e990bb930714b87f1c58a7808240162d94acbc"), looks := false }, kinds := [], alts := [], laidByText := true, laidKinds := [.data, .data, .data, .pinned], laidTests := true, laidLooks := .later }
def MarkApartUptoCardSaid : Prop := Claim7.holds Tryd.pinned (.plain (OpenSpec.upto markApartSpec)) markApartUptoCard

/-- THE SECOND FORM's CARD OF 'sightbenchlaw06.MarkExamples'. -/
def markExamplesUptoCard : Claim7 := { stood := { row := markExamplesUptoRow, standIns := [], harness := (true, "77e809affb4fd19b4b66d45cb4e990bb930714b87f1c58a7808240162d94acbc"), looks := false }, kinds := [], alts := [], laidByText := true, laidKinds := [.data, .data, .data, .pinned], laidTests := true, laidLooks := .later }
def MarkExamplesUptoCardSaid : Prop := Claim7.holds Tryd.pinned (.plain (OpenSpec.upto markExamplesSpec)) markExamplesUptoCard

/-- THE SECOND FORM's CARD OF 'sightbenchlaw06.MarkSharp'. -/
def markSharpUptoCard : Claim7 := { stood := { row := markSharpUptoRow, standIns := [], harness := (true, "77e809affb4fd19b4b66d45cb4e990bb930714b87f1c58a7808240162d94acbc"), looks := false }, kinds := [], alts := [], laidByText := true, laidKinds := [.data, .data, .data, .pinned], laidTests := true, laidLooks := .later }
def MarkSharpUptoCardSaid : Prop := Claim7.holds Tryd.pinned (.plain (OpenSpec.upto markSharpSpec)) markSharpUptoCard
end Rows
end Go.Proofs.YtlnofbdhamingaaDoor
