/-
  DERIVED. GIVEN WITH THE SEED: THE CARDS: each row of YtgfmjhmjnnpcgaaGreatDoorRows.lean that lists a variable, with what it lists TIED to the program's text (the seventh form; the later family's looks); each row that meets fmt, with fmt's text TOLD by the authors' own Lean function (tested against real Go, not proved from fmt's source: count such statements apart). THE CARD IS WHAT COUNTS. Prove the row's statement (the work); the ties are given (YtgfmjhmjnnpcgaaGreatDoorTie.lean); close each card by the builder's one call (the guide's Derived/Test/ToyasCard.lean, 'card_holds'). Laid BY PROGRAM, IN A SANDBOX (cutbox-door.mjs). By AI agents, Wed Nov 11 2026. No macro, syntax, notation, axiom, sorry.
-/
import Derived.Test.YtgfmjhmjnnpcgaaGreatDoorRows
import GoSem.ClaimSeven
namespace Go.Proofs.YtgfmjhmjnnpcgaaGreatDoor
namespace Rows

/-- THE TIED CARD OF 'halyardlaw.LexParts'. -/
def lexPartsCard : Claim7 := { stood := { row := lexPartsRow, standIns := [], harness := (true, "f661f98a3d30b56ed9f1261f2ba46d3da599874ec1bc1758f84061790b9b035d"), looks := true }, kinds := [], alts := [], laidByText := true, laidKinds := [.data, .data, .data, .sentinel, .sentinel], laidTests := true, laidLooks := .later }
def LexPartsCardSaid : Prop := Claim7.holds Tryz.pinned (.plain (OpenSpec.ofChange lexPartsSpec)) lexPartsCard

/-- THE TIED CARD OF 'halyardlaw.LexTells'. -/
def lexTellsCard : Claim7 := { stood := { row := lexTellsRow, standIns := [], harness := (true, "f661f98a3d30b56ed9f1261f2ba46d3da599874ec1bc1758f84061790b9b035d"), looks := true }, kinds := [], alts := [], laidByText := true, laidKinds := [.data, .data, .data, .sentinel, .sentinel], laidTests := true, laidLooks := .later }
def LexTellsCardSaid : Prop := Claim7.holds Tryz.pinned (.plain (OpenSpec.ofChange lexTellsSpec)) lexTellsCard

/-- THE TIED CARD OF 'halyardlaw.LexBack'. -/
def lexBackCard : Claim7 := { stood := { row := lexBackRow, standIns := [], harness := (true, "f661f98a3d30b56ed9f1261f2ba46d3da599874ec1bc1758f84061790b9b035d"), looks := true }, kinds := [], alts := [], laidByText := true, laidKinds := [.data, .data, .data, .sentinel, .sentinel], laidTests := true, laidLooks := .later }
def LexBackCardSaid : Prop := Claim7.holds Tryz.pinned (.plain (OpenSpec.ofChange lexBackSpec)) lexBackCard

/-- THE TIED CARD OF 'halyardlaw.LexBlank'. -/
def lexBlankCard : Claim7 := { stood := { row := lexBlankRow, standIns := [], harness := (true, "f661f98a3d30b56ed9f1261f2ba46d3da599874ec1bc1758f84061790b9b035d"), looks := true }, kinds := [], alts := [], laidByText := true, laidKinds := [.data, .data, .data, .sentinel, .sentinel], laidTests := true, laidLooks := .later }
def LexBlankCardSaid : Prop := Claim7.holds Tryz.pinned (.plain (OpenSpec.ofChange lexBlankSpec)) lexBlankCard

/-- THE TIED CARD OF 'halyardlaw.SchemaTurned'. -/
def schemaTurnedCard : Claim7 := { stood := { row := schemaTurnedRow, standIns := [], harness := (true, "f661f98a3d30b56ed9f1261f2ba46d3da599874ec1bc1758f84061790b9b035d"), looks := true }, kinds := [], alts := [], laidByText := true, laidKinds := [.data, .data, .data, .sentinel, .sentinel], laidTests := true, laidLooks := .later }
def SchemaTurnedCardSaid : Prop := Claim7.holds Tryz.pinned (.plain (OpenSpec.ofChange schemaTurnedSpec)) schemaTurnedCard

/-- THE TIED CARD OF 'halyardlaw.SchemaTells'. -/
def schemaTellsCard : Claim7 := { stood := { row := schemaTellsRow, standIns := [], harness := (true, "f661f98a3d30b56ed9f1261f2ba46d3da599874ec1bc1758f84061790b9b035d"), looks := true }, kinds := [], alts := [], laidByText := true, laidKinds := [.data, .data, .data, .sentinel, .sentinel], laidTests := true, laidLooks := .later }
def SchemaTellsCardSaid : Prop := Claim7.holds Tryz.pinned (.plain (OpenSpec.ofChange schemaTellsSpec)) schemaTellsCard

/-- THE TIED CARD OF 'halyardlaw.SchemaBack'. -/
def schemaBackCard : Claim7 := { stood := { row := schemaBackRow, standIns := [], harness := (true, "f661f98a3d30b56ed9f1261f2ba46d3da599874ec1bc1758f84061790b9b035d"), looks := true }, kinds := [], alts := [], laidByText := true, laidKinds := [.data, .data, .data, .sentinel, .sentinel], laidTests := true, laidLooks := .later }
def SchemaBackCardSaid : Prop := Claim7.holds Tryz.pinned (.plain (OpenSpec.ofChange schemaBackSpec)) schemaBackCard

/-- THE TIED CARD OF 'halyardlaw.QueryAlone'. -/
def queryAloneCard : Claim7 := { stood := { row := queryAloneRow, standIns := [], harness := (true, "f661f98a3d30b56ed9f1261f2ba46d3da599874ec1bc1758f84061790b9b035d"), looks := true }, kinds := [], alts := [], laidByText := true, laidKinds := [.data, .data, .data, .sentinel, .sentinel], laidTests := true, laidLooks := .later }
def QueryAloneCardSaid : Prop := Claim7.holds Tryz.pinned (.plain (OpenSpec.ofChange queryAloneSpec)) queryAloneCard

/-- THE TIED CARD OF 'halyardlaw.QueryTells'. -/
def queryTellsCard : Claim7 := { stood := { row := queryTellsRow, standIns := [], harness := (true, "f661f98a3d30b56ed9f1261f2ba46d3da599874ec1bc1758f84061790b9b035d"), looks := true }, kinds := [], alts := [], laidByText := true, laidKinds := [.data, .data, .data, .sentinel, .sentinel], laidTests := true, laidLooks := .later }
def QueryTellsCardSaid : Prop := Claim7.holds Tryz.pinned (.plain (OpenSpec.ofChange queryTellsSpec)) queryTellsCard

/-- THE TIED CARD OF 'halyardlaw.QueryBack'. -/
def queryBackCard : Claim7 := { stood := { row := queryBackRow, standIns := [], harness := (true, "f661f98a3d30b56ed9f1261f2ba46d3da599874ec1bc1758f84061790b9b035d"), looks := true }, kinds := [], alts := [], laidByText := true, laidKinds := [.data, .data, .data, .sentinel, .sentinel], laidTests := true, laidLooks := .later }
def QueryBackCardSaid : Prop := Claim7.holds Tryz.pinned (.plain (OpenSpec.ofChange queryBackSpec)) queryBackCard

/-- THE SECOND FORM's CARD OF 'halyardlaw.LexParts'. -/
def lexPartsUptoCard : Claim7 := { stood := { row := lexPartsUptoRow, standIns := [], harness := (true, "f661f98a3d30b56ed9f1261f2ba46d3da599874ec1bc1758f84061790b9b035d"), looks := true }, kinds := [], alts := [], laidByText := true, laidKinds := [.data, .data, .data, .sentinel, .sentinel], laidTests := true, laidLooks := .later }
def LexPartsUptoCardSaid : Prop := Claim7.holds Tryz.pinned (.plain (OpenSpec.upto lexPartsSpec)) lexPartsUptoCard

/-- THE SECOND FORM's CARD OF 'halyardlaw.LexTells'. -/
def lexTellsUptoCard : Claim7 := { stood := { row := lexTellsUptoRow, standIns := [], harness := (true, "f661f98a3d30b56ed9f1261f2ba46d3da599874ec1bc1758f84061790b9b035d"), looks := true }, kinds := [], alts := [], laidByText := true, laidKinds := [.data, .data, .data, .sentinel, .sentinel], laidTests := true, laidLooks := .later }
def LexTellsUptoCardSaid : Prop := Claim7.holds Tryz.pinned (.plain (OpenSpec.upto lexTellsSpec)) lexTellsUptoCard

/-- THE SECOND FORM's CARD OF 'halyardlaw.LexBack'. -/
def lexBackUptoCard : Claim7 := { stood := { row := lexBackUptoRow, standIns := [], harness := (true, "f661f98a3d30b56ed9f1261f2ba46d3da599874ec1bc1758f84061790b9b035d"), looks := true }, kinds := [], alts := [], laidByText := true, laidKinds := [.data, .data, .data, .sentinel, .sentinel], laidTests := true, laidLooks := .later }
def LexBackUptoCardSaid : Prop := Claim7.holds Tryz.pinned (.plain (OpenSpec.upto lexBackSpec)) lexBackUptoCard

/-- THE SECOND FORM's CARD OF 'halyardlaw.LexBlank'. -/
def lexBlankUptoCard : Claim7 := { stood := { row := lexBlankUptoRow, standIns := [], harness := (true, "f661f98a3d30b56ed9f1261f2ba46d3da599874ec1bc1758f84061790b9b035d"), looks := true }, kinds := [], alts := [], laidByText := true, laidKinds := [.data, .data, .data, .sentinel, .sentinel], laidTests := true, laidLooks := .later }
def LexBlankUptoCardSaid : Prop := Claim7.holds Tryz.pinned (.plain (OpenSpec.upto lexBlankSpec)) lexBlankUptoCard

/-- THE SECOND FORM's CARD OF 'halyardlaw.SchemaTurned'. -/
def schemaTurnedUptoCard : Claim7 := { stood := { row := schemaTurnedUptoRow, standIns := [], harness := (true, "f661f98a3d30b56ed9f1261f2ba46d3da599874ec1bc1758f84061790b9b035d"), looks := true }, kinds := [], alts := [], laidByText := true, laidKinds := [.data, .data, .data, .sentinel, .sentinel], laidTests := true, laidLooks := .later }
def SchemaTurnedUptoCardSaid : Prop := Claim7.holds Tryz.pinned (.plain (OpenSpec.upto schemaTurnedSpec)) schemaTurnedUptoCard

/-- THE SECOND FORM's CARD OF 'halyardlaw.SchemaTells'. -/
def schemaTellsUptoCard : Claim7 := { stood := { row := schemaTellsUptoRow, standIns := [], harness := (true, "f661f98a3d30b56ed9f1261f2ba46d3da599874ec1bc1758f84061790b9b035d"), looks := true }, kinds := [], alts := [], laidByText := true, laidKinds := [.data, .data, .data, .sentinel, .sentinel], laidTests := true, laidLooks := .later }
def SchemaTellsUptoCardSaid : Prop := Claim7.holds Tryz.pinned (.plain (OpenSpec.upto schemaTellsSpec)) schemaTellsUptoCard

/-- THE SECOND FORM's CARD OF 'halyardlaw.SchemaBack'. -/
def schemaBackUptoCard : Claim7 := { stood := { row := schemaBackUptoRow, standIns := [], harness := (true, "f661f98a3d30b56ed9f1261f2ba46d3da599874ec1bc1758f84061790b9b035d"), looks := true }, kinds := [], alts := [], laidByText := true, laidKinds := [.data, .data, .data, .sentinel, .sentinel], laidTests := true, laidLooks := .later }
def SchemaBackUptoCardSaid : Prop := Claim7.holds Tryz.pinned (.plain (OpenSpec.upto schemaBackSpec)) schemaBackUptoCard

/-- THE SECOND FORM's CARD OF 'halyardlaw.QueryAlone'. -/
def queryAloneUptoCard : Claim7 := { stood := { row := queryAloneUptoRow, standIns := [], harness := (true, "f661f98a3d30b56ed9f1261f2ba46d3da599874ec1bc1758f84061790b9b035d"), looks := true }, kinds := [], alts := [], laidByText := true, laidKinds := [.data, .data, .data, .sentinel, .sentinel], laidTests := true, laidLooks := .later }
def QueryAloneUptoCardSaid : Prop := Claim7.holds Tryz.pinned (.plain (OpenSpec.upto queryAloneSpec)) queryAloneUptoCard

/-- THE SECOND FORM's CARD OF 'halyardlaw.QueryTells'. -/
def queryTellsUptoCard : Claim7 := { stood := { row := queryTellsUptoRow, standIns := [], harness := (true, "f661f98a3d30b56ed9f1261f2ba46d3da599874ec1bc1758f84061790b9b035d"), looks := true }, kinds := [], alts := [], laidByText := true, laidKinds := [.data, .data, .data, .sentinel, .sentinel], laidTests := true, laidLooks := .later }
def QueryTellsUptoCardSaid : Prop := Claim7.holds Tryz.pinned (.plain (OpenSpec.upto queryTellsSpec)) queryTellsUptoCard

/-- THE SECOND FORM's CARD OF 'halyardlaw.QueryBack'. -/
def queryBackUptoCard : Claim7 := { stood := { row := queryBackUptoRow, standIns := [], harness := (true, "f661f98a3d30b56ed9f1261f2ba46d3da599874ec1bc1758f84061790b9b035d"), looks := true }, kinds := [], alts := [], laidByText := true, laidKinds := [.data, .data, .data, .sentinel, .sentinel], laidTests := true, laidLooks := .later }
def QueryBackUptoCardSaid : Prop := Claim7.holds Tryz.pinned (.plain (OpenSpec.upto queryBackSpec)) queryBackUptoCard
end Rows
end Go.Proofs.YtgfmjhmjnnpcgaaGreatDoor
