/-
  DERIVED. GIVEN WITH THE SEED: THE CARDS: each row of YtphjabjjnncebaaGreatDoorRows.lean that lists a variable, with what it lists TIED to the program's text (the seventh form; the later family's looks); each row that meets fmt, with fmt's text TOLD by the authors' own Lean function (tested against real Go, not proved from fmt's source: count such statements apart). THE CARD IS WHAT COUNTS. Prove the row's statement (the work); the ties are given (YtphjabjjnncebaaGreatDoorTie.lean); close each card by the builder's one call (the guide's Derived/Test/ToyasCard.lean, 'card_holds'). Laid BY PROGRAM, IN A SANDBOX (cutbox-door.mjs). By AI agents, Wed Nov 11 2026. No macro, syntax, notation, axiom, sorry.
-/
import Derived.Test.YtphjabjjnncebaaGreatDoorRows
import GoSem.ClaimSeven
namespace Go.Proofs.YtphjabjjnncebaaGreatDoor
namespace Rows

/-- THE TIED CARD OF 'halyardlaw.DeskSteps'. -/
def deskStepsCard : Claim7 := { stood := { row := deskStepsRow, standIns := [], harness := (true, "b6048d883eb9a4a575761c968adaa04e226ba9363a659982de91a8afe5d96aeb"), looks := true }, kinds := [], alts := [], laidByText := true, laidKinds := [.data, .data, .data, .sentinel, .sentinel], laidTests := true, laidLooks := .later }
def DeskStepsCardSaid : Prop := Claim7.holds Tryz.pinned (.plain (OpenSpec.ofChange deskStepsSpec)) deskStepsCard

/-- THE TIED CARD OF 'halyardlaw.DeskNow'. -/
def deskNowCard : Claim7 := { stood := { row := deskNowRow, standIns := [], harness := (true, "b6048d883eb9a4a575761c968adaa04e226ba9363a659982de91a8afe5d96aeb"), looks := true }, kinds := [], alts := [], laidByText := true, laidKinds := [.data, .data, .data, .sentinel, .sentinel], laidTests := true, laidLooks := .later }
def DeskNowCardSaid : Prop := Claim7.holds Tryz.pinned (.plain (OpenSpec.ofChange deskNowSpec)) deskNowCard

/-- THE TIED CARD OF 'halyardlaw.ExecCalled'. -/
def execCalledCard : Claim7 := { stood := { row := execCalledRow, standIns := [], harness := (true, "b6048d883eb9a4a575761c968adaa04e226ba9363a659982de91a8afe5d96aeb"), looks := true }, kinds := [], alts := [], laidByText := true, laidKinds := [.data, .data, .data], laidTests := true, laidLooks := .later }
def ExecCalledCardSaid : Prop := Claim7.holds Tryz.pinned (.plain (OpenSpec.ofChange execCalledSpec)) execCalledCard

/-- THE TIED CARD OF 'halyardlaw.DeskTells'. -/
def deskTellsCard : Claim7 := { stood := { row := deskTellsRow, standIns := [], harness := (true, "b6048d883eb9a4a575761c968adaa04e226ba9363a659982de91a8afe5d96aeb"), looks := true }, kinds := [], alts := [], laidByText := true, laidKinds := [.data, .data, .data, .sentinel, .sentinel], laidTests := true, laidLooks := .later }
def DeskTellsCardSaid : Prop := Claim7.holds Tryz.pinned (.plain (OpenSpec.ofChange deskTellsSpec)) deskTellsCard

/-- THE TIED CARD OF 'halyardlaw.DeskForever'. -/
def deskForeverCard : Claim7 := { stood := { row := deskForeverRow, standIns := [], harness := (true, "b6048d883eb9a4a575761c968adaa04e226ba9363a659982de91a8afe5d96aeb"), looks := true }, kinds := [], alts := [], laidByText := true, laidKinds := [.data, .data, .data, .sentinel, .sentinel], laidTests := true, laidLooks := .later }
def DeskForeverCardSaid : Prop := Claim7.holds Tryz.pinned (.plain (OpenSpec.ofChange deskForeverSpec)) deskForeverCard

/-- THE TIED CARD OF 'halyardlaw.DeskOnce'. -/
def deskOnceCard : Claim7 := { stood := { row := deskOnceRow, standIns := [], harness := (true, "b6048d883eb9a4a575761c968adaa04e226ba9363a659982de91a8afe5d96aeb"), looks := true }, kinds := [], alts := [], laidByText := true, laidKinds := [.data, .data, .data, .sentinel, .sentinel], laidTests := true, laidLooks := .later }
def DeskOnceCardSaid : Prop := Claim7.holds Tryz.pinned (.plain (OpenSpec.ofChange deskOnceSpec)) deskOnceCard

/-- THE SECOND FORM's CARD OF 'halyardlaw.DeskSteps'. -/
def deskStepsUptoCard : Claim7 := { stood := { row := deskStepsUptoRow, standIns := [], harness := (true, "b6048d883eb9a4a575761c968adaa04e226ba9363a659982de91a8afe5d96aeb"), looks := true }, kinds := [], alts := [], laidByText := true, laidKinds := [.data, .data, .data, .sentinel, .sentinel], laidTests := true, laidLooks := .later }
def DeskStepsUptoCardSaid : Prop := Claim7.holds Tryz.pinned (.plain (OpenSpec.upto deskStepsSpec)) deskStepsUptoCard

/-- THE SECOND FORM's CARD OF 'halyardlaw.DeskNow'. -/
def deskNowUptoCard : Claim7 := { stood := { row := deskNowUptoRow, standIns := [], harness := (true, "b6048d883eb9a4a575761c968adaa04e226ba9363a659982de91a8afe5d96aeb"), looks := true }, kinds := [], alts := [], laidByText := true, laidKinds := [.data, .data, .data, .sentinel, .sentinel], laidTests := true, laidLooks := .later }
def DeskNowUptoCardSaid : Prop := Claim7.holds Tryz.pinned (.plain (OpenSpec.upto deskNowSpec)) deskNowUptoCard

/-- THE SECOND FORM's CARD OF 'halyardlaw.ExecCalled'. -/
def execCalledUptoCard : Claim7 := { stood := { row := execCalledUptoRow, standIns := [], harness := (true, "b6048d883eb9a4a575761c968adaa04e226ba9363a659982de91a8afe5d96aeb"), looks := true }, kinds := [], alts := [], laidByText := true, laidKinds := [.data, .data, .data], laidTests := true, laidLooks := .later }
def ExecCalledUptoCardSaid : Prop := Claim7.holds Tryz.pinned (.plain (OpenSpec.upto execCalledSpec)) execCalledUptoCard

/-- THE SECOND FORM's CARD OF 'halyardlaw.DeskTells'. -/
def deskTellsUptoCard : Claim7 := { stood := { row := deskTellsUptoRow, standIns := [], harness := (true, "b6048d883eb9a4a575761c968adaa04e226ba9363a659982de91a8afe5d96aeb"), looks := true }, kinds := [], alts := [], laidByText := true, laidKinds := [.data, .data, .data, .sentinel, .sentinel], laidTests := true, laidLooks := .later }
def DeskTellsUptoCardSaid : Prop := Claim7.holds Tryz.pinned (.plain (OpenSpec.upto deskTellsSpec)) deskTellsUptoCard

/-- THE SECOND FORM's CARD OF 'halyardlaw.DeskForever'. -/
def deskForeverUptoCard : Claim7 := { stood := { row := deskForeverUptoRow, standIns := [], harness := (true, "b6048d883eb9a4a575761c968adaa04e226ba9363a659982de91a8afe5d96aeb"), looks := true }, kinds := [], alts := [], laidByText := true, laidKinds := [.data, .data, .data, .sentinel, .sentinel], laidTests := true, laidLooks := .later }
def DeskForeverUptoCardSaid : Prop := Claim7.holds Tryz.pinned (.plain (OpenSpec.upto deskForeverSpec)) deskForeverUptoCard

/-- THE SECOND FORM's CARD OF 'halyardlaw.DeskOnce'. -/
def deskOnceUptoCard : Claim7 := { stood := { row := deskOnceUptoRow, standIns := [], harness := (true, "b6048d883eb9a4a575761c968adaa04e226ba9363a659982de91a8afe5d96aeb"), looks := true }, kinds := [], alts := [], laidByText := true, laidKinds := [.data, .data, .data, .sentinel, .sentinel], laidTests := true, laidLooks := .later }
def DeskOnceUptoCardSaid : Prop := Claim7.holds Tryz.pinned (.plain (OpenSpec.upto deskOnceSpec)) deskOnceUptoCard
end Rows
end Go.Proofs.YtphjabjjnncebaaGreatDoor
