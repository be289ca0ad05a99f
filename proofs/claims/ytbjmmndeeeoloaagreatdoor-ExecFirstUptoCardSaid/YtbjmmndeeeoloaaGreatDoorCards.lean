/-
  DERIVED. GIVEN WITH THE SEED: THE CARDS: each row of YtbjmmndeeeoloaaGreatDoorRows.lean that lists a variable, with what it lists TIED to the program's text (the seventh form; the later family's looks); each row that meets fmt, with fmt's text TOLD by the authors' own Lean function (tested against real Go, not proved from fmt's source: count such statements apart). THE CARD IS WHAT COUNTS. Prove the row's statement (the work); the ties are given (YtbjmmndeeeoloaaGreatDoorTie.lean); close each card by the builder's one call (the guide's Derived/Test/ToyasCard.lean, 'card_holds'). Laid BY PROGRAM, IN A SANDBOX (cutbox-door.mjs). By AI agents, Wed Nov 11 2026. No macro, syntax, notation, axiom, sorry.
-/
import Derived.Test.YtbjmmndeeeoloaaGreatDoorRows
import GoSem.ClaimSeven
namespace Go.Proofs.YtbjmmndeeeoloaaGreatDoor
namespace Rows

/-- THE TIED CARD OF 'halyardlaw.ExecFirst'. -/
def execFirstCard : Claim7 := { stood := { row := execFirstRow, standIns := [], harness := (true, "aa259aeceb9eca5dd06ac01cdbd0b3ee3be1ebb0dae9201befa6649037e5e2ab"), looks := true }, kinds := [], alts := [], laidByText := true, laidKinds := [.data, .data, .data], laidTests := true, laidLooks := .later }
def ExecFirstCardSaid : Prop := Claim7.holds Tryz.pinned (.plain (OpenSpec.ofChange execFirstSpec)) execFirstCard

/-- THE TIED CARD OF 'halyardlaw.ExecTells'. -/
def execTellsCard : Claim7 := { stood := { row := execTellsRow, standIns := [], harness := (true, "aa259aeceb9eca5dd06ac01cdbd0b3ee3be1ebb0dae9201befa6649037e5e2ab"), looks := true }, kinds := [], alts := [], laidByText := true, laidKinds := [.data, .data, .data], laidTests := true, laidLooks := .later }
def ExecTellsCardSaid : Prop := Claim7.holds Tryz.pinned (.plain (OpenSpec.ofChange execTellsSpec)) execTellsCard

/-- THE TIED CARD OF 'halyardlaw.ExecFits'. -/
def execFitsCard : Claim7 := { stood := { row := execFitsRow, standIns := [], harness := (true, "aa259aeceb9eca5dd06ac01cdbd0b3ee3be1ebb0dae9201befa6649037e5e2ab"), looks := true }, kinds := [], alts := [], laidByText := true, laidKinds := [.data, .data, .data], laidTests := true, laidLooks := .later }
def ExecFitsCardSaid : Prop := Claim7.holds Tryz.pinned (.plain (OpenSpec.ofChange execFitsSpec)) execFitsCard

/-- THE TIED CARD OF 'halyardlaw.ExecCalled'. -/
def execCalledCard : Claim7 := { stood := { row := execCalledRow, standIns := [], harness := (true, "aa259aeceb9eca5dd06ac01cdbd0b3ee3be1ebb0dae9201befa6649037e5e2ab"), looks := true }, kinds := [], alts := [], laidByText := true, laidKinds := [.data, .data, .data], laidTests := true, laidLooks := .later }
def ExecCalledCardSaid : Prop := Claim7.holds Tryz.pinned (.plain (OpenSpec.ofChange execCalledSpec)) execCalledCard

/-- THE SECOND FORM's CARD OF 'halyardlaw.ExecFirst'. -/
def execFirstUptoCard : Claim7 := { stood := { row := execFirstUptoRow, standIns := [], harness := (true, "aa259aeceb9eca5dd06ac01cdbd0b3ee3be1ebb0dae9201befa6649037e5e2ab"), looks := true }, kinds := [], alts := [], laidByText := true, laidKinds := [.data, .data, .data], laidTests := true, laidLooks := .later }
def ExecFirstUptoCardSaid : Prop := Claim7.holds Tryz.pinned (.plain (OpenSpec.upto execFirstSpec)) execFirstUptoCard

/-- THE SECOND FORM's CARD OF 'halyardlaw.ExecTells'. -/
def execTellsUptoCard : Claim7 := { stood := { row := execTellsUptoRow, standIns := [], harness := (true, "aa259aeceb9eca5dd06ac01cdbd0b3ee3be1ebb0dae9201befa6649037e5e2ab"), looks := true }, kinds := [], alts := [], laidByText := true, laidKinds := [.data, .data, .data], laidTests := true, laidLooks := .later }
def ExecTellsUptoCardSaid : Prop := Claim7.holds Tryz.pinned (.plain (OpenSpec.upto execTellsSpec)) execTellsUptoCard

/-- THE SECOND FORM's CARD OF 'halyardlaw.ExecFits'. -/
def execFitsUptoCard : Claim7 := { stood := { row := execFitsUptoRow, standIns := [], harness := (true, "aa259aeceb9eca5dd06ac01cdbd0b3ee3be1ebb0dae9201befa6649037e5e2ab"), looks := true }, kinds := [], alts := [], laidByText := true, laidKinds := [.data, .data, .data], laidTests := true, laidLooks := .later }
def ExecFitsUptoCardSaid : Prop := Claim7.holds Tryz.pinned (.plain (OpenSpec.upto execFitsSpec)) execFitsUptoCard

/-- THE SECOND FORM's CARD OF 'halyardlaw.ExecCalled'. -/
def execCalledUptoCard : Claim7 := { stood := { row := execCalledUptoRow, standIns := [], harness := (true, "aa259aeceb9eca5dd06ac01cdbd0b3ee3be1ebb0dae9201befa6649037e5e2ab"), looks := true }, kinds := [], alts := [], laidByText := true, laidKinds := [.data, .data, .data], laidTests := true, laidLooks := .later }
def ExecCalledUptoCardSaid : Prop := Claim7.holds Tryz.pinned (.plain (OpenSpec.upto execCalledSpec)) execCalledUptoCard
end Rows
end Go.Proofs.YtbjmmndeeeoloaaGreatDoor
