/-
  DERIVED. GIVEN WITH THE SEED: THE CARDS: each row of YthghjjancoopoaaDoorRows.lean that lists a variable, with what it lists TIED to the program's text (the seventh form; the later family's looks); each row that meets fmt, with fmt's text TOLD by the authors' own Lean function (tested against real Go, not proved from fmt's source: count such statements apart). THE CARD IS WHAT COUNTS. Prove the row's statement (the work); the ties are given (YthghjjancoopoaaDoorTie.lean); close each card by the builder's one call (the guide's Derived/Test/ToyasCard.lean, 'card_holds'). Laid BY PROGRAM, IN A SANDBOX (cutbox-door.mjs). By AI agents, Wed Nov 11 2026. No macro, syntax, notation, axiom, sorry.
-/
import Derived.Test.YthghjjancoopoaaDoorRows
import GoSem.ClaimSeven
namespace Go.Proofs.YthghjjancoopoaaDoor
namespace Rows

/-- THE TIED CARD OF 'halyardlaw.JsonApart'. -/
def jsonApartCard : Claim7 := { stood := { row := jsonApartRow, standIns := [], harness := (true, "e23c9a17511b3018479f5c13bc90999f0d2f0346201cf885937a95dca3165571"), looks := true }, kinds := [], alts := [], laidByText := true, laidKinds := [.data, .data, .data, .sentinel, .sentinel], laidTests := true, laidLooks := .later }
def JsonApartCardSaid : Prop := Claim7.holds Tryd.pinned (.plain (OpenSpec.ofChange jsonApartSpec)) jsonApartCard

/-- THE TIED CARD OF 'halyardlaw.JsonTells'. -/
def jsonTellsCard : Claim7 := { stood := { row := jsonTellsRow, standIns := [], harness := (true, "e23c9a17511b3018479f5c13bc90999f0d2f0346201cf885937a95dca3165571"), looks := true }, kinds := [], alts := [], laidByText := true, laidKinds := [.data, .data, .data, .sentinel, .sentinel], laidTests := true, laidLooks := .later }
def JsonTellsCardSaid : Prop := Claim7.holds Tryd.pinned (.plain (OpenSpec.ofChange jsonTellsSpec)) jsonTellsCard

/-- THE TIED CARD OF 'halyardlaw.JsonBack'. -/
def jsonBackCard : Claim7 := { stood := { row := jsonBackRow, standIns := [], harness := (true, "e23c9a17511b3018479f5c13bc90999f0d2f0346201cf885937a95dca3165571"), looks := true }, kinds := [], alts := [], laidByText := true, laidKinds := [.data, .data, .data, .sentinel, .sentinel], laidTests := true, laidLooks := .later }
def JsonBackCardSaid : Prop := Claim7.holds Tryd.pinned (.plain (OpenSpec.ofChange jsonBackSpec)) jsonBackCard

/-- THE TIED CARD OF 'halyardlaw.ExecAlone'. -/
def execAloneCard : Claim7 := { stood := { row := execAloneRow, standIns := [], harness := (true, "e23c9a17511b3018479f5c13bc90999f0d2f0346201cf885937a95dca3165571"), looks := true }, kinds := [], alts := [], laidByText := true, laidKinds := [.data, .data, .data], laidTests := true, laidLooks := .later }
def ExecAloneCardSaid : Prop := Claim7.holds Tryd.pinned (.plain (OpenSpec.ofChange execAloneSpec)) execAloneCard

/-- THE SECOND FORM's CARD OF 'halyardlaw.JsonApart'. -/
def jsonApartUptoCard : Claim7 := { stood := { row := jsonApartUptoRow, standIns := [], harness := (true, "e23c9a17511b3018479f5c13bc90999f0d2f0346201cf885937a95dca3165571"), looks := true }, kinds := [], alts := [], laidByText := true, laidKinds := [.data, .data, .data, .sentinel, .sentinel], laidTests := true, laidLooks := .later }
def JsonApartUptoCardSaid : Prop := Claim7.holds Tryd.pinned (.plain (OpenSpec.upto jsonApartSpec)) jsonApartUptoCard

/-- THE SECOND FORM's CARD OF 'halyardlaw.JsonTells'. -/
def jsonTellsUptoCard : Claim7 := { stood := { row := jsonTellsUptoRow, standIns := [], harness := (true, "e23c9a17511b3018479f5c13bc90999f0d2f0346201cf885937a95dca3165571"), looks := true }, kinds := [], alts := [], laidByText := true, laidKinds := [.data, .data, .data, .sentinel, .sentinel], laidTests := true, laidLooks := .later }
def JsonTellsUptoCardSaid : Prop := Claim7.holds Tryd.pinned (.plain (OpenSpec.upto jsonTellsSpec)) jsonTellsUptoCard

/-- THE SECOND FORM's CARD OF 'halyardlaw.JsonBack'. -/
def jsonBackUptoCard : Claim7 := { stood := { row := jsonBackUptoRow, standIns := [], harness := (true, "e23c9a17511b3018479f5c13bc90999f0d2f0346201cf885937a95dca3165571"), looks := true }, kinds := [], alts := [], laidByText := true, laidKinds := [.data, .data, .data, .sentinel, .sentinel], laidTests := true, laidLooks := .later }
def JsonBackUptoCardSaid : Prop := Claim7.holds Tryd.pinned (.plain (OpenSpec.upto jsonBackSpec)) jsonBackUptoCard

/-- THE SECOND FORM's CARD OF 'halyardlaw.ExecAlone'. -/
def execAloneUptoCard : Claim7 := { stood := { row := execAloneUptoRow, standIns := [], harness := (true, "e23c9a17511b3018479f5c13bc90999f0d2f0346201cf885937a95dca3165571"), looks := true }, kinds := [], alts := [], laidByText := true, laidKinds := [.data, .data, .data], laidTests := true, laidLooks := .later }
def ExecAloneUptoCardSaid : Prop := Claim7.holds Tryd.pinned (.plain (OpenSpec.upto execAloneSpec)) execAloneUptoCard
end Rows
end Go.Proofs.YthghjjancoopoaaDoor
