/- Whatever types, disk and text are handed in, the law DeskNow returns true, and what was handed in reads as it did. Condition: the bulk of what is handed in is at most 1,048,576; the tables of the library hold what the program's text lays. -/
import Derived.Test.YtphjabjjnncebaaGreatDoorXX
import Derived.Test.YtphjabjjnncebaaGreatDoorXY
set_option maxRecDepth 100000
set_option linter.all false
namespace Go.Proofs.YtphjabjjnncebaaGreatDoor
open Go Go.Am Go.ChangeAt Go.RowKit
theorem deskNow_holds:Rows.DeskNowUptoCardSaid :=
 Claim7.holds_tied_plain_at .later [] _ _ _ _ B2F (fun _ h=>by cases h) (by kernel_rfl) (fun _ h=>by cases h) deskNowUpto_row_tie rfl ⟨rfl,rfl⟩ (by kernel_rfl) rfl A9X (B4D rfl)
#print axioms deskNow_holds
end Go.Proofs.YtphjabjjnncebaaGreatDoor
