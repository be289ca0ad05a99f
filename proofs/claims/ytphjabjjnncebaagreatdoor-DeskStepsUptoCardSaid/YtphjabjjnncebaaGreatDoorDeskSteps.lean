/- Whatever types, disk, texts and number are handed in, the law DeskSteps returns true, and what was handed in reads as it did. Condition: the bulk of what is handed in is at most 1,048,576; the tables of the library hold what the program's text lays. -/
import Derived.Test.YtphjabjjnncebaaGreatDoorXX
import Derived.Test.YtphjabjjnncebaaGreatDoorXY
set_option maxRecDepth 100000
set_option linter.all false
namespace Go.Proofs.YtphjabjjnncebaaGreatDoor
open Go Go.Am Go.ChangeAt Go.RowKit
theorem deskSteps_holds:Rows.DeskStepsUptoCardSaid :=
 Claim7.holds_tied_plain_at .later [] _ _ _ _ A9Z (fun _ h=>by cases h) (by kernel_rfl) (fun _ h=>by cases h) deskStepsUpto_row_tie rfl ⟨rfl,rfl⟩ (by kernel_rfl) rfl A7a (B4u rfl)
#print axioms deskSteps_holds
end Go.Proofs.YtphjabjjnncebaaGreatDoor
