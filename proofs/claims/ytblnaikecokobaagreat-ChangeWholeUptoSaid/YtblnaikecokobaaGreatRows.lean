/-
  NARROWER THAN 'FOR EVERY INPUT', by the rows' own cells (each row's printed sentence says how): ChangeTells: loops · ChangeAgain: loops · ChangeWhole: loops.
  DERIVED. THE GIVEN ROWS OF THIS SEAT. 3 by the template 'for every input the law returns true; each argument reads behind the call as it read before'; 0 by the template 'total and deterministic' (their statements: YtblnaikecokobaaGreatTotals.lean).
  GIVEN WITH THE SEED: the statements are not yours to turn. If you find one false, say at which input.
  Laid BY PROGRAM, IN A SANDBOX (cutbox-rows.mjs): the forced cells as the released guide's own fill.sh prints them over the translation 30e05f0c67cdf726… (all of the seat's roots in one cut). By AI agents, Wed Nov 11 2026. No macro, syntax, notation, axiom, sorry.
-/
import Derived.Test.YtblnaikecokobaaGreatChecked
import GoSem.Claim
import GoSem.ClaimJoined
import GoSem.ClaimMapViews
import Derived.JoinedTies
import Derived.KernelRfl
namespace Go.Proofs.YtblnaikecokobaaGreat
/- THE CELL 'sum', in the pinned program and in every row, IS THE sha256 OF THE DUMP (.gsa) THAT YtblnaikecokobaaGreatProg.lean LOADS. Nothing in Lean hashes anything: it is a label: what it is worth is what the hold of that sum in a sandbox is worth. -/
noncomputable def Tryz.pinned : Pinned := { name := "ytblnaikecokobaagreat", sum := "30e05f0c67cdf726e594cc6db6e72d57106012ba8c91e3b1313fd83729e4e24c", checked := Tryz.checked }
namespace Rows
def none {H : Type} : Left H := { results := [], args := [] }

/-- 'halyardlaw.ChangeTells': WHATEVER THE INPUT: true; the input reads as it did. -/
def changeTellsSpec : ChangeSpec := { name := "changeTells", fn := fun _ => fun
  | [d1, d2] => { results := [.lit (.bool true)], args := [d1, d2] }
  | _ => none }
def changeTellsRow : OpenClaim := { program := "ytblnaikecokobaagreat", sum := "30e05f0c67cdf726e594cc6db6e72d57106012ba8c91e3b1313fd83729e4e24c", func := "halyard/halyardlaw.ChangeTells", spec := "changeTells", inPlace := ["slices.overlaps[halyard/api.Thing]", "slices.overlaps[int]"], unfollowed := true, recurses := true, loops := true, apart := false }
def ChangeTellsSaid : Prop := changeTellsRow.holds Tryz.pinned (OpenSpec.ofChange changeTellsSpec)

/-- ITS FALSE NEIGHBOUR: 'it returns false'. Refute it at one input. -/
def changeTellsWrong : ChangeSpec := { name := "changeTells", fn := fun _ => fun
  | [d1, d2] => { results := [.lit (.bool false)], args := [d1, d2] }
  | _ => none }
def ChangeTellsWrongFalsely : Prop := changeTellsRow.holds Tryz.pinned (OpenSpec.ofChange changeTellsWrong)

/-- 'halyardlaw.ChangeAgain': WHATEVER THE INPUT: true; the input reads as it did. -/
def changeAgainSpec : ChangeSpec := { name := "changeAgain", fn := fun _ => fun
  | [d1, d2] => { results := [.lit (.bool true)], args := [d1, d2] }
  | _ => none }
def changeAgainRow : OpenClaim := { program := "ytblnaikecokobaagreat", sum := "30e05f0c67cdf726e594cc6db6e72d57106012ba8c91e3b1313fd83729e4e24c", func := "halyard/halyardlaw.ChangeAgain", spec := "changeAgain", inPlace := ["slices.overlaps[halyard/api.Thing]", "slices.overlaps[int]"], unfollowed := true, recurses := true, loops := true, apart := false }
def ChangeAgainSaid : Prop := changeAgainRow.holds Tryz.pinned (OpenSpec.ofChange changeAgainSpec)

/-- ITS FALSE NEIGHBOUR: 'it returns false'. Refute it at one input. -/
def changeAgainWrong : ChangeSpec := { name := "changeAgain", fn := fun _ => fun
  | [d1, d2] => { results := [.lit (.bool false)], args := [d1, d2] }
  | _ => none }
def ChangeAgainWrongFalsely : Prop := changeAgainRow.holds Tryz.pinned (OpenSpec.ofChange changeAgainWrong)

/-- 'halyardlaw.ChangeWhole': WHATEVER THE INPUT: true; the input reads as it did. -/
def changeWholeSpec : ChangeSpec := { name := "changeWhole", fn := fun _ => fun
  | [d1, d2] => { results := [.lit (.bool true)], args := [d1, d2] }
  | _ => none }
def changeWholeRow : OpenClaim := { program := "ytblnaikecokobaagreat", sum := "30e05f0c67cdf726e594cc6db6e72d57106012ba8c91e3b1313fd83729e4e24c", func := "halyard/halyardlaw.ChangeWhole", spec := "changeWhole", inPlace := ["slices.overlaps[halyard/api.Thing]", "slices.overlaps[int]"], unfollowed := true, recurses := true, loops := true, apart := false }
def ChangeWholeSaid : Prop := changeWholeRow.holds Tryz.pinned (OpenSpec.ofChange changeWholeSpec)

/-- ITS FALSE NEIGHBOUR: 'it returns false'. Refute it at one input. -/
def changeWholeWrong : ChangeSpec := { name := "changeWhole", fn := fun _ => fun
  | [d1, d2] => { results := [.lit (.bool false)], args := [d1, d2] }
  | _ => none }
def ChangeWholeWrongFalsely : Prop := changeWholeRow.holds Tryz.pinned (OpenSpec.ofChange changeWholeWrong)

/- THE SECOND FORM. 'bulk': how many values and letters a reading holds, each counted each time it is reached (what is shared counts as often as it is met; a slice's spare places count too). A statement '..UptoSaid' is the law's where the arguments, and the package variables that the reading takes, are together of bulk at most 1048576: NARROWER than '..Said'. Prove '..Said' where nothing that the law and all that it calls make is longer than what came in: it says more and counts as full. Else prove '..UptoSaid'. A law counts once. -/
mutual
def uptoBulk {H : Type} : DataW H → Nat
  | .lit (.string bytes) => bytes.length + 1
  | .lit _ => 1
  | .nil => 1
  | .ptr d => uptoBulk d + 1
  | .slice elems spare => uptoBulkAll elems + uptoBulkAll spare + 1
  | .agg parts => uptoBulkAll parts + 1
  | .iface _ d => uptoBulk d + 1
  | .map entries => uptoBulkEntries entries + 1
  | .held _ => 1
def uptoBulkAll {H : Type} : List (DataW H) → Nat
  | [] => 0
  | d :: r => uptoBulk d + uptoBulkAll r
def uptoBulkEntries {H : Type} : List (Lit × DataW H) → Nat
  | [] => 0
  | x :: r => uptoBulkEntry x + uptoBulkEntries r
def uptoBulkEntry {H : Type} : Lit × DataW H → Nat
  | (.string bytes, d) => bytes.length + uptoBulk d + 1
  | (_, d) => uptoBulk d + 1
 end
def uptoSmall : (H : Type) → List (DataW H) → Bool := fun _ ds => decide (uptoBulkAll ds ≤ 1048576)
def OpenSpec.upto (s : _root_.Go.ChangeSpec) : _root_.Go.OpenSpec := { _root_.Go.OpenSpec.ofChange s with cond := some uptoSmall }

/-- 'halyardlaw.ChangeTells', WHERE WHAT IT READS IS OF BULK AT MOST 1048576: true; the input reads as it did. -/
def changeTellsUptoRow : OpenClaim := { program := "ytblnaikecokobaagreat", sum := "30e05f0c67cdf726e594cc6db6e72d57106012ba8c91e3b1313fd83729e4e24c", func := "halyard/halyardlaw.ChangeTells", spec := "changeTells", inPlace := ["slices.overlaps[halyard/api.Thing]", "slices.overlaps[int]"], unfollowed := true, recurses := true, loops := true, apart := false, narrowed := true }
def ChangeTellsUptoSaid : Prop := changeTellsUptoRow.holds Tryz.pinned (OpenSpec.upto changeTellsSpec)

/-- 'halyardlaw.ChangeAgain', WHERE WHAT IT READS IS OF BULK AT MOST 1048576: true; the input reads as it did. -/
def changeAgainUptoRow : OpenClaim := { program := "ytblnaikecokobaagreat", sum := "30e05f0c67cdf726e594cc6db6e72d57106012ba8c91e3b1313fd83729e4e24c", func := "halyard/halyardlaw.ChangeAgain", spec := "changeAgain", inPlace := ["slices.overlaps[halyard/api.Thing]", "slices.overlaps[int]"], unfollowed := true, recurses := true, loops := true, apart := false, narrowed := true }
def ChangeAgainUptoSaid : Prop := changeAgainUptoRow.holds Tryz.pinned (OpenSpec.upto changeAgainSpec)

/-- 'halyardlaw.ChangeWhole', WHERE WHAT IT READS IS OF BULK AT MOST 1048576: true; the input reads as it did. -/
def changeWholeUptoRow : OpenClaim := { program := "ytblnaikecokobaagreat", sum := "30e05f0c67cdf726e594cc6db6e72d57106012ba8c91e3b1313fd83729e4e24c", func := "halyard/halyardlaw.ChangeWhole", spec := "changeWhole", inPlace := ["slices.overlaps[halyard/api.Thing]", "slices.overlaps[int]"], unfollowed := true, recurses := true, loops := true, apart := false, narrowed := true }
def ChangeWholeUptoSaid : Prop := changeWholeUptoRow.holds Tryz.pinned (OpenSpec.upto changeWholeSpec)

end Rows
end Go.Proofs.YtblnaikecokobaaGreat
