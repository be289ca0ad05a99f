/-
  NARROWER THAN 'FOR EVERY INPUT', by the rows' own cells (each row's printed sentence says how): ValidTells: loops · ValidOnce: loops.
  DERIVED. THE GIVEN ROWS OF THIS SEAT. 14 by the template 'for every input the law returns true; each argument reads behind the call as it read before'; 0 by the template 'total and deterministic' (their statements: YtgdanfbkhaoieaaTotals.lean).
  GIVEN WITH THE SEED: the statements are not yours to turn. If you find one false, say at which input.
  Laid BY PROGRAM, IN A SANDBOX (cutbox-rows.mjs): the forced cells as the released guide's own fill.sh prints them over the translation 859c5f7c93447478… (all of the seat's roots in one cut). By AI agents, Wed Nov 11 2026. No macro, syntax, notation, axiom, sorry.
-/
import Derived.Test.YtgdanfbkhaoieaaChecked
import GoSem.Claim
import GoSem.ClaimJoined
import GoSem.ClaimMapViews
import Derived.JoinedTies
import Derived.KernelRfl
namespace Go.Proofs.Ytgdanfbkhaoieaa
/- THE CELL 'sum', in the pinned program and in every row, IS THE sha256 OF THE DUMP (.gsa) THAT YtgdanfbkhaoieaaProg.lean LOADS. Nothing in Lean hashes anything: it is a label: what it is worth is what the hold of that sum in a sandbox is worth. -/
noncomputable def Try.pinned : Pinned := { name := "ytgdanfbkhaoieaa", sum := "859c5f7c934474784c537afd63a3206b69f52926759b4f2b8296c41b87eb7e06", checked := Try.checked }
namespace Rows
def none {H : Type} : Left H := { results := [], args := [] }

/-- 'halyardlaw.BatchTells': WHATEVER THE INPUT: true; the input reads as it did. -/
def batchTellsSpec : ChangeSpec := { name := "batchTells", fn := fun _ => fun
  | [d1, d2] => { results := [.lit (.bool true)], args := [d1, d2] }
  | _ => none }
def batchTellsRow : OpenClaim := { program := "ytgdanfbkhaoieaa", sum := "859c5f7c934474784c537afd63a3206b69f52926759b4f2b8296c41b87eb7e06", func := "halyard/halyardlaw.BatchTells", spec := "batchTells", recurses := true, apart := false }
def BatchTellsSaid : Prop := batchTellsRow.holds Try.pinned (OpenSpec.ofChange batchTellsSpec)

/-- ITS FALSE NEIGHBOUR: 'it returns false'. Refute it at one input. -/
def batchTellsWrong : ChangeSpec := { name := "batchTells", fn := fun _ => fun
  | [d1, d2] => { results := [.lit (.bool false)], args := [d1, d2] }
  | _ => none }
def BatchTellsWrongFalsely : Prop := batchTellsRow.holds Try.pinned (OpenSpec.ofChange batchTellsWrong)

/-- 'halyardlaw.BatchBack': WHATEVER THE INPUT: true; the input reads as it did. -/
def batchBackSpec : ChangeSpec := { name := "batchBack", fn := fun _ => fun
  | [d1, d2, d3] => { results := [.lit (.bool true)], args := [d1, d2, d3] }
  | _ => none }
def batchBackRow : OpenClaim := { program := "ytgdanfbkhaoieaa", sum := "859c5f7c934474784c537afd63a3206b69f52926759b4f2b8296c41b87eb7e06", func := "halyard/halyardlaw.BatchBack", spec := "batchBack", apart := false }
def BatchBackSaid : Prop := batchBackRow.holds Try.pinned (OpenSpec.ofChange batchBackSpec)

/-- ITS FALSE NEIGHBOUR: 'it returns false'. Refute it at one input. -/
def batchBackWrong : ChangeSpec := { name := "batchBack", fn := fun _ => fun
  | [d1, d2, d3] => { results := [.lit (.bool false)], args := [d1, d2, d3] }
  | _ => none }
def BatchBackWrongFalsely : Prop := batchBackRow.holds Try.pinned (OpenSpec.ofChange batchBackWrong)

/-- 'halyardlaw.ValidTells': WHATEVER THE INPUT: true; the input reads as it did. -/
def validTellsSpec : ChangeSpec := { name := "validTells", fn := fun _ => fun
  | [d1, d2] => { results := [.lit (.bool true)], args := [d1, d2] }
  | _ => none }
def validTellsRow : OpenClaim := { program := "ytgdanfbkhaoieaa", sum := "859c5f7c934474784c537afd63a3206b69f52926759b4f2b8296c41b87eb7e06", func := "halyard/halyardlaw.ValidTells", spec := "validTells", unfollowed := true, recurses := true, loops := true, apart := false }
def ValidTellsSaid : Prop := validTellsRow.holds Try.pinned (OpenSpec.ofChange validTellsSpec)

/-- ITS FALSE NEIGHBOUR: 'it returns false'. Refute it at one input. -/
def validTellsWrong : ChangeSpec := { name := "validTells", fn := fun _ => fun
  | [d1, d2] => { results := [.lit (.bool false)], args := [d1, d2] }
  | _ => none }
def ValidTellsWrongFalsely : Prop := validTellsRow.holds Try.pinned (OpenSpec.ofChange validTellsWrong)

/-- 'halyardlaw.ValidOnce': WHATEVER THE INPUT: true; the input reads as it did. -/
def validOnceSpec : ChangeSpec := { name := "validOnce", fn := fun _ => fun
  | [d1, d2] => { results := [.lit (.bool true)], args := [d1, d2] }
  | _ => none }
def validOnceRow : OpenClaim := { program := "ytgdanfbkhaoieaa", sum := "859c5f7c934474784c537afd63a3206b69f52926759b4f2b8296c41b87eb7e06", func := "halyard/halyardlaw.ValidOnce", spec := "validOnce", unfollowed := true, recurses := true, loops := true, apart := false }
def ValidOnceSaid : Prop := validOnceRow.holds Try.pinned (OpenSpec.ofChange validOnceSpec)

/-- ITS FALSE NEIGHBOUR: 'it returns false'. Refute it at one input. -/
def validOnceWrong : ChangeSpec := { name := "validOnce", fn := fun _ => fun
  | [d1, d2] => { results := [.lit (.bool false)], args := [d1, d2] }
  | _ => none }
def ValidOnceWrongFalsely : Prop := validOnceRow.holds Try.pinned (OpenSpec.ofChange validOnceWrong)

/-- 'halyardlaw.DiskTells': WHATEVER THE INPUT: true; the input reads as it did. -/
def diskTellsSpec : ChangeSpec := { name := "diskTells", fn := fun _ => fun
  | [d1, d2, d3] => { results := [.lit (.bool true)], args := [d1, d2, d3] }
  | _ => none }
def diskTellsRow : OpenClaim := { program := "ytgdanfbkhaoieaa", sum := "859c5f7c934474784c537afd63a3206b69f52926759b4f2b8296c41b87eb7e06", func := "halyard/halyardlaw.DiskTells", spec := "diskTells", unfollowed := true, recurses := true, apart := false }
def DiskTellsSaid : Prop := diskTellsRow.holds Try.pinned (OpenSpec.ofChange diskTellsSpec)

/-- ITS FALSE NEIGHBOUR: 'it returns false'. Refute it at one input. -/
def diskTellsWrong : ChangeSpec := { name := "diskTells", fn := fun _ => fun
  | [d1, d2, d3] => { results := [.lit (.bool false)], args := [d1, d2, d3] }
  | _ => none }
def DiskTellsWrongFalsely : Prop := diskTellsRow.holds Try.pinned (OpenSpec.ofChange diskTellsWrong)

/-- 'halyardlaw.DiskCrash': WHATEVER THE INPUT: true; the input reads as it did. -/
def diskCrashSpec : ChangeSpec := { name := "diskCrash", fn := fun _ => fun
  | [d1, d2, d3, d4] => { results := [.lit (.bool true)], args := [d1, d2, d3, d4] }
  | _ => none }
def diskCrashRow : OpenClaim := { program := "ytgdanfbkhaoieaa", sum := "859c5f7c934474784c537afd63a3206b69f52926759b4f2b8296c41b87eb7e06", func := "halyard/halyardlaw.DiskCrash", spec := "diskCrash", unfollowed := true, recurses := true, apart := false }
def DiskCrashSaid : Prop := diskCrashRow.holds Try.pinned (OpenSpec.ofChange diskCrashSpec)

/-- ITS FALSE NEIGHBOUR: 'it returns false'. Refute it at one input. -/
def diskCrashWrong : ChangeSpec := { name := "diskCrash", fn := fun _ => fun
  | [d1, d2, d3, d4] => { results := [.lit (.bool false)], args := [d1, d2, d3, d4] }
  | _ => none }
def DiskCrashWrongFalsely : Prop := diskCrashRow.holds Try.pinned (OpenSpec.ofChange diskCrashWrong)

/-- 'halyardlaw.DiskOpens': WHATEVER THE INPUT: true; the input reads as it did. -/
def diskOpensSpec : ChangeSpec := { name := "diskOpens", fn := fun _ => fun
  | [d1, d2] => { results := [.lit (.bool true)], args := [d1, d2] }
  | _ => none }
def diskOpensRow : OpenClaim := { program := "ytgdanfbkhaoieaa", sum := "859c5f7c934474784c537afd63a3206b69f52926759b4f2b8296c41b87eb7e06", func := "halyard/halyardlaw.DiskOpens", spec := "diskOpens", unfollowed := true, recurses := true, apart := false }
def DiskOpensSaid : Prop := diskOpensRow.holds Try.pinned (OpenSpec.ofChange diskOpensSpec)

/-- ITS FALSE NEIGHBOUR: 'it returns false'. Refute it at one input. -/
def diskOpensWrong : ChangeSpec := { name := "diskOpens", fn := fun _ => fun
  | [d1, d2] => { results := [.lit (.bool false)], args := [d1, d2] }
  | _ => none }
def DiskOpensWrongFalsely : Prop := diskOpensRow.holds Try.pinned (OpenSpec.ofChange diskOpensWrong)

/-- 'halyardlaw.DiskKeeps': WHATEVER THE INPUT: true; the input reads as it did. -/
def diskKeepsSpec : ChangeSpec := { name := "diskKeeps", fn := fun _ => fun
  | [d1, d2, d3] => { results := [.lit (.bool true)], args := [d1, d2, d3] }
  | _ => none }
def diskKeepsRow : OpenClaim := { program := "ytgdanfbkhaoieaa", sum := "859c5f7c934474784c537afd63a3206b69f52926759b4f2b8296c41b87eb7e06", func := "halyard/halyardlaw.DiskKeeps", spec := "diskKeeps", unfollowed := true, recurses := true, apart := false }
def DiskKeepsSaid : Prop := diskKeepsRow.holds Try.pinned (OpenSpec.ofChange diskKeepsSpec)

/-- ITS FALSE NEIGHBOUR: 'it returns false'. Refute it at one input. -/
def diskKeepsWrong : ChangeSpec := { name := "diskKeeps", fn := fun _ => fun
  | [d1, d2, d3] => { results := [.lit (.bool false)], args := [d1, d2, d3] }
  | _ => none }
def DiskKeepsWrongFalsely : Prop := diskKeepsRow.holds Try.pinned (OpenSpec.ofChange diskKeepsWrong)

/-- 'halyardlaw.StateTells': WHATEVER THE INPUT: true; the input reads as it did. -/
def stateTellsSpec : ChangeSpec := { name := "stateTells", fn := fun _ => fun
  | [d1, d2] => { results := [.lit (.bool true)], args := [d1, d2] }
  | _ => none }
def stateTellsRow : OpenClaim := { program := "ytgdanfbkhaoieaa", sum := "859c5f7c934474784c537afd63a3206b69f52926759b4f2b8296c41b87eb7e06", func := "halyard/halyardlaw.StateTells", spec := "stateTells", inPlace := ["slices.overlaps[halyard/api.Thing]", "slices.overlaps[int]"], unfollowed := true, recurses := true, apart := false }
def StateTellsSaid : Prop := stateTellsRow.holds Try.pinned (OpenSpec.ofChange stateTellsSpec)

/-- ITS FALSE NEIGHBOUR: 'it returns false'. Refute it at one input. -/
def stateTellsWrong : ChangeSpec := { name := "stateTells", fn := fun _ => fun
  | [d1, d2] => { results := [.lit (.bool false)], args := [d1, d2] }
  | _ => none }
def StateTellsWrongFalsely : Prop := stateTellsRow.holds Try.pinned (OpenSpec.ofChange stateTellsWrong)

/-- 'halyardlaw.StateUndone': WHATEVER THE INPUT: true; the input reads as it did. -/
def stateUndoneSpec : ChangeSpec := { name := "stateUndone", fn := fun _ => fun
  | [d1, d2] => { results := [.lit (.bool true)], args := [d1, d2] }
  | _ => none }
def stateUndoneRow : OpenClaim := { program := "ytgdanfbkhaoieaa", sum := "859c5f7c934474784c537afd63a3206b69f52926759b4f2b8296c41b87eb7e06", func := "halyard/halyardlaw.StateUndone", spec := "stateUndone", inPlace := ["slices.overlaps[halyard/api.Thing]", "slices.overlaps[int]"], unfollowed := true, recurses := true, apart := false }
def StateUndoneSaid : Prop := stateUndoneRow.holds Try.pinned (OpenSpec.ofChange stateUndoneSpec)

/-- ITS FALSE NEIGHBOUR: 'it returns false'. Refute it at one input. -/
def stateUndoneWrong : ChangeSpec := { name := "stateUndone", fn := fun _ => fun
  | [d1, d2] => { results := [.lit (.bool false)], args := [d1, d2] }
  | _ => none }
def StateUndoneWrongFalsely : Prop := stateUndoneRow.holds Try.pinned (OpenSpec.ofChange stateUndoneWrong)

/-- 'halyardlaw.StateApart': WHATEVER THE INPUT: true; the input reads as it did. -/
def stateApartSpec : ChangeSpec := { name := "stateApart", fn := fun _ => fun
  | [d1, d2, d3] => { results := [.lit (.bool true)], args := [d1, d2, d3] }
  | _ => none }
def stateApartRow : OpenClaim := { program := "ytgdanfbkhaoieaa", sum := "859c5f7c934474784c537afd63a3206b69f52926759b4f2b8296c41b87eb7e06", func := "halyard/halyardlaw.StateApart", spec := "stateApart", inPlace := ["slices.overlaps[halyard/api.Thing]", "slices.overlaps[int]"], unfollowed := true, recurses := true, apart := false }
def StateApartSaid : Prop := stateApartRow.holds Try.pinned (OpenSpec.ofChange stateApartSpec)

/-- ITS FALSE NEIGHBOUR: 'it returns false'. Refute it at one input. -/
def stateApartWrong : ChangeSpec := { name := "stateApart", fn := fun _ => fun
  | [d1, d2, d3] => { results := [.lit (.bool false)], args := [d1, d2, d3] }
  | _ => none }
def StateApartWrongFalsely : Prop := stateApartRow.holds Try.pinned (OpenSpec.ofChange stateApartWrong)

/-- 'halyardlaw.HistoryTells': WHATEVER THE INPUT: true; the input reads as it did. -/
def historyTellsSpec : ChangeSpec := { name := "historyTells", fn := fun _ => fun
  | [d1, d2, d3, d4, d5] => { results := [.lit (.bool true)], args := [d1, d2, d3, d4, d5] }
  | _ => none }
def historyTellsRow : OpenClaim := { program := "ytgdanfbkhaoieaa", sum := "859c5f7c934474784c537afd63a3206b69f52926759b4f2b8296c41b87eb7e06", func := "halyard/halyardlaw.HistoryTells", spec := "historyTells", inPlace := ["slices.overlaps[halyard/api.Thing]", "slices.overlaps[int]"], unfollowed := true, recurses := true, apart := false }
def HistoryTellsSaid : Prop := historyTellsRow.holds Try.pinned (OpenSpec.ofChange historyTellsSpec)

/-- ITS FALSE NEIGHBOUR: 'it returns false'. Refute it at one input. -/
def historyTellsWrong : ChangeSpec := { name := "historyTells", fn := fun _ => fun
  | [d1, d2, d3, d4, d5] => { results := [.lit (.bool false)], args := [d1, d2, d3, d4, d5] }
  | _ => none }
def HistoryTellsWrongFalsely : Prop := historyTellsRow.holds Try.pinned (OpenSpec.ofChange historyTellsWrong)

/-- 'halyardlaw.HistoryStays': WHATEVER THE INPUT: true; the input reads as it did. -/
def historyStaysSpec : ChangeSpec := { name := "historyStays", fn := fun _ => fun
  | [d1, d2, d3, d4] => { results := [.lit (.bool true)], args := [d1, d2, d3, d4] }
  | _ => none }
def historyStaysRow : OpenClaim := { program := "ytgdanfbkhaoieaa", sum := "859c5f7c934474784c537afd63a3206b69f52926759b4f2b8296c41b87eb7e06", func := "halyard/halyardlaw.HistoryStays", spec := "historyStays", inPlace := ["slices.overlaps[halyard/api.Thing]", "slices.overlaps[int]"], unfollowed := true, recurses := true, apart := false }
def HistoryStaysSaid : Prop := historyStaysRow.holds Try.pinned (OpenSpec.ofChange historyStaysSpec)

/-- ITS FALSE NEIGHBOUR: 'it returns false'. Refute it at one input. -/
def historyStaysWrong : ChangeSpec := { name := "historyStays", fn := fun _ => fun
  | [d1, d2, d3, d4] => { results := [.lit (.bool false)], args := [d1, d2, d3, d4] }
  | _ => none }
def HistoryStaysWrongFalsely : Prop := historyStaysRow.holds Try.pinned (OpenSpec.ofChange historyStaysWrong)

/-- 'halyardlaw.HistoryBack': WHATEVER THE INPUT: true; the input reads as it did. -/
def historyBackSpec : ChangeSpec := { name := "historyBack", fn := fun _ => fun
  | [d1, d2] => { results := [.lit (.bool true)], args := [d1, d2] }
  | _ => none }
def historyBackRow : OpenClaim := { program := "ytgdanfbkhaoieaa", sum := "859c5f7c934474784c537afd63a3206b69f52926759b4f2b8296c41b87eb7e06", func := "halyard/halyardlaw.HistoryBack", spec := "historyBack", inPlace := ["slices.overlaps[halyard/api.Thing]", "slices.overlaps[int]"], unfollowed := true, recurses := true, apart := false }
def HistoryBackSaid : Prop := historyBackRow.holds Try.pinned (OpenSpec.ofChange historyBackSpec)

/-- ITS FALSE NEIGHBOUR: 'it returns false'. Refute it at one input. -/
def historyBackWrong : ChangeSpec := { name := "historyBack", fn := fun _ => fun
  | [d1, d2] => { results := [.lit (.bool false)], args := [d1, d2] }
  | _ => none }
def HistoryBackWrongFalsely : Prop := historyBackRow.holds Try.pinned (OpenSpec.ofChange historyBackWrong)

/- THE SECOND FORM. 'bulk': how many values and letters a reading holds, each counted each time it is reached (what is shared counts as often as it is met; a slice's spare places count too). A statement '..UptoSaid' is the law's where the arguments, and the package variables that the reading takes, are together of bulk at most 1048576: NARROWER than '..Said'. Prove '..Said' where nothing that the law and all that it calls make is longer than what came in: it says more and counts as full. Else prove '..UptoSaid'. A law counts once. -/
mutual
def uptoBulk {H : Type} : DataW H → Nat
  | .lit (.string bytes) => bytes.length + 1
  | .lit _ => 1
  | .nil => 1
  | .ptr d => uptoBulk d + 1
  | .slice elems spare => uptoBulkAll elems + uptoBulkAll spare + 1
  | .agg parts => uptoBulkAll parts + 1
  | .iface _ d => uptoBulk d + 1
  | .map entries => uptoBulkEntries entries + 1
  | .held _ => 1
def uptoBulkAll {H : Type} : List (DataW H) → Nat
  | [] => 0
  | d :: r => uptoBulk d + uptoBulkAll r
def uptoBulkEntries {H : Type} : List (Lit × DataW H) → Nat
  | [] => 0
  | x :: r => uptoBulkEntry x + uptoBulkEntries r
def uptoBulkEntry {H : Type} : Lit × DataW H → Nat
  | (.string bytes, d) => bytes.length + uptoBulk d + 1
  | (_, d) => uptoBulk d + 1
 end
def uptoSmall : (H : Type) → List (DataW H) → Bool := fun _ ds => decide (uptoBulkAll ds ≤ 1048576)
def OpenSpec.upto (s : _root_.Go.ChangeSpec) : _root_.Go.OpenSpec := { _root_.Go.OpenSpec.ofChange s with cond := some uptoSmall }

/-- 'halyardlaw.BatchTells', WHERE WHAT IT READS IS OF BULK AT MOST 1048576: true; the input reads as it did. -/
def batchTellsUptoRow : OpenClaim := { program := "ytgdanfbkhaoieaa", sum := "859c5f7c934474784c537afd63a3206b69f52926759b4f2b8296c41b87eb7e06", func := "halyard/halyardlaw.BatchTells", spec := "batchTells", recurses := true, apart := false, narrowed := true }
def BatchTellsUptoSaid : Prop := batchTellsUptoRow.holds Try.pinned (OpenSpec.upto batchTellsSpec)

/-- 'halyardlaw.BatchBack', WHERE WHAT IT READS IS OF BULK AT MOST 1048576: true; the input reads as it did. -/
def batchBackUptoRow : OpenClaim := { program := "ytgdanfbkhaoieaa", sum := "859c5f7c934474784c537afd63a3206b69f52926759b4f2b8296c41b87eb7e06", func := "halyard/halyardlaw.BatchBack", spec := "batchBack", apart := false, narrowed := true }
def BatchBackUptoSaid : Prop := batchBackUptoRow.holds Try.pinned (OpenSpec.upto batchBackSpec)

/-- 'halyardlaw.ValidTells', WHERE WHAT IT READS IS OF BULK AT MOST 1048576: true; the input reads as it did. -/
def validTellsUptoRow : OpenClaim := { program := "ytgdanfbkhaoieaa", sum := "859c5f7c934474784c537afd63a3206b69f52926759b4f2b8296c41b87eb7e06", func := "halyard/halyardlaw.ValidTells", spec := "validTells", unfollowed := true, recurses := true, loops := true, apart := false, narrowed := true }
def ValidTellsUptoSaid : Prop := validTellsUptoRow.holds Try.pinned (OpenSpec.upto validTellsSpec)

/-- 'halyardlaw.ValidOnce', WHERE WHAT IT READS IS OF BULK AT MOST 1048576: true; the input reads as it did. -/
def validOnceUptoRow : OpenClaim := { program := "ytgdanfbkhaoieaa", sum := "859c5f7c934474784c537afd63a3206b69f52926759b4f2b8296c41b87eb7e06", func := "halyard/halyardlaw.ValidOnce", spec := "validOnce", unfollowed := true, recurses := true, loops := true, apart := false, narrowed := true }
def ValidOnceUptoSaid : Prop := validOnceUptoRow.holds Try.pinned (OpenSpec.upto validOnceSpec)

/-- 'halyardlaw.DiskTells', WHERE WHAT IT READS IS OF BULK AT MOST 1048576: true; the input reads as it did. -/
def diskTellsUptoRow : OpenClaim := { program := "ytgdanfbkhaoieaa", sum := "859c5f7c934474784c537afd63a3206b69f52926759b4f2b8296c41b87eb7e06", func := "halyard/halyardlaw.DiskTells", spec := "diskTells", unfollowed := true, recurses := true, apart := false, narrowed := true }
def DiskTellsUptoSaid : Prop := diskTellsUptoRow.holds Try.pinned (OpenSpec.upto diskTellsSpec)

/-- 'halyardlaw.DiskCrash', WHERE WHAT IT READS IS OF BULK AT MOST 1048576: true; the input reads as it did. -/
def diskCrashUptoRow : OpenClaim := { program := "ytgdanfbkhaoieaa", sum := "859c5f7c934474784c537afd63a3206b69f52926759b4f2b8296c41b87eb7e06", func := "halyard/halyardlaw.DiskCrash", spec := "diskCrash", unfollowed := true, recurses := true, apart := false, narrowed := true }
def DiskCrashUptoSaid : Prop := diskCrashUptoRow.holds Try.pinned (OpenSpec.upto diskCrashSpec)

/-- 'halyardlaw.DiskOpens', WHERE WHAT IT READS IS OF BULK AT MOST 1048576: true; the input reads as it did. -/
def diskOpensUptoRow : OpenClaim := { program := "ytgdanfbkhaoieaa", sum := "859c5f7c934474784c537afd63a3206b69f52926759b4f2b8296c41b87eb7e06", func := "halyard/halyardlaw.DiskOpens", spec := "diskOpens", unfollowed := true, recurses := true, apart := false, narrowed := true }
def DiskOpensUptoSaid : Prop := diskOpensUptoRow.holds Try.pinned (OpenSpec.upto diskOpensSpec)

/-- 'halyardlaw.DiskKeeps', WHERE WHAT IT READS IS OF BULK AT MOST 1048576: true; the input reads as it did. -/
def diskKeepsUptoRow : OpenClaim := { program := "ytgdanfbkhaoieaa", sum := "859c5f7c934474784c537afd63a3206b69f52926759b4f2b8296c41b87eb7e06", func := "halyard/halyardlaw.DiskKeeps", spec := "diskKeeps", unfollowed := true, recurses := true, apart := false, narrowed := true }
def DiskKeepsUptoSaid : Prop := diskKeepsUptoRow.holds Try.pinned (OpenSpec.upto diskKeepsSpec)

/-- 'halyardlaw.StateTells', WHERE WHAT IT READS IS OF BULK AT MOST 1048576: true; the input reads as it did. -/
def stateTellsUptoRow : OpenClaim := { program := "ytgdanfbkhaoieaa", sum := "859c5f7c934474784c537afd63a3206b69f52926759b4f2b8296c41b87eb7e06", func := "halyard/halyardlaw.StateTells", spec := "stateTells", inPlace := ["slices.overlaps[halyard/api.Thing]", "slices.overlaps[int]"], unfollowed := true, recurses := true, apart := false, narrowed := true }
def StateTellsUptoSaid : Prop := stateTellsUptoRow.holds Try.pinned (OpenSpec.upto stateTellsSpec)

/-- 'halyardlaw.StateUndone', WHERE WHAT IT READS IS OF BULK AT MOST 1048576: true; the input reads as it did. -/
def stateUndoneUptoRow : OpenClaim := { program := "ytgdanfbkhaoieaa", sum := "859c5f7c934474784c537afd63a3206b69f52926759b4f2b8296c41b87eb7e06", func := "halyard/halyardlaw.StateUndone", spec := "stateUndone", inPlace := ["slices.overlaps[halyard/api.Thing]", "slices.overlaps[int]"], unfollowed := true, recurses := true, apart := false, narrowed := true }
def StateUndoneUptoSaid : Prop := stateUndoneUptoRow.holds Try.pinned (OpenSpec.upto stateUndoneSpec)

/-- 'halyardlaw.StateApart', WHERE WHAT IT READS IS OF BULK AT MOST 1048576: true; the input reads as it did. -/
def stateApartUptoRow : OpenClaim := { program := "ytgdanfbkhaoieaa", sum := "859c5f7c934474784c537afd63a3206b69f52926759b4f2b8296c41b87eb7e06", func := "halyard/halyardlaw.StateApart", spec := "stateApart", inPlace := ["slices.overlaps[halyard/api.Thing]", "slices.overlaps[int]"], unfollowed := true, recurses := true, apart := false, narrowed := true }
def StateApartUptoSaid : Prop := stateApartUptoRow.holds Try.pinned (OpenSpec.upto stateApartSpec)

/-- 'halyardlaw.HistoryTells', WHERE WHAT IT READS IS OF BULK AT MOST 1048576: true; the input reads as it did. -/
def historyTellsUptoRow : OpenClaim := { program := "ytgdanfbkhaoieaa", sum := "859c5f7c934474784c537afd63a3206b69f52926759b4f2b8296c41b87eb7e06", func := "halyard/halyardlaw.HistoryTells", spec := "historyTells", inPlace := ["slices.overlaps[halyard/api.Thing]", "slices.overlaps[int]"], unfollowed := true, recurses := true, apart := false, narrowed := true }
def HistoryTellsUptoSaid : Prop := historyTellsUptoRow.holds Try.pinned (OpenSpec.upto historyTellsSpec)

/-- 'halyardlaw.HistoryStays', WHERE WHAT IT READS IS OF BULK AT MOST 1048576: true; the input reads as it did. -/
def historyStaysUptoRow : OpenClaim := { program := "ytgdanfbkhaoieaa", sum := "859c5f7c934474784c537afd63a3206b69f52926759b4f2b8296c41b87eb7e06", func := "halyard/halyardlaw.HistoryStays", spec := "historyStays", inPlace := ["slices.overlaps[halyard/api.Thing]", "slices.overlaps[int]"], unfollowed := true, recurses := true, apart := false, narrowed := true }
def HistoryStaysUptoSaid : Prop := historyStaysUptoRow.holds Try.pinned (OpenSpec.upto historyStaysSpec)

/-- 'halyardlaw.HistoryBack', WHERE WHAT IT READS IS OF BULK AT MOST 1048576: true; the input reads as it did. -/
def historyBackUptoRow : OpenClaim := { program := "ytgdanfbkhaoieaa", sum := "859c5f7c934474784c537afd63a3206b69f52926759b4f2b8296c41b87eb7e06", func := "halyard/halyardlaw.HistoryBack", spec := "historyBack", inPlace := ["slices.overlaps[halyard/api.Thing]", "slices.overlaps[int]"], unfollowed := true, recurses := true, apart := false, narrowed := true }
def HistoryBackUptoSaid : Prop := historyBackUptoRow.holds Try.pinned (OpenSpec.upto historyBackSpec)

end Rows
end Go.Proofs.Ytgdanfbkhaoieaa
