/- Parts of the proof: an abstract machine for Go functions, and what functions of the program give back (Qr7, Qr8, Qr9). No condition. -/
import Derived.Test.YtgfmjhmjnnpcgaaGreatDoorYK
import Derived.Test.YtgfmjhmjnnpcgaaGreatDoorXD
namespace Go.Am
set_option linter.all false
open Go Go.RowKit Go.Proofs
set_option maxRecDepth 100000
set_option linter.all false
section
variable (E:Env) (hP:E.P=Tryz.prog) (z l:List Tk) (J id:Nat) (hJ:J<E.n0∧(J<id∨id+1024≤J))
include hP hJ
end
end Go.Am
namespace Go.Am
set_option linter.all false
open Go Go.RowKit Go.Proofs
set_option maxRecDepth 100000
set_option linter.all false
def lK(v:AV):Bx:=⟨[v],.nils,false,false⟩
theorem lK_eq(v:AV):lK v=⟨[v],.nils,false,false⟩:=rfl
end Go.Am
namespace Go.Am
set_option linter.all false
open Go Go.RowKit Go.Proofs
set_option maxRecDepth 100000
set_option linter.all false
end Go.Am
