/- Parts of the proof: an abstract machine for Go functions, and what functions of the program give back (Ex17, Ex18, Ex19). No condition. -/
import Derived.Test.YthghjjancoopoaaDoorYD
import Derived.Test.YthghjjancoopoaaDoorXJ
namespace Go.Am
set_option linter.all false
open Go Go.RowKit Go.Proofs
set_option maxRecDepth 100000
set_option linter.all false
end Go.Am
namespace Go.Am
set_option linter.all false
open Go Go.RowKit Go.Proofs
set_option maxRecDepth 100000
set_option linter.all false
def Cap(T r:Nat):Prop:=(T≤2000→r=T)∧(2000<T→2000<r)
theorem Cap.one{T r:Nat}(h:Cap T r):Cap (T+1) (r+1):=by unfold Cap at *; omega
end Go.Am
namespace Go.Am
set_option linter.all false
open Go Go.RowKit Go.Proofs
set_option maxRecDepth 100000
set_option linter.all false
end Go.Am
