/- The law ExecTells, the walk. No condition. -/
import Derived.Test.YthghjjancoopoaaDoorYG
import Derived.Test.YthghjjancoopoaaDoorYK
import Derived.Test.YthghjjancoopoaaDoorXL
namespace Go.Am
set_option linter.all false
open Go Go.RowKit Go.Proofs
set_option maxRecDepth 100000
set_option linter.all false
def oZ:Out:=.mk 0 0 [] [] []
end Go.Am
