/- Queries answered: the document's map of a thing. No condition. -/
import Derived.Test.YthghjjancoopoaaDoorYD
import Derived.Test.YthghjjancoopoaaDoorYE
import Derived.Test.YthghjjancoopoaaDoorXL
namespace Go.Am
set_option linter.all false
open Go Go.RowKit Go.Proofs
set_option maxRecDepth 100000
set_option linter.all false
end Go.Am
