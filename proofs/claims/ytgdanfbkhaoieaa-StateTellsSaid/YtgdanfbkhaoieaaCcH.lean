/- The code of each function, computed out of the program. No condition. -/
import Derived.Test.YtgdanfbkhaoieaaXC
import Derived.Test.YtgdanfbkhaoieaaProg
import Derived.KernelRfl
namespace Go.Am
set_option linter.all false
set_option linter.all false
open Go Go.RowKit Go.Proofs
set_option maxRecDepth 100000
end Go.Am
