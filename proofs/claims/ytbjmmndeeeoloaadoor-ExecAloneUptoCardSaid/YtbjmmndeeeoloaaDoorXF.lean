/- Parts of the proof: an abstract machine for Go functions, and what functions of the program give back (Rf1). No condition. -/
import Derived.Test.YtbjmmndeeeoloaaDoorXT
namespace Go.Am
set_option linter.all false
set_option linter.all false
open Go Go.RowKit Go.Proofs
set_option maxRecDepth 100000
end Go.Am
