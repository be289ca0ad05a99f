/- Parts of the proof: an abstract machine for Go functions, and what functions of the program give back (Bf1, Bf2). No condition. -/
import Derived.Test.YtblnaikecokobaaGreatXJ
import Derived.Test.YtblnaikecokobaaGreatCcB
import Derived.Test.YtblnaikecokobaaGreatXQ
namespace Go.Am
set_option linter.all false
open Go Go.RowKit Go.Proofs
set_option maxRecDepth 100000
set_option linter.all false
end Go.Am
namespace Go.Am
set_option linter.all false
open Go Go.RowKit Go.Proofs
set_option maxRecDepth 100000
set_option linter.all false
end Go.Am
