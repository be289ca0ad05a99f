/- Parts of the proof: an abstract machine for Go functions, and what functions of the program give back (Rr9, Ur1). No condition. -/
import Derived.Test.YtblnaikecokobaaGreatYE
import Derived.Test.YtblnaikecokobaaGreatYF
import Derived.Test.YtblnaikecokobaaGreatXX
import Derived.Test.YtblnaikecokobaaGreatXV
import Derived.Test.YtblnaikecokobaaGreatXY
namespace Go.Am
set_option linter.all false
open Go Go.RowKit Go.Proofs
set_option maxRecDepth 100000
set_option linter.all false
end Go.Am
namespace Go.Am
set_option linter.all false
open Go Go.RowKit Go.Proofs
set_option maxRecDepth 100000
set_option linter.all false
end Go.Am
