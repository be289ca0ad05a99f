/- The verifier's answer for an event: a number, a text. No condition. -/
import Derived.Test.YtblnaikecokobaaGreatYC
namespace Go.Am
set_option linter.all false
open Go Go.RowKit Go.Proofs
set_option maxRecDepth 100000
set_option linter.all false
end Go.Am
