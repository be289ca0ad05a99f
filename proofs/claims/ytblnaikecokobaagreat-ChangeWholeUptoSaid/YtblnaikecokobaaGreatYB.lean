/- Parts of the proof: an abstract machine for Go functions, and what functions of the program give back (Rr4, Rr5). No condition. -/
import Derived.Test.YtblnaikecokobaaGreatYA
namespace Go.Am
set_option linter.all false
open Go Go.RowKit Go.Proofs
set_option maxRecDepth 100000
set_option linter.all false
set_option pp.maxSteps 200000
end Go.Am
namespace Go.Am
set_option linter.all false
open Go Go.RowKit Go.Proofs
set_option maxRecDepth 100000
set_option linter.all false
end Go.Am
