/- Parts of the proof: an abstract machine for Go functions, and what functions of the program give back (Qr14, Qr15). No condition. -/
import Derived.Test.YtgfmjhmjnnpcgaaGreatDoorYN
namespace Go.Am
set_option linter.all false
open Go Go.RowKit Go.Proofs
set_option maxRecDepth 100000
set_option linter.all false
end Go.Am
namespace Go.Am
set_option linter.all false
open Go Go.RowKit Go.Proofs
set_option maxRecDepth 100000
set_option linter.all false
end Go.Am
