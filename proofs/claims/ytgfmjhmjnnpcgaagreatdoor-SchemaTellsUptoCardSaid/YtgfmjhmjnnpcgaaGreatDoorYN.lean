/- Readers of tokens: query.Read. No condition. -/
import Derived.Test.YtgfmjhmjnnpcgaaGreatDoorYM
import Derived.Test.YtgfmjhmjnnpcgaaGreatDoorYI
namespace Go.Am
set_option linter.all false
open Go Go.RowKit Go.Proofs
set_option maxRecDepth 100000
set_option linter.all false
end Go.Am
