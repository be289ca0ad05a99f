/- What the laws of queries answered look at first. No condition. -/
import Derived.Test.YthghjjancoopoaaDoorYJ
import Derived.Test.YthghjjancoopoaaDoorYC
import Derived.Test.YthghjjancoopoaaDoorYE
import Derived.Test.YthghjjancoopoaaDoorXD
namespace Go.Am
set_option linter.all false
open Go Go.RowKit Go.Proofs
set_option maxRecDepth 100000
set_option linter.all false
theorem w0(x:Int)(h : -9223372036854775808≤x∧x≤9223372036854775807):IntKind.i64.wrap x=x:=wrap64 h
end Go.Am
