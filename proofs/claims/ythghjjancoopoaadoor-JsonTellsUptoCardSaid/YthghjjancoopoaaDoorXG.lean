/- What is told of arguments that are batches, events and texts. No condition. -/
import Derived.Test.YthghjjancoopoaaDoorXT
import Derived.Test.YthghjjancoopoaaDoorXC
import Derived.Test.YthghjjancoopoaaDoorRows
namespace Go.Proofs.YthghjjancoopoaaDoor
open Go Go.RowKit Go.Am
set_option maxRecDepth 100000
theorem Tryd.own:ownKnob Tryd.prog.godebug=none:=by kernel_rfl
theorem Tryd.laidOut:laidOutB Tryd.prog=true:=by kernel_rfl
noncomputable def tys(fn:Func):List TypeId:=closeT Tryd.prog 8 fn.params.toList
end Go.Proofs.YthghjjancoopoaaDoor
