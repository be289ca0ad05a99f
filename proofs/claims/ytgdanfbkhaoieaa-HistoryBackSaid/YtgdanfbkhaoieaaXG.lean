/- What is told of arguments that are batches, events and texts. No condition. -/
import Derived.Test.YtgdanfbkhaoieaaXT
import Derived.Test.YtgdanfbkhaoieaaXC
import Derived.Test.YtgdanfbkhaoieaaRows
namespace Go.Proofs.Ytgdanfbkhaoieaa
open Go Go.RowKit Go.Am
set_option maxRecDepth 100000
theorem Try.own:ownKnob Try.prog.godebug=none:=by kernel_rfl
theorem Try.laidOut:laidOutB Try.prog=true:=by kernel_rfl
noncomputable def tys (fn:Func):List TypeId:=closeT Try.prog 8 fn.params.toList
end Go.Proofs.Ytgdanfbkhaoieaa
