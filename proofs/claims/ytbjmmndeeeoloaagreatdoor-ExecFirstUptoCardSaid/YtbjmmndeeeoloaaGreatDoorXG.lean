/- What is told of arguments that are batches, events and texts. No condition. -/
import Derived.Test.YtbjmmndeeeoloaaGreatDoorXT
import Derived.Test.YtbjmmndeeeoloaaGreatDoorXC
import Derived.Test.YtbjmmndeeeoloaaGreatDoorRows
namespace Go.Proofs.YtbjmmndeeeoloaaGreatDoor
open Go Go.RowKit Go.Am
set_option maxRecDepth 100000
theorem Tryz.own:ownKnob Tryz.prog.godebug=none:=by kernel_rfl
theorem Tryz.laidOut:laidOutB Tryz.prog=true:=by kernel_rfl
noncomputable def tys(fn:Func):List TypeId:=closeT Tryz.prog 8 fn.params.toList
end Go.Proofs.YtbjmmndeeeoloaaGreatDoor
