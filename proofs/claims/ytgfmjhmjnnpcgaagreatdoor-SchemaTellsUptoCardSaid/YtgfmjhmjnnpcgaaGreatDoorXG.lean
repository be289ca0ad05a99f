/- What is told of arguments that are batches, events and texts. No condition. -/
import Derived.Test.YtgfmjhmjnnpcgaaGreatDoorXT
import Derived.Test.YtgfmjhmjnnpcgaaGreatDoorXC
import Derived.Test.YtgfmjhmjnnpcgaaGreatDoorRows
namespace Go.Proofs.YtgfmjhmjnnpcgaaGreatDoor
open Go Go.RowKit Go.Am
set_option maxRecDepth 100000
theorem Tryz.own:ownKnob Tryz.prog.godebug=none:=by kernel_rfl
theorem Tryz.laidOut:laidOutB Tryz.prog=true:=by kernel_rfl
noncomputable def tys(fn:Func):List TypeId:=closeT Tryz.prog 8 fn.params.toList
end Go.Proofs.YtgfmjhmjnnpcgaaGreatDoor
