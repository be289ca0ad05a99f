/- Parts of the proof: an abstract machine for Go functions, and what functions of the program give back (Hi1, Hi2, Hi3). No condition. -/
import Derived.Test.YtgdanfbkhaoieaaXY
import Derived.Test.YtgdanfbkhaoieaaXD
import Derived.Test.YtgdanfbkhaoieaaCcH
namespace Go.Am
set_option linter.all false
open Go Go.RowKit Go.Proofs
set_option maxRecDepth 100000
set_option linter.all false
end Go.Am
namespace Go.Am
set_option linter.all false
open Go Go.RowKit Go.Proofs
set_option maxRecDepth 100000
set_option linter.all false
end Go.Am
namespace Go.Am
set_option linter.all false
open Go Go.RowKit Go.Proofs
set_option maxRecDepth 100000
set_option linter.all false
def staA (w:Int) (s:Sta):AV:=if w=0 then .sl (s.types.map eTy) else .nils
def staB (w:Int) (s:Sta):AV:=if w=0 then .sl (s.things.map eTg) else .nils
def staV (w:Int) (s:Sta):AV:=.agg [staA w s,staB w s]
theorem staV_eq (w:Int) (s:Sta):staV w s=if w=0 then eSta s else eS0:=by
  unfold staV staA staB
  by_cases h:w=0
  · rw [if_pos h,if_pos h,if_pos h]; rfl
  · rw [if_neg h,if_neg h,if_neg h]; rfl
@[simp] theorem one_staA (w:Int) (s:Sta):AV.one (staA w s)=true:=by unfold staA; split <;> rfl
@[simp] theorem one_staB (w:Int) (s:Sta):AV.one (staB w s)=true:=by unfold staB; split <;> rfl
end Go.Am
