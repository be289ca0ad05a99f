/- The code of each function, computed out of the program. No condition. -/
import Derived.Test.YtgdanfbkhaoieaaXC
import Derived.Test.YtgdanfbkhaoieaaProg
import Derived.KernelRfl
namespace Go.Am
set_option linter.all false
set_option linter.all false
open Go Go.RowKit Go.Proofs
set_option maxRecDepth 100000
def cc97:CC:=.seq (.r [.v 4 (.bool false)]) (.seq (.r [.m 5 0,.m 6 1,.c 7 139 [5,6],.k 8 .geq 7 0,.m 4 8]) CC.ret)
def cr97:List CRes:=[.tmp 4]
theorem hcr97:compRes Try.prog Try.f97.results.toList=some cr97:=by kernel_rfl
theorem hcc97:Try.f97.body.map (compC Try.prog Try.f97.ntmps)=some cc97:=by kernel_rfl
def cc139:CC:=.seq (.r [.i 4 0]) (.seq (.seq (.r [.m 6 0,.n 7 6,.i 8 0]) (.block 0 (.loop (.seq (.r [.b 9 .lss 8 7]) (.seq (.cond (.t 9) CC.skip (.exit 0)) (.seq (.block 1 (.seq (.r [.m 10 8,.m 5 10]) (.seq (.r [.m 11 1,.m 12 0,.m 13 5,.ia 14 1 (.int .i64 0) 12 13,.l 15 14,.b 16 .eql 11 15]) (.cond (.t 16) (.seq (.r [.m 17 5,.m 4 17]) CC.ret) CC.skip)))) (.r [.k 18 .add 8 1,.m 8 18]))))))) (.seq (.r [.i 4 (-1)]) CC.ret))
def cr139:List CRes:=[.tmp 4]
theorem hcr139:compRes Try.prog Try.f139.results.toList=some cr139:=by kernel_rfl
theorem hcc139:Try.f139.body.map (compC Try.prog Try.f139.ntmps)=some cc139:=by kernel_rfl
end Go.Am
