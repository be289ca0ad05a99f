/- The code of each function, computed out of the program. No condition. -/
import Derived.Test.YtgdanfbkhaoieaaXC
import Derived.Test.YtgdanfbkhaoieaaProg
import Derived.KernelRfl
namespace Go.Am
set_option linter.all false
set_option linter.all false
open Go Go.RowKit Go.Proofs
set_option maxRecDepth 100000
def cc97:CC:=CC.seq (CC.reg false [⟨some 4,none,[],.mv (.c (.bool false))⟩] []) (CC.seq (CC.reg false [⟨some 5,none,[0],.mv (.t 0)⟩,⟨some 6,none,[1],.mv (.t 1)⟩,⟨some 7,none,[5,6],.call 139 [.t 5,.t 6]⟩,⟨some 8,none,[7],.bin .geq none (.t 7) (.c (.int .i64 0))⟩,⟨some 4,none,[8],.mv (.t 8)⟩] []) CC.ret)
def cr97:List CRes:=[.tmp 4]
theorem hcr97:compRes Try.prog Try.f97.results.toList=some cr97:=by kernel_rfl
theorem hcc97:Try.f97.body.map (compC Try.prog Try.f97.ntmps)=some cc97:=by kernel_rfl
def cc139:CC:=CC.seq (CC.reg false [⟨some 4,none,[],.mv (.c (.int .i64 0))⟩] []) (CC.seq (CC.seq (CC.reg false [⟨some 6,none,[0],.mv (.t 0)⟩,⟨some 7,none,[6],.len false (.t 6)⟩,⟨some 8,none,[],.mv (.c (.int .i64 0))⟩] []) (CC.block 0 (CC.loop (CC.seq (CC.reg false [⟨some 9,none,[8,7],.bin .lss none (.t 8) (.t 7)⟩] []) (CC.seq (CC.cond (.t 9) CC.skip (CC.exit 0)) (CC.seq (CC.block 1 (CC.seq (CC.reg false [⟨some 10,none,[8],.mv (.t 8)⟩,⟨some 5,none,[10],.mv (.t 10)⟩] []) (CC.seq (CC.reg false [⟨some 11,none,[1],.mv (.t 1)⟩,⟨some 12,none,[0],.mv (.t 0)⟩,⟨some 13,none,[5],.mv (.t 5)⟩,⟨some 14,none,[12,13],.ia 1 (.int .i64 0) (.t 12) (.t 13)⟩,⟨some 15,none,[14],.ld false 1 (.t 14)⟩,⟨some 16,none,[11,15],.bin .eql none (.t 11) (.t 15)⟩] []) (CC.cond (.t 16) (CC.seq (CC.reg false [⟨some 17,none,[5],.mv (.t 5)⟩,⟨some 4,none,[17],.mv (.t 17)⟩] []) CC.ret) CC.skip)))) (CC.reg false [⟨some 18,none,[8],.bin .add none (.t 8) (.c (.int .i64 1))⟩,⟨some 8,none,[18],.mv (.t 18)⟩] []))))))) (CC.seq (CC.reg false [⟨some 4,none,[],.mv (.c (.int .i64 (-1)))⟩] []) CC.ret))
def cr139:List CRes:=[.tmp 4]
theorem hcr139:compRes Try.prog Try.f139.results.toList=some cr139:=by kernel_rfl
theorem hcc139:Try.f139.body.map (compC Try.prog Try.f139.ntmps)=some cc139:=by kernel_rfl
end Go.Am
