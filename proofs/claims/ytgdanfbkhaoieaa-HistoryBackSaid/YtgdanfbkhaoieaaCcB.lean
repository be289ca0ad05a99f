/- The code of each function, computed out of the program. No condition. -/
import Derived.Test.YtgdanfbkhaoieaaXC
import Derived.Test.YtgdanfbkhaoieaaProg
import Derived.KernelRfl
namespace Go.Am
set_option linter.all false
set_option linter.all false
open Go Go.RowKit Go.Proofs
set_option maxRecDepth 100000
def cc63:CC:=.seq (.r [.v 4 (.bool false)]) (.seq (.seq (.r [.m 6 0,.n 7 6,.m 8 1,.n 9 8,.b 10 .neq 7 9]) (.cond (.t 10) (.seq (.r [.v 4 (.bool false)]) CC.ret) CC.skip)) (.seq (.seq (.r [.i 5 0]) (.block 0 (.loop (.seq (.seq (.r [.m 11 5,.m 12 0,.n 13 12,.b 14 .lss 11 13]) (.cond (.t 14) CC.skip (.exit 0))) (.seq (.block 1 (.seq (.d [.m 17 0,.m 18 5,.ia 19 6 .zE 17 18,.L 20 6 19,.m 21 1,.m 22 5,.ia 23 6 .zE 21 22,.L 24 6 23,⟨some 25,none,[20,24],.bin .neq (some [0,0,0,0,0,2]) (.t 20) (.t 24)⟩] []) (.cond (.t 25) (.seq (.r [.v 4 (.bool false)]) CC.ret) CC.skip))) (.r [.m 15 5,.k 16 .add 15 1,.m 5 16])))))) (.seq (.r [.v 4 (.bool true)]) CC.ret)))
def cr63:List CRes:=[.tmp 4]
theorem hcr63:compRes Try.prog Try.f63.results.toList=some cr63:=by kernel_rfl
theorem hcc63:Try.f63.body.map (compC Try.prog Try.f63.ntmps)=some cc63:=by kernel_rfl
def cc68:CC:=.seq (.r [.v 6 (.bool false)]) (.seq (.r [.m 7 0,.m 8 1,.b 9 .geq 7 8,.m 10 9,.gt 10 (.m 11 0),.gt 10 (.m 12 2),.gt 10 (.b 13 .leq 11 12),.pa 14 10 13,.m 6 14]) CC.ret)
def cr68:List CRes:=[.tmp 6]
theorem hcr68:compRes Try.prog Try.f68.results.toList=some cr68:=by kernel_rfl
theorem hcc68:Try.f68.body.map (compC Try.prog Try.f68.ntmps)=some cc68:=by kernel_rfl
def cc69:CC:=.seq (.r [.bx 1 0,.i 2 0]) (.seq (.r [.f 4 0 1,.l 5 4,.m 3 5]) (.seq (.seq (.r [.m 6 3,⟨some 7,none,[6],.call 68 [.t 6,.c (.int .i64 1),.c (.int .i64 6)]⟩,.no 8 7]) (.cond (.t 8) (.seq (.r [.i 2 7]) CC.ret) CC.skip)) (.seq (.seq (.r [.m 9 3,.k 10 .lss 9 3,.m 11 10,.gt 11 (.f 12 3 1),.gt 11 (.l 13 12),.gt 11 (.k 14 .neq 13 0),.gt 11 (.m 15 14),.gf 15 (.f 16 4 1),.gf 15 (.l 17 16),.gf 15 (.k 18 .neq 17 0),.gt 11 (.po 19 15 18),.pa 20 11 19,.m 21 20,.gf 21 (.m 22 3),.gf 21 (.k 23 .eql 22 4),.gf 21 (.m 24 23),.gt 24 (.f 25 4 1),.gt 24 (.l 26 25),.gt 24 (.k 27 .neq 26 0),.gf 21 (.pa 28 24 27),.po 29 21 28,.m 30 29,.gf 30 (.m 31 3),.gf 30 (.k 32 .neq 31 4),.gf 30 (.m 33 32),.gt 33 (.f 34 5 1),.gt 33 (.l 35 34),.gt 33 (.j 36 .neq 35 (.str [])),.gf 30 (.pa 37 33 36),.po 38 30 37]) (.cond (.t 38) (.seq (.r [.i 2 1]) CC.ret) CC.skip)) (.seq (.r [.i 2 0]) CC.ret))))
def cr69:List CRes:=[.tmp 2]
theorem hcr69:compRes Try.prog Try.f69.results.toList=some cr69:=by kernel_rfl
theorem hcc69:Try.f69.body.map (compC Try.prog Try.f69.ntmps)=some cc69:=by kernel_rfl
def cc70:CC:=.seq (.r [.v 2 (.bool false)]) (.seq (.r [.m 3 0,⟨some 4,none,[3],.call 68 [.t 3,.c (.int .i64 (-999999999)),.c (.int .i64 999999999)]⟩,.m 2 4]) CC.ret)
def cr70:List CRes:=[.tmp 2]
theorem hcr70:compRes Try.prog Try.f70.results.toList=some cr70:=by kernel_rfl
theorem hcc70:Try.f70.body.map (compC Try.prog Try.f70.ntmps)=some cc70:=by kernel_rfl
def cc128:CC:=.seq (.r [.bx 1 0,.i 2 0]) (.seq (.seq (.r [.f 4 0 1,.l 5 4,⟨some 6,none,[5],.call 140 [.t 5,.c (.int .i64 1),.c (.int .i64 6)]⟩,.no 7 6]) (.cond (.t 7) (.seq (.r [.i 2 7]) CC.ret) CC.skip)) (.seq (.r [.f 8 0 1,.l 9 8,.k 10 .eql 9 1,.m 11 10,.gf 11 (.f 12 0 1),.gf 11 (.l 13 12),.gf 11 (.k 14 .eql 13 2),.po 15 11 14,.m 3 15]) (.seq (.seq (.r [.m 16 3,.m 17 16,.gt 17 (.f 18 3 1),.gt 17 (.l 19 18),.gt 17 (.k 20 .neq 19 0),.gt 17 (.m 21 20),.gf 21 (.f 22 4 1),.gf 21 (.l 23 22),.gf 21 (.k 24 .neq 23 0),.gt 17 (.po 25 21 24),.pa 26 17 25,.m 27 26,.gf 27 (.f 28 0 1),.gf 27 (.l 29 28),.gf 27 (.k 30 .eql 29 4),.gf 27 (.m 31 30),.gt 31 (.f 32 4 1),.gt 31 (.l 33 32),.gt 31 (.k 34 .neq 33 0),.gf 27 (.pa 35 31 34),.po 36 27 35,.m 37 36,.gf 37 (.f 38 0 1),.gf 37 (.l 39 38),.gf 37 (.k 40 .neq 39 4),.gf 37 (.m 41 40),.gt 41 (.f 42 5 1),.gt 41 (.l 43 42),.gt 41 (.j 44 .neq 43 (.str [])),.gf 37 (.pa 45 41 44),.po 46 37 45]) (.cond (.t 46) (.seq (.r [.i 2 1]) CC.ret) CC.skip)) (.seq (.r [.i 2 0]) CC.ret))))
def cr128:List CRes:=[.tmp 2]
theorem hcr128:compRes Try.prog Try.f128.results.toList=some cr128:=by kernel_rfl
theorem hcc128:Try.f128.body.map (compC Try.prog Try.f128.ntmps)=some cc128:=by kernel_rfl
def cc129:CC:=.seq (.r [.v 2 (.bool false)]) (.seq (.r [.m 3 0,.k 4 .geq 3 (-999999999),.m 5 4,.gt 5 (.m 6 0),.gt 5 (.k 7 .leq 6 999999999),.pa 8 5 7,.m 2 8]) CC.ret)
def cr129:List CRes:=[.tmp 2]
theorem hcr129:compRes Try.prog Try.f129.results.toList=some cr129:=by kernel_rfl
theorem hcc129:Try.f129.body.map (compC Try.prog Try.f129.ntmps)=some cc129:=by kernel_rfl
def cc140:CC:=.seq (.r [.v 6 (.bool false)]) (.seq (.r [.m 7 0,.m 8 1,.b 9 .geq 7 8,.m 10 9,.gt 10 (.m 11 0),.gt 10 (.m 12 2),.gt 10 (.b 13 .leq 11 12),.pa 14 10 13,.m 6 14]) CC.ret)
def cr140:List CRes:=[.tmp 6]
theorem hcr140:compRes Try.prog Try.f140.results.toList=some cr140:=by kernel_rfl
theorem hcc140:Try.f140.body.map (compC Try.prog Try.f140.ntmps)=some cc140:=by kernel_rfl
end Go.Am
