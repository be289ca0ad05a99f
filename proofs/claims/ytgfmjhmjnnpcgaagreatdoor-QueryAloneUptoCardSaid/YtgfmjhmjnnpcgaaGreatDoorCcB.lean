/- Parts of the proof: an abstract machine for Go functions, and what functions of the program give back (CcB, CcS, CcV, CcY, CcZ). No condition. -/
import Derived.Test.YtgfmjhmjnnpcgaaGreatDoorXC
import Derived.Test.YtgfmjhmjnnpcgaaGreatDoorProg
import Derived.KernelRfl
namespace Go.Am
set_option linter.all false
set_option linter.all false
open Go Go.RowKit Go.Proofs
set_option maxRecDepth 100000
def cc10:CC:=.seq (.r [.v 2 (.bool false)]) (.seq (.seq (.r [.c 5 29 [],.no 6 5]) (.cond (.t 6) (.seq (.r [.v 2 (.bool false)]) CC.ret) CC.skip)) (.seq (.seq (.r [.m 7 0,.c 8 30 [7],.k 9 .neq 8 0]) (.cond (.t 9) (.seq (.r [.v 2 (.bool true)]) CC.ret) CC.skip)) (.seq (.r [.v 3 .nils]) (.seq (.seq (.r [.i 4 0]) (.block 0 (.loop (.seq (.seq (.r [.m 10 4,.m 11 0,.n 12 11,.b 13 .lss 10 12]) (.cond (.t 13) CC.skip (.exit 0))) (.seq (.block 1 (.seq (.seq (.r [.m 16 0,.m 17 4,.m 18 4,.k 19 .add 18 1,⟨some 20,none,[16,17,19],.sli 4 (.t 16) (some (.t 17)) (some (.t 19))⟩,.c 21 30 [20],.k 22 .neq 21 0,.m 23 22,.gf 23 (.m 24 0),.gf 23 (.m 25 4),.gf 23 (.ia 26 4 .zQ 24 25),.gf 23 (.f 27 3 26),.gf 23 (.l 28 27),.gf 23 (.n 29 28),.gf 23 (.k 30 .gtr 29 0),.gf 23 (.m 31 30),.gt 31 (.m 32 0),.gt 31 (.m 33 4),.gt 31 (.ia 34 4 .zQ 32 33),.gt 31 (.f 35 3 34),.gt 31 (.l 36 35),.gt 31 (.c 37 30 [36]),.gt 31 (.k 38 .neq 37 0),.gf 23 (.pa 39 31 38),.po 40 23 39]) (.cond (.t 40) (.seq (.r [.v 2 (.bool false)]) CC.ret) CC.skip)) (.r [.m 41 0,.m 42 4,.ia 43 4 .zQ 41 42,.L 44 4 43,⟨some 45,none,[44],.bslice .zQ 1 [(0,.t 44)]⟩,.m 46 3,⟨some 47,none,[45,46],.app false .zQ 80 (.t 45) (.t 46)⟩,.m 3 47]))) (.r [.m 14 4,.k 15 .add 14 1,.m 4 15])))))) (.seq (.r [.m 48 3,.c 49 30 [48],.k 50 .eql 49 0,.m 2 50]) CC.ret)))))
def cr10:List CRes:=[.tmp 2]
theorem hcr10:compRes Tryz.prog Tryz.f10.results.toList=some cr10:=by kernel_rfl
theorem hcc10:Tryz.f10.body.map (compC Tryz.prog Tryz.f10.ntmps)=some cc10:=by kernel_rfl
def cc13:CC:=.seq (.r [.v 2 .nils,.i 3 0]) (.seq (.seq (.r [.m 4 0,.ns 5 4,.k 6 .gtr 5 2000]) (.cond (.t 6) (.seq (.r [.v 2 .nils,.i 3 2]) CC.ret) CC.skip)) (.seq (.r [.m 7 0,.c 8 37 [7],.e 9 8 0,.e 10 8 1,.m 2 9,.m 3 10]) CC.ret))
def cr13:List CRes:=[.tmp 2,.tmp 3]
theorem hcr13:compRes Tryz.prog Tryz.f13.results.toList=some cr13:=by kernel_rfl
theorem hcc13:Tryz.f13.body.map (compC Tryz.prog Tryz.f13.ntmps)=some cc13:=by kernel_rfl
def cc29:CC:=.seq (.r [.v 0 (.bool false)]) (.seq (.r [⟨some 8,none,[],.call 31 [.c (.str [123,32,120,58,32,65,40,105,100,58,32,51,41,32,123,32,105,100,32,110,32,125,32,125])]⟩,.m 7 8,.e 9 7 0,.e 10 7 1,.m 1 9,.m 2 10]) (.seq (.r [.c 12 63 [],.c 13 32 [12],.m 11 13,.e 14 11 0,.e 15 11 1,.m 3 14,.m 4 15]) (.seq (.r [⟨some 17,none,[],.call 31 [.c (.str [123,32,125])]⟩,.m 16 17,.e 18 16 0,.e 19 16 1,.m 5 18,.m 6 19]) (.seq (.r [.m 20 2,.k 21 .eql 20 0,.m 22 21,.gt 22 (.m 23 4),.gt 22 (.k 24 .eql 23 0),.pa 25 22 24,.m 26 25,.gt 26 (.m 27 6),.gt 26 (.k 28 .eql 27 1),.pa 29 26 28,.m 30 29,.gt 30 (.c 31 63 []),.gt 30 (.c 32 30 [31]),.gt 30 (.k 33 .eql 32 0),.pa 34 30 33,.m 35 34,.gt 35 (.m 36 1),.gt 35 (.c 37 63 []),.gt 35 (.c 38 36 [36,37]),.pa 39 35 38,.m 40 39,.gt 40 (.m 41 3),.gt 40 (.j 42 .eql 41 (.str [123,32,120,32,58,32,65,32,40,32,105,100,32,58,32,51,32,41,32,123,32,105,100,32,110,32,125,32,125])),.pa 43 40 42,.m 0 43]) CC.ret))))
def cr29:List CRes:=[.tmp 0]
theorem hcr29:compRes Tryz.prog Tryz.f29.results.toList=some cr29:=by kernel_rfl
theorem hcc29:Tryz.f29.body.map (compC Tryz.prog Tryz.f29.ntmps)=some cc29:=by kernel_rfl
def cc30:CC:=.seq (.r [.i 2 0]) (.seq (.seq (.r [.m 5 0,.n 6 5,.k 7 .eql 6 0]) (.cond (.t 7) (.seq (.r [.i 2 5]) CC.ret) CC.skip)) (.seq (.seq (.r [.m 9 0,⟨some 10,none,[9],.call 64 [.t 9,.c (.int .i64 5)]⟩,.m 8 10,.e 11 8 0,.e 12 8 1,.m 3 11,.m 4 12]) (.seq (.r [.m 13 3,.k 14 .gtr 13 40,.m 15 14,.gf 15 (.m 16 4),.gf 15 (.k 17 .gtr 16 5),.po 18 15 17]) (.cond (.t 18) (.seq (.r [.i 2 2]) CC.ret) CC.skip))) (.seq (.r [.m 19 0,.c 20 65 [19],.m 2 20]) CC.ret)))
def cr30:List CRes:=[.tmp 2]
theorem hcr30:compRes Tryz.prog Tryz.f30.results.toList=some cr30:=by kernel_rfl
theorem hcc30:Tryz.f30.body.map (compC Tryz.prog Tryz.f30.ntmps)=some cc30:=by kernel_rfl
def cc31:CC:=.seq (.r [.v 2 .nils,.i 3 0]) (.seq (.r [.al 4 .nils]) (.seq (.r [.m 6 0,⟨some 7,none,[4],.mkf 66 [.t 4]⟩,.c 8 52 [6,7],.m 5 8]) (.seq (.seq (.r [.m 9 5,.k 10 .eql 9 0]) (.cond (.t 10) (.r [.l 11 4,.c 12 30 [11],.m 5 12]) CC.skip)) (.seq (.seq (.r [.m 13 5,.k 14 .neq 13 0]) (.cond (.t 14) (.seq (.r [.m 15 5,.v 2 .nils,.m 3 15]) CC.ret) CC.skip)) (.seq (.r [.l 16 4,.m 2 16,.i 3 0]) CC.ret)))))
def cr31:List CRes:=[.tmp 2,.tmp 3]
theorem hcr31:compRes Tryz.prog Tryz.f31.results.toList=some cr31:=by kernel_rfl
theorem hcc31:Tryz.f31.body.map (compC Tryz.prog Tryz.f31.ntmps)=some cc31:=by kernel_rfl
def cc32:CC:=.seq (.r [.v 2 (.str []),.i 3 0]) (.seq (.seq (.r [.m 5 0,.c 6 30 [5],.m 4 6]) (.seq (.r [.m 7 4,.k 8 .neq 7 0]) (.cond (.t 8) (.seq (.r [.m 9 4,.v 2 (.str []),.m 3 9]) CC.ret) CC.skip))) (.seq (.r [.m 10 0,.c 11 68 [10],.c 12 39 [11],.m 2 12,.i 3 0]) CC.ret))
def cr32:List CRes:=[.tmp 2,.tmp 3]
theorem hcr32:compRes Tryz.prog Tryz.f32.results.toList=some cr32:=by kernel_rfl
theorem hcc32:Tryz.f32.body.map (compC Tryz.prog Tryz.f32.ntmps)=some cc32:=by kernel_rfl
def cc36:CC:=.seq (.r [.v 4 (.bool false)]) (.seq (.seq (.r [.m 7 0,.n 8 7,.m 9 1,.n 10 9,.b 11 .neq 8 10]) (.cond (.t 11) (.seq (.r [.v 4 (.bool false)]) CC.ret) CC.skip)) (.seq (.seq (.r [.i 5 0]) (.block 0 (.loop (.seq (.seq (.r [.m 12 5,.m 13 0,.n 14 13,.b 15 .lss 12 14]) (.cond (.t 15) CC.skip (.exit 0))) (.seq (.block 1 (.seq (.seq (.d [.m 18 0,.m 19 5,.ia 20 4 .zQ 18 19,.f 21 0 20,.l 22 21,.m 23 1,.m 24 5,.ia 25 4 .zQ 23 24,.f 26 0 25,.l 27 26,.b 28 .neq 22 27,.m 29 28,.gf 29 (.m 30 0),.gf 29 (.m 31 5),.gf 29 (.ia 32 4 .zQ 30 31),.gf 29 (.f 33 1 32),.gf 29 (.l 34 33),.gf 29 (.m 35 1),.gf 29 (.m 36 5),.gf 29 (.ia 37 4 .zQ 35 36),.gf 29 (.f 38 1 37),.gf 29 (.l 39 38),.gf 29 (.b 40 .neq 34 39),.po 41 29 40,.m 42 41,.gf 42 (.m 43 0),.gf 42 (.m 44 5),.gf 42 (.ia 45 4 .zQ 43 44),.gf 42 (.f 46 2 45),.gf 42 (.l 47 46),.gf 42 (.n 48 47),.gf 42 (.m 49 1),.gf 42 (.m 50 5),.gf 42 (.ia 51 4 .zQ 49 50),.gf 42 (.f 52 2 51),.gf 42 (.l 53 52),.gf 42 (.n 54 53),.gf 42 (.b 55 .neq 48 54),.po 56 42 55,.m 57 56,.gf 57 (.m 58 0),.gf 57 (.m 59 5),.gf 57 (.ia 60 4 .zQ 58 59),.gf 57 (.f 61 3 60),.gf 57 (.l 62 61),.gf 57 (.m 63 1),.gf 57 (.m 64 5),.gf 57 (.ia 65 4 .zQ 63 64),.gf 57 (.f 66 3 65),.gf 57 (.l 67 66),.gf 57 (.c 68 36 [62,67]),.gf 57 (.no 69 68),.po 70 57 69] []) (.cond (.t 70) (.seq (.r [.v 4 (.bool false)]) CC.ret) CC.skip)) (.seq (.r [.i 6 0]) (.block 2 (.loop (.seq (.seq (.r [.m 71 6,.m 72 0,.m 73 5,.ia 74 4 .zQ 72 73,.f 75 2 74,.l 76 75,.n 77 76,.b 78 .lss 71 77]) (.cond (.t 78) CC.skip (.exit 2))) (.seq (.block 3 (.seq (.d [.m 81 0,.m 82 5,.ia 83 4 .zQ 81 82,.f 84 2 83,.l 85 84,.m 86 6,.ia 87 4 .zA 85 86,.L 88 4 87,.m 89 1,.m 90 5,.ia 91 4 .zQ 89 90,.f 92 2 91,.l 93 92,.m 94 6,.ia 95 4 .zA 93 94,.L 96 4 95,⟨some 97,none,[88,96],.bin .neq (some [2,1,2,0]) (.t 88) (.t 96)⟩] []) (.cond (.t 97) (.seq (.r [.v 4 (.bool false)]) CC.ret) CC.skip))) (.r [.m 79 6,.k 80 .add 79 1,.m 6 80])))))))) (.r [.m 16 5,.k 17 .add 16 1,.m 5 17])))))) (.seq (.r [.v 4 (.bool true)]) CC.ret)))
def cr36:List CRes:=[.tmp 4]
theorem hcr36:compRes Tryz.prog Tryz.f36.results.toList=some cr36:=by kernel_rfl
theorem hcc36:Tryz.f36.body.map (compC Tryz.prog Tryz.f36.ntmps)=some cc36:=by kernel_rfl
def cc39:CC:=.seq (.r [.v 2 (.str [])]) (.seq (.r [.v 3 .nils]) (.seq (.seq (.r [.m 6 0,.n 7 6,.i 8 0]) (.block 0 (.loop (.seq (.r [.b 9 .lss 8 7]) (.seq (.cond (.t 9) CC.skip (.exit 0)) (.seq (.block 1 (.seq (.r [.ia 10 3 (.agg [.int .i64 0,.str [],.int .i64 0]) 6 8,.L 11 3 10,.al 5 (.agg [.int .i64 0,.str [],.int .i64 0]),.st 3 5 11]) (.r [.m 12 3,.L 13 3 5,.c 14 76 [13],⟨some 15,none,[14],.bslice (.str []) 1 [(0,.t 14)]⟩,⟨some 16,none,[12,15],.app false (.str []) 16 (.t 12) (.t 15)⟩,.m 3 16]))) (.r [.k 17 .add 8 1,.m 8 17]))))))) (.seq (.r [.m 18 3,⟨some 19,none,[18],.call 77 [.t 18,.c (.str [32])]⟩,.m 2 19]) CC.ret)))
def cr39:List CRes:=[.tmp 2]
theorem hcr39:compRes Tryz.prog Tryz.f39.results.toList=some cr39:=by kernel_rfl
theorem hcc39:Tryz.f39.body.map (compC Tryz.prog Tryz.f39.ntmps)=some cc39:=by kernel_rfl
def cc47:CC:=.seq (.r [.v 2 (.str [])]) (.seq (.seq (.r [.m 3 0,.k 4 .lss 3 0,.m 5 4,.gt 5 (.m 6 0),.gt 5 (.k 7 .gtr 6 (-10)),.pa 8 5 7]) (.cond (.t 8) (.seq (.r [.m 9 0,⟨some 10,none,[9],.un .neg (.t 9)⟩,.c 11 47 [10],⟨some 12,none,[11],.bin .add none (.c (.str [45])) (.t 11)⟩,.m 2 12]) CC.ret) CC.skip)) (.seq (.seq (.r [.m 13 0,.k 14 .lss 13 0]) (.cond (.t 14) (.seq (.r [.m 15 0,.k 16 .quo 15 10,⟨some 17,none,[16],.un .neg (.t 16)⟩,.c 18 47 [17],⟨some 19,none,[18],.bin .add none (.c (.str [45])) (.t 18)⟩,.m 20 0,.k 21 .rem 20 10,⟨some 22,none,[21],.un .neg (.t 21)⟩,.c 23 47 [22],.b 24 .add 19 23,.m 2 24]) CC.ret) CC.skip)) (.seq (.seq (.r [.m 25 0,.k 26 .lss 25 10]) (.cond (.t 26) (.seq (.r [.m 27 0,⟨some 28,none,[27],.bin .add none (.c (.int .i64 48)) (.t 27)⟩,⟨some 29,none,[28],.conv (.int .u8) (.t 28)⟩,⟨some 30,none,[29],.bslice (.int .u8 0) 1 [(0,.t 29)]⟩,⟨some 31,none,[30],.conv .str (.t 30)⟩,.m 2 31]) CC.ret) CC.skip)) (.seq (.r [.m 32 0,.k 33 .quo 32 10,.c 34 47 [33],.m 35 0,.k 36 .rem 35 10,.c 37 47 [36],.b 38 .add 34 37,.m 2 38]) CC.ret))))
def cr47:List CRes:=[.tmp 2]
theorem hcr47:compRes Tryz.prog Tryz.f47.results.toList=some cr47:=by kernel_rfl
theorem hcc47:Tryz.f47.body.map (compC Tryz.prog Tryz.f47.ntmps)=some cc47:=by kernel_rfl
def cc63:CC:=.seq (.r [.v 0 .nils]) (.seq (.r [⟨some 1,none,[],.build [.str [],.bool false,.str [],.int .i64 0] [(0,1,.c (.str [105,100])),(3,1,.c (.int .i64 3))]⟩,⟨some 2,none,[1],.bslice .zA 1 [(0,.t 1)]⟩,⟨some 3,none,[],.build [.str [],.str [],.nils,.nils] [(1,1,.c (.str [105,100]))]⟩,⟨some 4,none,[],.build [.str [],.str [],.nils,.nils] [(1,1,.c (.str [110]))]⟩,⟨some 5,none,[3,4],.bslice .zQ 2 [(0,.t 3),(1,.t 4)]⟩,⟨some 6,none,[2,5],.build [.str [],.str [],.nils,.nils] [(0,1,.c (.str [120])),(1,1,.c (.str [65])),(2,1,.t 2),(3,1,.t 5)]⟩,⟨some 7,none,[6],.bslice .zQ 1 [(0,.t 6)]⟩,.m 0 7]) CC.ret)
def cr63:List CRes:=[.tmp 0]
theorem hcr63:compRes Tryz.prog Tryz.f63.results.toList=some cr63:=by kernel_rfl
theorem hcc63:Tryz.f63.body.map (compC Tryz.prog Tryz.f63.ntmps)=some cc63:=by kernel_rfl
def cc64:CC:=.seq (.r [.i 4 0,.i 5 0]) (.seq (.r [.m 12 0,.n 13 12,.m 14 0,.n 15 14,⟨some 16,none,[15],.mm false (.t 15) (.c (.int .i64 1))⟩,.m 6 13,.m 7 16]) (.seq (.seq (.r [.m 17 0,.n 18 17,.i 19 0]) (.block 0 (.loop (.seq (.r [.b 20 .lss 19 18]) (.seq (.cond (.t 20) CC.skip (.exit 0)) (.seq (.block 1 (.seq (.r [.ia 21 4 .zQ 17 19,.L 22 4 21,.al 9 .zQ,.st 4 9 22]) (.seq (.seq (.r [.m 23 1,.k 24 .eql 23 0]) (.cond (.t 24) (.exit 0) CC.skip)) (.seq (.r [.f 26 3 9,.l 27 26,.m 28 1,.k 29 .sub 28 1,.c 30 64 [27,29],.m 25 30,.e 31 25 0,.e 32 25 1,.m 10 31,.m 11 32]) (.r [.m 33 6,.m 34 10,.b 35 .add 33 34,.m 36 7,.m 37 11,.k 38 .add 37 1,⟨some 39,none,[36,38],.mm true (.t 36) (.t 38)⟩,.m 6 35,.m 7 39]))))) (.r [.k 40 .add 19 1,.m 19 40]))))))) (.seq (.r [.m 41 6,.m 42 7,.m 4 41,.m 5 42]) CC.ret)))
def cr64:List CRes:=[.tmp 4,.tmp 5]
theorem hcr64:compRes Tryz.prog Tryz.f64.results.toList=some cr64:=by kernel_rfl
theorem hcc64:Tryz.f64.body.map (compC Tryz.prog Tryz.f64.ntmps)=some cc64:=by kernel_rfl
def cc65:CC:=.seq (.r [.i 2 0]) (.seq (.seq (.r [.m 6 0,.n 7 6,.i 8 0]) (.block 0 (.loop (.seq (.r [.b 9 .lss 8 7]) (.seq (.cond (.t 9) CC.skip (.exit 0)) (.seq (.block 1 (.seq (.r [.m 10 8,.ia 11 4 .zQ 6 8,.L 12 4 11,.al 4 .zQ,.m 3 10,.st 4 4 12]) (.seq (.r [.f 13 1 4,.l 14 13,.c 15 78 [14],.m 5 15]) (.seq (.seq (.r [.m 16 5,.k 17 .eql 16 0,.m 18 17,.gt 18 (.f 19 0 4),.gt 18 (.l 20 19),.gt 18 (.j 21 .neq 20 (.str [])),.pa 22 18 21]) (.cond (.t 22) (.r [.f 23 0 4,.l 24 23,.c 25 78 [24],.m 5 25]) CC.skip)) (.seq (.seq (.r [.m 26 5,.k 27 .eql 26 0]) (.cond (.t 27) (.r [.f 28 2 4,.l 29 28,.c 30 94 [29],.m 5 30]) CC.skip)) (.seq (.seq (.r [.m 31 5,.k 32 .eql 31 0,.m 33 32,.gt 33 (.m 34 0),.gt 33 (.m 35 3),.gt 33 ⟨some 36,none,[34,35],.sli 4 (.t 34) none (some (.t 35))⟩,.gt 33 ⟨some 37,none,[4],.mkf 96 [.t 4]⟩,.gt 33 (.c 38 95 [36,37]),.pa 39 33 38]) (.cond (.t 39) (.r [.i 5 6]) CC.skip)) (.seq (.seq (.r [.m 40 5,.k 41 .eql 40 0]) (.cond (.t 41) (.r [.f 42 3 4,.l 43 42,.c 44 65 [43],.m 5 44]) CC.skip)) (.seq (.r [.m 45 5,.k 46 .neq 45 0]) (.cond (.t 46) (.seq (.r [.m 47 5,.m 2 47]) CC.ret) CC.skip))))))))) (.r [.k 48 .add 8 1,.m 8 48]))))))) (.seq (.r [.i 2 0]) CC.ret))
def cr65:List CRes:=[.tmp 2]
theorem hcr65:compRes Tryz.prog Tryz.f65.results.toList=some cr65:=by kernel_rfl
theorem hcc65:Tryz.f65.body.map (compC Tryz.prog Tryz.f65.ntmps)=some cc65:=by kernel_rfl
def cc66:CC:=.r [.m 3 0,.c 4 67 [3],.st 1 1 4]
def cr66:List CRes:=[]
theorem hcr66:compRes Tryz.prog Tryz.f66.results.toList=some cr66:=by kernel_rfl
theorem hcc66:Tryz.f66.body.map (compC Tryz.prog Tryz.f66.ntmps)=some cc66:=by kernel_rfl
def cc67:CC:=.seq (.r [.bx 1 0,.v 2 .nils]) (.seq (.r [.l 4 1,⟨some 5,none,[4],.call 87 [.t 4,.c (.str [123])]⟩]) (.seq (.r [.al 3 .nils]) (.seq (.r [.l 6 1,⟨some 7,none,[3,1],.mkf 98 [.t 3,.t 1]⟩,⟨some 8,none,[6,7],.call 88 [.t 6,.c (.str [125]),.t 7]⟩]) (.seq (.r [.l 9 3,.m 2 9]) CC.ret))))
def cr67:List CRes:=[.tmp 2]
theorem hcr67:compRes Tryz.prog Tryz.f67.results.toList=some cr67:=by kernel_rfl
theorem hcc67:Tryz.f67.body.map (compC Tryz.prog Tryz.f67.ntmps)=some cc67:=by kernel_rfl
def cc68:CC:=.seq (.r [.v 2 .nils]) (.seq (.r [⟨some 9,none,[],.call 93 [.c (.str [123])]⟩,⟨some 10,none,[9],.bslice (.agg [.int .i64 0,.str [],.int .i64 0]) 1 [(0,.t 9)]⟩,.al 3 .nils,.st 1 3 10]) (.seq (.r [⟨some 11,none,[3],.mkf 100 [.t 3]⟩,.m 4 11]) (.seq (.seq (.r [.m 12 0,.n 13 12,.i 14 0]) (.block 0 (.loop (.seq (.r [.b 15 .lss 14 13]) (.seq (.cond (.t 15) CC.skip (.exit 0)) (.seq (.block 1 (.seq (.r [.ia 16 4 .zQ 12 14,.L 17 4 16,.al 6 .zQ,.st 4 6 17]) (.seq (.seq (.r [.f 18 0 6,.l 19 18,.j 20 .neq 19 (.str [])]) (.cond (.t 20) (.r [.m 21 4,.f 22 0 6,.l 23 22,.c 24 92 [23],⟨some 25,none,[],.call 93 [.c (.str [58])]⟩,⟨some 26,none,[24,25],.bslice (.agg [.int .i64 0,.str [],.int .i64 0]) 2 [(0,.t 24),(1,.t 25)]⟩,⟨some 27,none,[21,26],.callv (.t 21) [.t 26]⟩]) CC.skip)) (.seq (.r [.m 28 4,.f 29 1 6,.l 30 29,.c 31 92 [30],⟨some 32,none,[31],.bslice (.agg [.int .i64 0,.str [],.int .i64 0]) 1 [(0,.t 31)]⟩,⟨some 33,none,[28,32],.callv (.t 28) [.t 32]⟩]) (.seq (.seq (.r [.f 34 2 6,.l 35 34,.n 36 35,.k 37 .gtr 36 0]) (.cond (.t 37) (.seq (.r [.m 38 4,⟨some 39,none,[],.call 93 [.c (.str [40])]⟩,⟨some 40,none,[39],.bslice (.agg [.int .i64 0,.str [],.int .i64 0]) 1 [(0,.t 39)]⟩,⟨some 41,none,[38,40],.callv (.t 38) [.t 40]⟩]) (.seq (.seq (.r [.f 42 2 6,.l 43 42,.n 44 43,.i 45 0]) (.block 2 (.loop (.seq (.r [.b 46 .lss 45 44]) (.seq (.cond (.t 46) CC.skip (.exit 2)) (.seq (.block 3 (.seq (.r [.ia 47 4 .zA 43 45,.L 48 4 47,.al 8 .zA,.st 4 8 48]) (.seq (.r [.m 49 4,.f 50 0 8,.l 51 50,.c 52 92 [51],⟨some 53,none,[],.call 93 [.c (.str [58])]⟩,⟨some 54,none,[52,53],.bslice (.agg [.int .i64 0,.str [],.int .i64 0]) 2 [(0,.t 52),(1,.t 53)]⟩,⟨some 55,none,[49,54],.callv (.t 49) [.t 54]⟩]) (.seq (.r [.f 56 1 8,.l 57 56]) (.cond (.t 57) (.r [.m 58 4,.f 59 2 8,.l 60 59,⟨some 61,none,[60],.build [.int .i64 0,.str [],.int .i64 0] [(0,1,.c (.int .i64 3)),(1,1,.t 60)]⟩,⟨some 62,none,[61],.bslice (.agg [.int .i64 0,.str [],.int .i64 0]) 1 [(0,.t 61)]⟩,⟨some 63,none,[58,62],.callv (.t 58) [.t 62]⟩]) (.r [.m 64 4,.f 65 3 8,.l 66 65,⟨some 67,none,[66],.build [.int .i64 0,.str [],.int .i64 0] [(0,1,.c (.int .i64 2)),(2,1,.t 66)]⟩,⟨some 68,none,[67],.bslice (.agg [.int .i64 0,.str [],.int .i64 0]) 1 [(0,.t 67)]⟩,⟨some 69,none,[64,68],.callv (.t 64) [.t 68]⟩])))))) (.r [.k 70 .add 45 1,.m 45 70]))))))) (.r [.m 71 4,⟨some 72,none,[],.call 93 [.c (.str [41])]⟩,⟨some 73,none,[72],.bslice (.agg [.int .i64 0,.str [],.int .i64 0]) 1 [(0,.t 72)]⟩,⟨some 74,none,[71,73],.callv (.t 71) [.t 73]⟩]))) CC.skip)) (.seq (.r [.f 75 3 6,.l 76 75,.n 77 76,.k 78 .gtr 77 0]) (.cond (.t 78) (.r [.m 79 4,.f 80 3 6,.l 81 80,.c 82 68 [81],⟨some 83,none,[79,82],.callv (.t 79) [.t 82]⟩]) CC.skip))))))) (.r [.k 84 .add 14 1,.m 14 84]))))))) (.seq (.r [.m 85 4,⟨some 86,none,[],.call 93 [.c (.str [125])]⟩,⟨some 87,none,[86],.bslice (.agg [.int .i64 0,.str [],.int .i64 0]) 1 [(0,.t 86)]⟩,⟨some 88,none,[85,87],.callv (.t 85) [.t 87]⟩]) (.seq (.r [.l 89 3,.m 2 89]) CC.ret)))))
def cr68:List CRes:=[.tmp 2]
theorem hcr68:compRes Tryz.prog Tryz.f68.results.toList=some cr68:=by kernel_rfl
theorem hcc68:Tryz.f68.body.map (compC Tryz.prog Tryz.f68.ntmps)=some cc68:=by kernel_rfl
def cc73:CC:=.block 0 (.loop (.block 1 (.seq (.r [.m 2 0,⟨some 3,none,[2],.call 102 [.t 2,.f 103]⟩]) (.seq (.seq (.d [.m 4 0,.ck 5 4,.f 6 1 5,.l 7 6,.m 8 0,.ck 9 8,.f 10 0 9,.l 11 10,.ns 12 11,.b 13 .eql 7 12,.m 14 13,.gf 14 (.m 15 0),.gf 14 (.ck 16 15),.gf 14 (.f 17 0 16),.gf 14 (.l 18 17),.gf 14 (.m 19 0),.gf 14 (.ck 20 19),.gf 14 (.f 21 1 20),.gf 14 (.l 22 21),.gf 14 ⟨some 23,none,[18,22],.ix (.t 18) (.t 22)⟩,.gf 14 (.j 24 .neq 23 (.int .u8 35)),.po 25 14 24] []) (.cond (.t 25) CC.ret CC.skip)) (.r [.m 26 0,⟨some 27,none,[26],.call 102 [.t 26,.f 104]⟩])))))
def cr73:List CRes:=[]
theorem hcr73:compRes Tryz.prog Tryz.f73.results.toList=some cr73:=by kernel_rfl
theorem hcc73:Tryz.f73.body.map (compC Tryz.prog Tryz.f73.ntmps)=some cc73:=by kernel_rfl
def cc74:CC:=.seq (.r [.al 2 (.agg [.int .i64 0,.str [],.int .i64 0])]) (.seq (.d [.m 6 0,.ck 7 6,.f 8 0 7,.l 9 8,.m 10 0,.ck 11 10,.f 12 1 11,.l 13 12,⟨some 14,none,[9,13],.ix (.t 9) (.t 13)⟩,.m 3 14] []) (.seq (.block 0 (.seq (.r [.m 16 3,.c 17 105 [16],.m 15 17]) (.cond (.t 15) (.seq (.r [.m 18 0,⟨some 19,none,[18],.call 102 [.t 18,.f 106]⟩,.m 4 19]) (.seq (.seq (.r [.m 20 4,.c 21 78 [20],.m 5 21]) (.seq (.r [.m 22 5,.k 23 .neq 22 0]) (.cond (.t 23) (.r [.m 24 5,.c 25 75 [24]]) CC.skip))) (.seq (.r [.m 26 4,⟨some 27,none,[26],.build [.int .i64 0,.str [],.int .i64 0] [(0,1,.c (.int .i64 1)),(1,1,.t 26)]⟩,.st 3 2 27]) CC.ret))) (.seq (.r [.m 29 3,.c 30 107 [29],.m 31 30,.gf 31 (.m 32 3),.gf 31 (.j 33 .eql 32 (.int .u8 45)),.po 34 31 33,.m 28 34]) (.cond (.t 28) (.seq (.r [.m 35 0,.c 36 108 [35],.st 3 2 36]) CC.ret) (.seq (.r [.m 38 3,.j 39 .eql 38 (.int .u8 34),.m 37 39]) (.cond (.t 37) (.seq (.r [.m 40 0,.c 41 109 [40],.st 3 2 41]) CC.ret) (.seq (.r [.m 43 3,⟨some 44,none,[43],.call 110 [.c (.str [123,125,40,41,58,91,93]),.t 43]⟩,.k 45 .geq 44 0,.m 42 45]) (.cond (.t 42) (.seq (.r [.m 46 0,.ck 47 46,.f 48 1 47,.l 49 48,.k 50 .add 49 1,.ck 51 46,.f 52 1 51,.st 1 52 50]) (.seq (.r [.m 53 3,⟨some 54,none,[53],.bslice (.int .u8 0) 1 [(0,.t 53)]⟩,⟨some 55,none,[54],.conv .str (.t 54)⟩,⟨some 56,none,[55],.build [.int .i64 0,.str [],.int .i64 0] [(0,1,.c (.int .i64 4)),(1,1,.t 55)]⟩,.st 3 2 56]) CC.ret)) CC.skip))))))))) (.seq (.r [⟨some 57,none,[],.call 75 [.c (.int .i64 1)]⟩]) (.seq (.r [⟨some 58,none,[],.build [.int .i64 0,.str [],.int .i64 0] []⟩,.st 3 2 58]) CC.ret))))
def cr74:List CRes:=[.cell 2 true 3]
theorem hcr74:compRes Tryz.prog Tryz.f74.results.toList=some cr74:=by kernel_rfl
theorem hcc74:Tryz.f74.body.map (compC Tryz.prog Tryz.f74.ntmps)=some cc74:=by kernel_rfl
def cc75:CC:=.r [.m 2 0,⟨some 3,none,[2],.conv (.mki 23) (.t 2)⟩,⟨none,none,[3],.pnk (.t 3)⟩]
def cr75:List CRes:=[]
theorem hcr75:compRes Tryz.prog Tryz.f75.results.toList=some cr75:=by kernel_rfl
theorem hcc75:Tryz.f75.body.map (compC Tryz.prog Tryz.f75.ntmps)=some cc75:=by kernel_rfl
def cc76:CC:=.seq (.r [.bx 1 0,.v 2 (.str [])]) (.seq (.seq (.r [.f 3 0 1,.l 4 3]) (.block 0 (.seq (.r [.k 6 .eql 4 2,.m 5 6]) (.cond (.t 5) (.seq (.r [.f 7 2 1,.l 8 7,.c 9 111 [8],.m 2 9]) CC.ret) (.seq (.r [.k 11 .eql 4 3,.m 10 11]) (.cond (.t 10) (.seq (.d [⟨some 12,none,[],.bslice (.str []) 6 [(0,.c (.str [34])),(1,.c (.str [92,34])),(2,.c (.str [92])),(3,.c (.str [92,92])),(4,.c (.str [10])),(5,.c (.str [92,110]))]⟩,.c 13 112 [12],.f 14 1 1,.l 15 14,.c 16 113 [13,15],⟨some 17,none,[16],.bin .add none (.c (.str [34])) (.t 16)⟩,.j 18 .add 17 (.str [34]),.m 2 18] [(0,2),(1,2),(0,3),(1,3)]) CC.ret) CC.skip)))))) (.seq (.r [.f 19 1 1,.l 20 19,.m 2 20]) CC.ret))
def cr76:List CRes:=[.tmp 2]
theorem hcr76:compRes Tryz.prog Tryz.f76.results.toList=some cr76:=by kernel_rfl
theorem hcc76:Tryz.f76.body.map (compC Tryz.prog Tryz.f76.ntmps)=some cc76:=by kernel_rfl
def cc78:CC:=.seq (.r [.i 2 0]) (.seq (.seq (.r [.m 4 0,.ns 5 4,.k 6 .gtr 5 12]) (.cond (.t 6) (.seq (.r [.i 2 2]) CC.ret) CC.skip)) (.seq (.seq (.r [.m 7 0,.ns 8 7,.i 9 0]) (.block 0 (.loop (.seq (.r [.b 10 .lss 9 8]) (.seq (.cond (.t 10) CC.skip (.exit 0)) (.seq (.block 1 (.seq (.r [.m 11 9,.m 3 11]) (.seq (.r [.m 12 0,.m 13 3,⟨some 14,none,[12,13],.ix (.t 12) (.t 13)⟩,.c 15 105 [14],.no 16 15,.m 17 16,.gt 17 (.m 18 3),.gt 17 (.k 19 .eql 18 0),.gt 17 (.m 20 19),.gf 20 (.m 21 0),.gf 20 (.m 22 3),.gf 20 ⟨some 23,none,[21,22],.ix (.t 21) (.t 22)⟩,.gf 20 (.c 24 107 [23]),.gf 20 (.no 25 24),.gt 17 (.po 26 20 25),.pa 27 17 26]) (.cond (.t 27) (.seq (.r [.i 2 1]) CC.ret) CC.skip)))) (.r [.k 28 .add 9 1,.m 9 28]))))))) (.seq (.seq (.r [.m 29 0,.j 30 .eql 29 (.str [])]) (.cond (.t 30) (.seq (.r [.i 2 1]) CC.ret) CC.skip)) (.seq (.r [.i 2 0]) CC.ret))))
def cr78:List CRes:=[.tmp 2]
theorem hcr78:compRes Tryz.prog Tryz.f78.results.toList=some cr78:=by kernel_rfl
theorem hcc78:Tryz.f78.body.map (compC Tryz.prog Tryz.f78.ntmps)=some cc78:=by kernel_rfl
def cc79:CC:=.seq (.r [.v 2 (.bool false)]) (.seq (.r [.m 3 0,.k 4 .geq 3 (-999999999),.m 5 4,.gt 5 (.m 6 0),.gt 5 (.k 7 .leq 6 999999999),.pa 8 5 7,.m 2 8]) CC.ret)
def cr79:List CRes:=[.tmp 2]
theorem hcr79:compRes Tryz.prog Tryz.f79.results.toList=some cr79:=by kernel_rfl
theorem hcc79:Tryz.f79.body.map (compC Tryz.prog Tryz.f79.ntmps)=some cc79:=by kernel_rfl
def cc84:CC:=.seq (.r [.m 2 0,.ck 3 2,.f 4 0 3,.l 5 4,.n 6 5,.k 7 .gtr 6 0]) (.cond (.t 7) (.r [⟨some 8,none,[],.call 86 [.c (.int .i64 1)]⟩]) CC.skip)
def cr84:List CRes:=[]
theorem hcr84:compRes Tryz.prog Tryz.f84.results.toList=some cr84:=by kernel_rfl
theorem hcc84:Tryz.f84.body.map (compC Tryz.prog Tryz.f84.ntmps)=some cc84:=by kernel_rfl
def cc86:CC:=.r [.m 2 0,⟨some 3,none,[2],.conv (.mki 23) (.t 2)⟩,⟨none,none,[3],.pnk (.t 3)⟩]
def cr86:List CRes:=[]
theorem hcr86:compRes Tryz.prog Tryz.f86.results.toList=some cr86:=by kernel_rfl
theorem hcc86:Tryz.f86.body.map (compC Tryz.prog Tryz.f86.ntmps)=some cc86:=by kernel_rfl
def cc87:CC:=.seq (.seq (.r [.m 4 0,.m 5 1,.c 6 122 [4,5],.no 7 6]) (.cond (.t 7) (.r [⟨some 8,none,[],.call 86 [.c (.int .i64 1)]⟩]) CC.skip)) (.r [.m 9 0,.m 10 0,.ck 11 10,.f 12 0 11,.l 13 12,⟨some 14,none,[13],.sli 3 (.t 13) (some (.c (.int .i64 1))) none⟩,.ck 15 9,.f 16 0 15,.st 1 16 14])
def cr87:List CRes:=[]
theorem hcr87:compRes Tryz.prog Tryz.f87.results.toList=some cr87:=by kernel_rfl
theorem hcc87:Tryz.f87.body.map (compC Tryz.prog Tryz.f87.ntmps)=some cc87:=by kernel_rfl
def cc88:CC:=.block 0 (.loop (.block 1 (.seq (.r [.m 6 2,⟨some 7,none,[6],.callv (.t 6) []⟩]) (.seq (.r [.m 8 0,.m 9 1,.c 10 123 [8,9]]) (.cond (.t 10) CC.ret CC.skip)))))
def cr88:List CRes:=[]
theorem hcr88:compRes Tryz.prog Tryz.f88.results.toList=some cr88:=by kernel_rfl
theorem hcc88:Tryz.f88.body.map (compC Tryz.prog Tryz.f88.ntmps)=some cc88:=by kernel_rfl
def cc91:CC:=.r [.l 3 1,.m 4 0,⟨some 5,none,[3,4],.app false (.agg [.int .i64 0,.str [],.int .i64 0]) 32 (.t 3) (.t 4)⟩,.st 1 1 5]
def cr91:List CRes:=[]
theorem hcr91:compRes Tryz.prog Tryz.f91.results.toList=some cr91:=by kernel_rfl
theorem hcc91:Tryz.f91.body.map (compC Tryz.prog Tryz.f91.ntmps)=some cc91:=by kernel_rfl
def cc92:CC:=.seq (.r [.al 2 (.agg [.int .i64 0,.str [],.int .i64 0])]) (.seq (.r [.m 3 0,⟨some 4,none,[3],.build [.int .i64 0,.str [],.int .i64 0] [(0,1,.c (.int .i64 1)),(1,1,.t 3)]⟩,.st 3 2 4]) CC.ret)
def cr92:List CRes:=[.cell 2 true 3]
theorem hcr92:compRes Tryz.prog Tryz.f92.results.toList=some cr92:=by kernel_rfl
theorem hcc92:Tryz.f92.body.map (compC Tryz.prog Tryz.f92.ntmps)=some cc92:=by kernel_rfl
def cc93:CC:=.seq (.r [.al 2 (.agg [.int .i64 0,.str [],.int .i64 0])]) (.seq (.r [.m 3 0,⟨some 4,none,[3],.build [.int .i64 0,.str [],.int .i64 0] [(0,1,.c (.int .i64 4)),(1,1,.t 3)]⟩,.st 3 2 4]) CC.ret)
def cr93:List CRes:=[.cell 2 true 3]
theorem hcr93:compRes Tryz.prog Tryz.f93.results.toList=some cr93:=by kernel_rfl
theorem hcc93:Tryz.f93.body.map (compC Tryz.prog Tryz.f93.ntmps)=some cc93:=by kernel_rfl
def cc94:CC:=.seq (.r [.i 2 0]) (.seq (.seq (.r [.m 6 0,.n 7 6,.k 8 .gtr 7 5]) (.cond (.t 8) (.seq (.r [.i 2 2]) CC.ret) CC.skip)) (.seq (.seq (.r [.m 9 0,.n 10 9,.i 11 0]) (.block 0 (.loop (.seq (.r [.b 12 .lss 11 10]) (.seq (.cond (.t 12) CC.skip (.exit 0)) (.seq (.block 1 (.seq (.r [.m 13 11,.ia 14 4 .zA 9 11,.L 15 4 14,.al 4 .zA,.m 3 13,.st 4 4 15]) (.seq (.r [.f 16 0 4,.l 17 16,.c 18 78 [17],.m 5 18]) (.seq (.seq (.r [.m 19 5,.k 20 .eql 19 0,.m 21 20,.gt 21 (.m 22 0),.gt 21 (.m 23 3),.gt 21 ⟨some 24,none,[22,23],.sli 4 (.t 22) none (some (.t 23))⟩,.gt 21 ⟨some 25,none,[4],.mkf 125 [.t 4]⟩,.gt 21 (.c 26 124 [24,25]),.pa 27 21 26]) (.cond (.t 27) (.r [.i 5 6]) CC.skip)) (.seq (.seq (.r [.m 28 5,.k 29 .eql 28 0]) (.cond (.t 29) (.r [.L 30 4 4,.c 31 126 [30],.m 5 31]) CC.skip)) (.seq (.r [.m 32 5,.k 33 .neq 32 0]) (.cond (.t 33) (.seq (.r [.m 34 5,.m 2 34]) CC.ret) CC.skip))))))) (.r [.k 35 .add 11 1,.m 11 35]))))))) (.seq (.r [.i 2 0]) CC.ret)))
def cr94:List CRes:=[.tmp 2]
theorem hcr94:compRes Tryz.prog Tryz.f94.results.toList=some cr94:=by kernel_rfl
theorem hcc94:Tryz.f94.body.map (compC Tryz.prog Tryz.f94.ntmps)=some cc94:=by kernel_rfl
def cc95:CC:=.seq (.r [.v 4 (.bool false)]) (.seq (.r [.m 5 0,.m 6 1,.c 7 127 [5,6],.k 8 .geq 7 0,.m 4 8]) CC.ret)
def cr95:List CRes:=[.tmp 4]
theorem hcr95:compRes Tryz.prog Tryz.f95.results.toList=some cr95:=by kernel_rfl
theorem hcc95:Tryz.f95.body.map (compC Tryz.prog Tryz.f95.ntmps)=some cc95:=by kernel_rfl
def cc96:CC:=.seq (.r [.bx 2 0,.v 3 (.bool false)]) (.seq (.d [.L 4 4 2,.c 5 97 [4],.L 6 4 1,.c 7 97 [6],.b 8 .eql 5 7,.m 3 8] [(1,2)]) CC.ret)
def cr96:List CRes:=[.tmp 3]
theorem hcr96:compRes Tryz.prog Tryz.f96.results.toList=some cr96:=by kernel_rfl
theorem hcc96:Tryz.f96.body.map (compC Tryz.prog Tryz.f96.ntmps)=some cc96:=by kernel_rfl
def cc97:CC:=.seq (.r [.bx 1 0,.v 2 (.str [])]) (.seq (.seq (.r [.f 3 0 1,.l 4 3,.j 5 .neq 4 (.str [])]) (.cond (.t 5) (.seq (.r [.f 6 0 1,.l 7 6,.m 2 7]) CC.ret) CC.skip)) (.seq (.r [.f 8 1 1,.l 9 8,.m 2 9]) CC.ret))
def cr97:List CRes:=[.tmp 2]
theorem hcr97:compRes Tryz.prog Tryz.f97.results.toList=some cr97:=by kernel_rfl
theorem hcc97:Tryz.f97.body.map (compC Tryz.prog Tryz.f97.ntmps)=some cc97:=by kernel_rfl
def cc98:CC:=.d [.l 2 0,.l 3 1,.c 4 99 [3],.n 5 2,⟨some 6,none,[],.bslice .zQ 1 [(0,.c .zQ)]⟩,⟨some 7,none,[2,6],.app false .zQ 80 (.t 2) (.t 6)⟩,.ia 8 4 .zQ 7 5,.st 4 8 4,.st 1 0 7] (pr [(2,[0]),(3,[2]),(4,[0,1,2,3]),(8,[6,7])])
def cr98:List CRes:=[]
theorem hcr98:compRes Tryz.prog Tryz.f98.results.toList=some cr98:=by kernel_rfl
theorem hcc98:Tryz.f98.body.map (compC Tryz.prog Tryz.f98.ntmps)=some cc98:=by kernel_rfl
def cc99:CC:=.seq (.r [.bx 1 0,.al 2 .zQ]) (.seq (.r [.l 4 1,.c 5 85 [4],⟨some 6,none,[5],.build [.str [],.str [],.nils,.nils] [(1,1,.t 5)]⟩,.al 3 .zQ,.st 4 3 6]) (.seq (.seq (.r [.l 7 1,⟨some 8,none,[7],.call 123 [.t 7,.c (.str [58])]⟩]) (.cond (.t 8) (.seq (.r [.f 9 1 3,.l 10 9,.f 11 0 3,.st 1 11 10]) (.r [.l 12 1,.c 13 85 [12],.f 14 1 3,.st 1 14 13])) CC.skip)) (.seq (.seq (.r [.l 15 1,⟨some 16,none,[15],.call 123 [.t 15,.c (.str [40])]⟩]) (.cond (.t 16) (.r [.l 17 1,⟨some 18,none,[3,1],.mkf 128 [.t 3,.t 1]⟩,⟨some 19,none,[17,18],.call 88 [.t 17,.c (.str [41]),.t 18]⟩]) CC.skip)) (.seq (.seq (.r [.l 20 1,⟨some 21,none,[20],.call 122 [.t 20,.c (.str [123])]⟩]) (.cond (.t 21) (.r [.l 22 1,.c 23 67 [22],.f 24 3 3,.st 1 24 23]) CC.skip)) (.seq (.r [.L 25 4 3,.st 4 2 25]) CC.ret)))))
def cr99:List CRes:=[.cell 2 true 4]
theorem hcr99:compRes Tryz.prog Tryz.f99.results.toList=some cr99:=by kernel_rfl
theorem hcc99:Tryz.f99.body.map (compC Tryz.prog Tryz.f99.ntmps)=some cc99:=by kernel_rfl
def cc100:CC:=.r [.l 3 1,.m 4 0,⟨some 5,none,[3,4],.app false (.agg [.int .i64 0,.str [],.int .i64 0]) 32 (.t 3) (.t 4)⟩,.st 1 1 5]
def cr100:List CRes:=[]
theorem hcr100:compRes Tryz.prog Tryz.f100.results.toList=some cr100:=by kernel_rfl
theorem hcc100:Tryz.f100.body.map (compC Tryz.prog Tryz.f100.ntmps)=some cc100:=by kernel_rfl
def cc102:CC:=.seq (.r [.v 4 (.str [])]) (.seq (.r [.m 6 0,.ck 7 6,.f 8 1 7,.l 9 8,.m 5 9]) (.seq (.block 0 (.loop (.seq (.seq (.d [.m 10 0,.ck 11 10,.f 12 1 11,.l 13 12,.m 14 0,.ck 15 14,.f 16 0 15,.l 17 16,.ns 18 17,.b 19 .lss 13 18,.m 20 19,.gt 20 (.m 21 1),.gt 20 (.m 22 0),.gt 20 (.ck 23 22),.gt 20 (.f 24 0 23),.gt 20 (.l 25 24),.gt 20 (.m 26 0),.gt 20 (.ck 27 26),.gt 20 (.f 28 1 27),.gt 20 (.l 29 28),.gt 20 ⟨some 30,none,[25,29],.ix (.t 25) (.t 29)⟩,.gt 20 ⟨some 31,none,[21,30],.callv (.t 21) [.t 30]⟩,.pa 32 20 31] []) (.cond (.t 32) CC.skip (.exit 0))) (.block 1 (.r [.m 33 0,.ck 34 33,.f 35 1 34,.l 36 35,.k 37 .add 36 1,.ck 38 33,.f 39 1 38,.st 1 39 37]))))) (.seq (.d [.m 40 0,.ck 41 40,.f 42 0 41,.l 43 42,.m 44 5,.m 45 0,.ck 46 45,.f 47 1 46,.l 48 47,⟨some 49,none,[43,44,48],.slis (.t 43) (some (.t 44)) (some (.t 48))⟩,.m 4 49] []) CC.ret)))
def cr102:List CRes:=[.tmp 4]
theorem hcr102:compRes Tryz.prog Tryz.f102.results.toList=some cr102:=by kernel_rfl
theorem hcc102:Tryz.f102.body.map (compC Tryz.prog Tryz.f102.ntmps)=some cc102:=by kernel_rfl
def cc103:CC:=.seq (.r [.v 2 (.bool false)]) (.seq (.r [.m 3 0,.j 4 .eql 3 (.int .u8 9),.m 5 4,.gf 5 (.m 6 0),.gf 5 (.j 7 .eql 6 (.int .u8 10)),.po 8 5 7,.m 9 8,.gf 9 (.m 10 0),.gf 9 (.j 11 .eql 10 (.int .u8 13)),.po 12 9 11,.m 13 12,.gf 13 (.m 14 0),.gf 13 (.j 15 .eql 14 (.int .u8 32)),.po 16 13 15,.m 17 16,.gf 17 (.m 18 0),.gf 17 (.j 19 .eql 18 (.int .u8 44)),.po 20 17 19,.m 2 20]) CC.ret)
def cr103:List CRes:=[.tmp 2]
theorem hcr103:compRes Tryz.prog Tryz.f103.results.toList=some cr103:=by kernel_rfl
theorem hcc103:Tryz.f103.body.map (compC Tryz.prog Tryz.f103.ntmps)=some cc103:=by kernel_rfl
def cc104:CC:=.seq (.r [.v 2 (.bool false)]) (.seq (.r [.m 3 0,.j 4 .neq 3 (.int .u8 10),.m 2 4]) CC.ret)
def cr104:List CRes:=[.tmp 2]
theorem hcr104:compRes Tryz.prog Tryz.f104.results.toList=some cr104:=by kernel_rfl
theorem hcc104:Tryz.f104.body.map (compC Tryz.prog Tryz.f104.ntmps)=some cc104:=by kernel_rfl
def cc105:CC:=.seq (.r [.v 2 (.bool false)]) (.seq (.r [.m 3 0,.j 4 .geq 3 (.int .u8 97),.m 5 4,.gt 5 (.m 6 0),.gt 5 (.j 7 .leq 6 (.int .u8 122)),.pa 8 5 7,.m 9 8,.gf 9 (.m 10 0),.gf 9 (.j 11 .geq 10 (.int .u8 65)),.gf 9 (.m 12 11),.gt 12 (.m 13 0),.gt 12 (.j 14 .leq 13 (.int .u8 90)),.gf 9 (.pa 15 12 14),.po 16 9 15,.m 17 16,.gf 17 (.m 18 0),.gf 17 (.j 19 .eql 18 (.int .u8 95)),.po 20 17 19,.m 2 20]) CC.ret)
def cr105:List CRes:=[.tmp 2]
theorem hcr105:compRes Tryz.prog Tryz.f105.results.toList=some cr105:=by kernel_rfl
theorem hcc105:Tryz.f105.body.map (compC Tryz.prog Tryz.f105.ntmps)=some cc105:=by kernel_rfl
def cc106:CC:=.seq (.r [.v 2 (.bool false)]) (.seq (.r [.m 3 0,.c 4 105 [3],.m 5 4,.gf 5 (.m 6 0),.gf 5 (.c 7 107 [6]),.po 8 5 7,.m 2 8]) CC.ret)
def cr106:List CRes:=[.tmp 2]
theorem hcr106:compRes Tryz.prog Tryz.f106.results.toList=some cr106:=by kernel_rfl
theorem hcc106:Tryz.f106.body.map (compC Tryz.prog Tryz.f106.ntmps)=some cc106:=by kernel_rfl
def cc107:CC:=.seq (.r [.v 2 (.bool false)]) (.seq (.r [.m 3 0,.j 4 .geq 3 (.int .u8 48),.m 5 4,.gt 5 (.m 6 0),.gt 5 (.j 7 .leq 6 (.int .u8 57)),.pa 8 5 7,.m 2 8]) CC.ret)
def cr107:List CRes:=[.tmp 2]
theorem hcr107:compRes Tryz.prog Tryz.f107.results.toList=some cr107:=by kernel_rfl
theorem hcc107:Tryz.f107.body.map (compC Tryz.prog Tryz.f107.ntmps)=some cc107:=by kernel_rfl
def cc108:CC:=.seq (.r [.al 2 (.agg [.int .i64 0,.str [],.int .i64 0])]) (.seq (.r [.v 3 (.str [])]) (.seq (.seq (.d [.m 6 0,.ck 7 6,.f 8 0 7,.l 9 8,.m 10 0,.ck 11 10,.f 12 1 11,.l 13 12,⟨some 14,none,[9,13],.ix (.t 9) (.t 13)⟩,.j 15 .eql 14 (.int .u8 45)] []) (.cond (.t 15) (.seq (.r [.m 16 0,.ck 17 16,.f 18 1 17,.l 19 18,.k 20 .add 19 1,.ck 21 16,.f 22 1 21,.st 1 22 20]) (.r [.v 3 (.str [45])])) CC.skip)) (.seq (.r [.m 23 3,.m 24 0,⟨some 25,none,[24],.call 102 [.t 24,.f 107]⟩,.b 26 .add 23 25,.m 3 26]) (.seq (.r [.m 28 3,.c 29 130 [28],.m 27 29,.e 30 27 0,.e 31 27 1,.m 4 30,.m 5 31]) (.seq (.seq (.r [.m 32 5,⟨some 33,none,[32],.bin .neq (some [7]) (.t 32) (.c .nili)⟩,.m 34 33,.gf 34 (.m 35 4),.gf 34 (.c 36 111 [35]),.gf 34 (.m 37 3),.gf 34 (.b 38 .neq 36 37),.po 39 34 38,.m 40 39,.gf 40 (.m 41 4),.gf 40 (.c 42 79 [41]),.gf 40 (.no 43 42),.po 44 40 43]) (.cond (.t 44) (.r [⟨some 45,none,[],.call 75 [.c (.int .i64 1)]⟩]) CC.skip)) (.seq (.r [.m 46 4,⟨some 47,none,[46],.build [.int .i64 0,.str [],.int .i64 0] [(0,1,.c (.int .i64 2)),(2,1,.t 46)]⟩,.st 3 2 47]) CC.ret))))))
def cr108:List CRes:=[.cell 2 true 3]
theorem hcr108:compRes Tryz.prog Tryz.f108.results.toList=some cr108:=by kernel_rfl
theorem hcc108:Tryz.f108.body.map (compC Tryz.prog Tryz.f108.ntmps)=some cc108:=by kernel_rfl
def cc109:CC:=.seq (.r [.al 2 (.agg [.int .i64 0,.str [],.int .i64 0])]) (.seq (.r [.v 3 .nils]) (.seq (.seq (.r [.m 6 0,.ck 7 6,.f 8 1 7,.l 9 8,.k 10 .add 9 1,.ck 11 6,.f 12 1 11,.st 1 12 10]) (.block 0 (.loop (.seq (.block 1 (.seq (.seq (.d [.m 20 0,.ck 21 20,.f 22 1 21,.l 23 22,.m 24 0,.ck 25 24,.f 26 0 25,.l 27 26,.ns 28 27,.b 29 .eql 23 28,.m 30 29,.gf 30 (.m 31 0),.gf 30 (.ck 32 31),.gf 30 (.f 33 0 32),.gf 30 (.l 34 33),.gf 30 (.m 35 0),.gf 30 (.ck 36 35),.gf 30 (.f 37 1 36),.gf 30 (.l 38 37),.gf 30 ⟨some 39,none,[34,38],.ix (.t 34) (.t 38)⟩,.gf 30 (.j 40 .eql 39 (.int .u8 10)),.po 41 30 40] []) (.cond (.t 41) (.r [⟨some 42,none,[],.call 75 [.c (.int .i64 1)]⟩]) CC.skip)) (.seq (.d [.m 43 0,.ck 44 43,.f 45 0 44,.l 46 45,.m 47 0,.ck 48 47,.f 49 1 48,.l 50 49,⟨some 51,none,[46,50],.ix (.t 46) (.t 50)⟩,.m 4 51] []) (.seq (.seq (.r [.m 52 4,.j 53 .eql 52 (.int .u8 34)]) (.cond (.t 53) (.exit 0) CC.skip)) (.seq (.seq (.r [.m 54 4,.j 55 .eql 54 (.int .u8 92)]) (.cond (.t 55) (.seq (.r [.m 56 0,.ck 57 56,.f 58 1 57,.l 59 58,.k 60 .add 59 1,.ck 61 56,.f 62 1 61,.st 1 62 60]) (.seq (.r [.i 5 (-1)]) (.seq (.seq (.d [.m 63 0,.ck 64 63,.f 65 1 64,.l 66 65,.m 67 0,.ck 68 67,.f 69 0 68,.l 70 69,.ns 71 70,.b 72 .lss 66 71] []) (.cond (.t 72) (.d [.m 73 0,.ck 74 73,.f 75 0 74,.l 76 75,.m 77 0,.ck 78 77,.f 79 1 78,.l 80 79,⟨some 81,none,[76,80],.ix (.t 76) (.t 80)⟩,⟨some 82,none,[81],.call 110 [.c (.str [34,92,110]),.t 81]⟩,.m 5 82] []) CC.skip)) (.seq (.seq (.r [.m 83 5,.k 84 .lss 83 0]) (.cond (.t 84) (.r [⟨some 85,none,[],.call 75 [.c (.int .i64 1)]⟩]) CC.skip)) (.r [.m 86 5,⟨some 87,none,[86],.ix (.c (.str [34,92,10])) (.t 86)⟩,.m 4 87]))))) CC.skip)) (.r [.m 88 3,.m 89 4,⟨some 90,none,[89],.bslice (.int .u8 0) 1 [(0,.t 89)]⟩,⟨some 91,none,[88,90],.app false (.int .u8 0) 1 (.t 88) (.t 90)⟩,.m 3 91])))))) (.r [.m 13 0,.ck 14 13,.f 15 1 14,.l 16 15,.k 17 .add 16 1,.ck 18 13,.f 19 1 18,.st 1 19 17]))))) (.seq (.r [.m 92 0,.ck 93 92,.f 94 1 93,.l 95 94,.k 96 .add 95 1,.ck 97 92,.f 98 1 97,.st 1 98 96]) (.seq (.seq (.r [.m 99 3,.n 100 99,.k 101 .gtr 100 40]) (.cond (.t 101) (.r [⟨some 102,none,[],.call 75 [.c (.int .i64 2)]⟩]) CC.skip)) (.seq (.r [.m 103 3,⟨some 104,none,[103],.conv .str (.t 103)⟩,⟨some 105,none,[104],.build [.int .i64 0,.str [],.int .i64 0] [(0,1,.c (.int .i64 3)),(1,1,.t 104)]⟩,.st 3 2 105]) CC.ret)))))
def cr109:List CRes:=[.cell 2 true 3]
theorem hcr109:compRes Tryz.prog Tryz.f109.results.toList=some cr109:=by kernel_rfl
theorem hcc109:Tryz.f109.body.map (compC Tryz.prog Tryz.f109.ntmps)=some cc109:=by kernel_rfl
def cc121:CC:=.seq (.r [.al 4 (.agg [.int .i64 0,.str [],.int .i64 0])]) (.seq (.seq (.r [.m 6 0,.ck 7 6,.f 8 0 7,.l 9 8,.n 10 9,.k 11 .eql 10 0,.m 12 11,.gf 12 (.m 13 1),.gf 12 (.m 14 0),.gf 12 (.ck 15 14),.gf 12 (.f 16 0 15),.gf 12 (.l 17 16),.gf 12 ⟨some 18,none,[17],.ia 3 (.agg [.int .i64 0,.str [],.int .i64 0]) (.t 17) (.c (.int .i64 0))⟩,.gf 12 (.f 19 0 18),.gf 12 (.l 20 19),.gf 12 (.c 21 140 [13,20]),.gf 12 (.no 22 21),.po 23 12 22]) (.cond (.t 23) (.r [⟨some 24,none,[],.call 86 [.c (.int .i64 1)]⟩]) CC.skip)) (.seq (.r [.m 25 0,.ck 26 25,.f 27 0 26,.l 28 27,⟨some 29,none,[28],.ia 3 (.agg [.int .i64 0,.str [],.int .i64 0]) (.t 28) (.c (.int .i64 0))⟩,.L 30 3 29,.al 5 (.agg [.int .i64 0,.str [],.int .i64 0]),.st 3 5 30]) (.seq (.r [.m 31 0,.m 32 0,.ck 33 32,.f 34 0 33,.l 35 34,⟨some 36,none,[35],.sli 3 (.t 35) (some (.c (.int .i64 1))) none⟩,.ck 37 31,.f 38 0 37,.st 1 38 36]) (.seq (.r [.L 39 3 5,.st 3 4 39]) CC.ret))))
def cr121:List CRes:=[.cell 4 true 3]
theorem hcr121:compRes Tryz.prog Tryz.f121.results.toList=some cr121:=by kernel_rfl
theorem hcc121:Tryz.f121.body.map (compC Tryz.prog Tryz.f121.ntmps)=some cc121:=by kernel_rfl
def cc122:CC:=.seq (.r [.v 4 (.bool false)]) (.seq (.r [.m 5 0,.ck 6 5,.f 7 0 6,.l 8 7,.n 9 8,.k 10 .gtr 9 0,.m 11 10,.gt 11 (.m 12 0),.gt 11 (.ck 13 12),.gt 11 (.f 14 0 13),.gt 11 (.l 15 14),.gt 11 ⟨some 16,none,[15],.ia 3 (.agg [.int .i64 0,.str [],.int .i64 0]) (.t 15) (.c (.int .i64 0))⟩,.gt 11 (.f 17 0 16),.gt 11 (.l 18 17),.gt 11 (.k 19 .eql 18 4),.pa 20 11 19,.m 21 20,.gt 21 (.m 22 0),.gt 21 (.ck 23 22),.gt 21 (.f 24 0 23),.gt 21 (.l 25 24),.gt 21 ⟨some 26,none,[25],.ia 3 (.agg [.int .i64 0,.str [],.int .i64 0]) (.t 25) (.c (.int .i64 0))⟩,.gt 21 (.f 27 1 26),.gt 21 (.l 28 27),.gt 21 (.m 29 1),.gt 21 (.b 30 .eql 28 29),.pa 31 21 30,.m 4 31]) CC.ret)
def cr122:List CRes:=[.tmp 4]
theorem hcr122:compRes Tryz.prog Tryz.f122.results.toList=some cr122:=by kernel_rfl
theorem hcc122:Tryz.f122.body.map (compC Tryz.prog Tryz.f122.ntmps)=some cc122:=by kernel_rfl
def cc123:CC:=.seq (.r [.v 4 (.bool false)]) (.seq (.seq (.r [.m 5 0,.m 6 1,.c 7 122 [5,6],.no 8 7]) (.cond (.t 8) (.seq (.r [.v 4 (.bool false)]) CC.ret) CC.skip)) (.seq (.r [.m 9 0,.m 10 0,.ck 11 10,.f 12 0 11,.l 13 12,⟨some 14,none,[13],.sli 3 (.t 13) (some (.c (.int .i64 1))) none⟩,.ck 15 9,.f 16 0 15,.st 1 16 14]) (.seq (.r [.v 4 (.bool true)]) CC.ret)))
def cr123:List CRes:=[.tmp 4]
theorem hcr123:compRes Tryz.prog Tryz.f123.results.toList=some cr123:=by kernel_rfl
theorem hcc123:Tryz.f123.body.map (compC Tryz.prog Tryz.f123.ntmps)=some cc123:=by kernel_rfl
def cc124:CC:=.seq (.r [.v 4 (.bool false)]) (.seq (.r [.m 5 0,.m 6 1,.c 7 141 [5,6],.k 8 .geq 7 0,.m 4 8]) CC.ret)
def cr124:List CRes:=[.tmp 4]
theorem hcr124:compRes Tryz.prog Tryz.f124.results.toList=some cr124:=by kernel_rfl
theorem hcc124:Tryz.f124.body.map (compC Tryz.prog Tryz.f124.ntmps)=some cc124:=by kernel_rfl
def cc125:CC:=.seq (.r [.bx 2 0,.v 3 (.bool false)]) (.seq (.r [.f 4 0 2,.l 5 4,.f 6 0 1,.l 7 6,.b 8 .eql 5 7,.m 3 8]) CC.ret)
def cr125:List CRes:=[.tmp 3]
theorem hcr125:compRes Tryz.prog Tryz.f125.results.toList=some cr125:=by kernel_rfl
theorem hcc125:Tryz.f125.body.map (compC Tryz.prog Tryz.f125.ntmps)=some cc125:=by kernel_rfl
def cc126:CC:=.seq (.r [.bx 1 0,.i 2 0]) (.seq (.block 0 (.seq (.r [.f 4 1 1,.l 5 4,.m 6 5,.gt 6 (.f 7 3 1),.gt 6 (.l 8 7),.gt 6 (.k 9 .neq 8 0),.pa 10 6 9,.m 11 10,.gf 11 (.f 12 1 1),.gf 11 (.l 13 12),.gf 11 (.no 14 13),.gf 11 (.m 15 14),.gt 15 (.f 16 2 1),.gt 15 (.l 17 16),.gt 15 (.j 18 .neq 17 (.str [])),.gf 11 (.pa 19 15 18),.po 20 11 19,.m 3 20]) (.cond (.t 3) (.seq (.r [.i 2 1]) CC.ret) (.seq (.r [.f 22 2 1,.l 23 22,.ns 24 23,.k 25 .gtr 24 40,.m 21 25]) (.cond (.t 21) (.seq (.r [.i 2 2]) CC.ret) (.seq (.r [.f 27 3 1,.l 28 27,.c 29 79 [28],.no 30 29,.m 26 30]) (.cond (.t 26) (.seq (.r [.i 2 3]) CC.ret) CC.skip))))))) (.seq (.r [.i 2 0]) CC.ret))
def cr126:List CRes:=[.tmp 2]
theorem hcr126:compRes Tryz.prog Tryz.f126.results.toList=some cr126:=by kernel_rfl
theorem hcc126:Tryz.f126.body.map (compC Tryz.prog Tryz.f126.ntmps)=some cc126:=by kernel_rfl
def cc127:CC:=.seq (.r [.i 4 0]) (.seq (.seq (.r [.m 6 0,.n 7 6,.i 8 0]) (.block 0 (.loop (.seq (.r [.b 9 .lss 8 7]) (.seq (.cond (.t 9) CC.skip (.exit 0)) (.seq (.block 1 (.seq (.r [.m 10 8,.m 5 10]) (.seq (.r [.m 11 1,.m 12 0,.m 13 5,.ia 14 4 .zQ 12 13,.L 15 4 14,⟨some 16,none,[11,15],.callv (.t 11) [.t 15]⟩]) (.cond (.t 16) (.seq (.r [.m 17 5,.m 4 17]) CC.ret) CC.skip)))) (.r [.k 18 .add 8 1,.m 8 18]))))))) (.seq (.r [.i 4 (-1)]) CC.ret))
def cr127:List CRes:=[.tmp 4]
theorem hcr127:compRes Tryz.prog Tryz.f127.results.toList=some cr127:=by kernel_rfl
theorem hcc127:Tryz.f127.body.map (compC Tryz.prog Tryz.f127.ntmps)=some cc127:=by kernel_rfl
def cc128:CC:=.d [.f 2 2 0,.l 3 2,.l 4 1,.c 5 129 [4],⟨some 6,none,[5],.bslice .zA 1 [(0,.t 5)]⟩,⟨some 7,none,[3,6],.app false .zA 48 (.t 3) (.t 6)⟩,.f 8 2 0,.st 1 8 7] [(0,3),(1,3),(0,4),(1,4)]
def cr128:List CRes:=[]
theorem hcr128:compRes Tryz.prog Tryz.f128.results.toList=some cr128:=by kernel_rfl
theorem hcc128:Tryz.f128.body.map (compC Tryz.prog Tryz.f128.ntmps)=some cc128:=by kernel_rfl
def cc129:CC:=.seq (.r [.al 2 .zA]) (.seq (.r [.m 5 0,.c 6 85 [5],⟨some 7,none,[6],.build [.str [],.bool false,.str [],.int .i64 0] [(0,1,.t 6)]⟩,.al 3 .zA,.st 4 3 7]) (.seq (.r [.m 8 0,⟨some 9,none,[8],.call 87 [.t 8,.c (.str [58])]⟩]) (.seq (.r [.m 10 0,⟨some 11,none,[],.bslice (.int .i64 0) 2 [(0,.c (.int .i64 2)),(1,.c (.int .i64 3))]⟩,.c 12 121 [10,11],.al 4 (.agg [.int .i64 0,.str [],.int .i64 0]),.st 3 4 12]) (.seq (.d [.f 13 0 4,.l 14 13,.k 15 .eql 14 3,.f 16 1 4,.l 17 16,.f 18 2 4,.l 19 18,.f 20 1 3,.st 1 20 15,.f 21 2 3,.st 1 21 17,.f 22 3 3,.st 1 22 19] (pr [(8,[3,4,5,6]),(10,[5,6])])) (.seq (.r [.L 23 4 3,.st 4 2 23]) CC.ret)))))
def cr129:List CRes:=[.cell 2 true 4]
theorem hcr129:compRes Tryz.prog Tryz.f129.results.toList=some cr129:=by kernel_rfl
theorem hcc129:Tryz.f129.body.map (compC Tryz.prog Tryz.f129.ntmps)=some cc129:=by kernel_rfl
def cc140:CC:=.seq (.r [.v 4 (.bool false)]) (.seq (.r [.m 5 0,.m 6 1,.c 7 154 [5,6],.k 8 .geq 7 0,.m 4 8]) CC.ret)
def cr140:List CRes:=[.tmp 4]
theorem hcr140:compRes Tryz.prog Tryz.f140.results.toList=some cr140:=by kernel_rfl
theorem hcc140:Tryz.f140.body.map (compC Tryz.prog Tryz.f140.ntmps)=some cc140:=by kernel_rfl
def cc141:CC:=.seq (.r [.i 4 0]) (.seq (.seq (.r [.m 6 0,.n 7 6,.i 8 0]) (.block 0 (.loop (.seq (.r [.b 9 .lss 8 7]) (.seq (.cond (.t 9) CC.skip (.exit 0)) (.seq (.block 1 (.seq (.r [.m 10 8,.m 5 10]) (.seq (.r [.m 11 1,.m 12 0,.m 13 5,.ia 14 4 .zA 12 13,.L 15 4 14,⟨some 16,none,[11,15],.callv (.t 11) [.t 15]⟩]) (.cond (.t 16) (.seq (.r [.m 17 5,.m 4 17]) CC.ret) CC.skip)))) (.r [.k 18 .add 8 1,.m 8 18]))))))) (.seq (.r [.i 4 (-1)]) CC.ret))
def cr141:List CRes:=[.tmp 4]
theorem hcr141:compRes Tryz.prog Tryz.f141.results.toList=some cr141:=by kernel_rfl
theorem hcc141:Tryz.f141.body.map (compC Tryz.prog Tryz.f141.ntmps)=some cc141:=by kernel_rfl
def cc154:CC:=.seq (.r [.i 4 0]) (.seq (.seq (.r [.m 6 0,.n 7 6,.i 8 0]) (.block 0 (.loop (.seq (.r [.b 9 .lss 8 7]) (.seq (.cond (.t 9) CC.skip (.exit 0)) (.seq (.block 1 (.seq (.r [.m 10 8,.m 5 10]) (.seq (.r [.m 11 1,.m 12 0,.m 13 5,.ia 14 1 (.int .i64 0) 12 13,.l 15 14,.b 16 .eql 11 15]) (.cond (.t 16) (.seq (.r [.m 17 5,.m 4 17]) CC.ret) CC.skip)))) (.r [.k 18 .add 8 1,.m 8 18]))))))) (.seq (.r [.i 4 (-1)]) CC.ret))
def cr154:List CRes:=[.tmp 4]
theorem hcr154:compRes Tryz.prog Tryz.f154.results.toList=some cr154:=by kernel_rfl
theorem hcc154:Tryz.f154.body.map (compC Tryz.prog Tryz.f154.ntmps)=some cc154:=by kernel_rfl
end Go.Am
namespace Go.Am
set_option linter.all false
set_option linter.all false
end Go.Am
namespace Go.Am
set_option linter.all false
set_option linter.all false
end Go.Am
namespace Go.Am
set_option linter.all false
set_option linter.all false
open Go Go.RowKit Go.Proofs
set_option maxRecDepth 100000
def cc37a:CC:=(.r [.al 2 .nils,.al 3 (.int .i64 0)])
def cc37b:CC:=(.r [.m 6 0,⟨some 7,none,[6],.build [.str [],.int .i64 0] [(0,1,.t 6)]⟩,.bx 8 7,.m 4 8])
def cc37c:CC:=(.r [.m 9 4,.c 10 73 [9]])
def cc37h:CC:=(.r [.m 11 4,.ck 12 11,.f 13 1 12,.l 14 13,.m 15 0,.ns 16 15,.b 17 .lss 14 16])
def cc37k:CC:=(.d [.l 20 2,.m 21 4,.c 22 74 [21],⟨some 23,none,[22],.bslice (.agg [.int .i64 0,.str [],.int .i64 0]) 1 [(0,.t 22)]⟩,⟨some 24,none,[20,23],.app false (.agg [.int .i64 0,.str [],.int .i64 0]) 32 (.t 20) (.t 23)⟩,.st 1 2 24] [(0,2),(0,3)])
def cc37l:CC:=(.r [.l 25 2,.n 26 25,.k 27 .gtr 26 300])
def cc37m:CC:=(.r [⟨some 28,none,[],.call 75 [.c (.int .i64 2)]⟩])
def cc37n:CC:=(.r [.m 18 4,.c 19 73 [18]])
def cc37d:CC:=(.r [.l 29 2,.st 1 2 29,.si 1 3 0])
def cc37t:CC:=.block 1 (.seq cc37k (.seq cc37l (.cond (.t 27) cc37m CC.skip)))
def cc37L:CC:=.seq (.seq cc37h (.cond (.t 17) CC.skip (.exit 0))) (.seq cc37t cc37n)
def cc37:CC:=.seq cc37a (.seq CC.bad (.seq cc37b (.seq (.seq cc37c (.block 0 (.loop cc37L))) (.seq cc37d CC.ret))))
def cr37:List CRes:=[.cell 2 false 1,.cell 3 false 1]
theorem hcr37:compRes Tryz.prog Tryz.f37.results.toList=some cr37:=by kernel_rfl
theorem hcc37:Tryz.f37.body.map (compC Tryz.prog Tryz.f37.ntmps)=some cc37:=by kernel_rfl
def cc52a:CC:=(.r [.al 4 (.int .i64 0)])
def cc52b:CC:=(.r [.m 8 0,.c 9 13 [8],.m 7 9,.e 10 7 0,.e 11 7 1,.m 5 10,.st 1 4 11])
def cc52t:CC:=(.r [.l 12 4,.k 13 .neq 12 0])
def cc52c:CC:=(.r [.m 16 5,⟨some 17,none,[16],.build [.nils] [(0,1,.t 16)]⟩,.bx 18 17,.m 6 18])
def cc52d:CC:=(.r [.m 19 1,.m 20 6,⟨some 21,none,[19,20],.callv (.t 19) [.t 20]⟩])
def cc52e:CC:=(.r [.m 22 6,.c 23 84 [22]])
def cc52f:CC:=(.r [.si 1 4 0])
def cc52u:CC:=(.seq (.r [.l 14 4,.st 1 4 14]) CC.ret)
def cc52:CC:=.seq cc52a (.seq cc52b (.seq (.seq cc52t (.cond (.t 13) cc52u CC.skip)) (.seq CC.bad (.seq cc52c (.seq cc52d (.seq cc52e (.seq cc52f CC.ret)))))))
def cr52:List CRes:=[.cell 4 false 1]
theorem hcr52:compRes Tryz.prog Tryz.f52.results.toList=some cr52:=by kernel_rfl
theorem hcc52:Tryz.f52.body.map (compC Tryz.prog Tryz.f52.ntmps)=some cc52:=by kernel_rfl
def cc72c:CC:=(.seq (.r [.m 9 2,⟨some 10,none,[9],.conv (.ta 23) (.t 9)⟩,.m 8 10,.e 11 8 0,.e 12 8 1,.m 3 11,.m 4 12]) (.seq (.seq (.r [.m 13 4,.no 14 13]) (.cond (.t 14) (.r [.m 15 2,⟨none,none,[15],.pnk (.t 15)⟩]) CC.skip)) (.r [.m 16 3,⟨none,none,[0],.st 1 (.t 0) (.c .nils)⟩,.st 1 1 16])))
def cc72:CC:=.seq CC.bad (.seq (.r [.m 6 2,⟨some 7,none,[6],.bin .neq (some [7]) (.t 6) (.c .nili)⟩]) (.cond (.t 7) cc72c CC.skip))
theorem hcc72:Tryz.f72.body.map (compC Tryz.prog Tryz.f72.ntmps)=some cc72:=by kernel_rfl
def cc83c:CC:=(.seq (.r [.m 8 1,⟨some 9,none,[8],.conv (.ta 23) (.t 8)⟩,.m 7 9,.e 10 7 0,.e 11 7 1,.m 2 10,.m 3 11]) (.seq (.seq (.r [.m 12 3,.no 13 12]) (.cond (.t 13) (.r [.m 14 1,⟨none,none,[14],.pnk (.t 14)⟩]) CC.skip)) (.r [.m 15 2,.st 1 0 15])))
def cc83:CC:=.seq CC.bad (.seq (.r [.m 5 1,⟨some 6,none,[5],.bin .neq (some [7]) (.t 5) (.c .nili)⟩]) (.cond (.t 6) cc83c CC.skip))
theorem hcc83:Tryz.f83.body.map (compC Tryz.prog Tryz.f83.ntmps)=some cc83:=by kernel_rfl
end Go.Am
namespace Go.Am
set_option linter.all false
set_option linter.all false
open Go Go.RowKit Go.Proofs
set_option maxRecDepth 100000
def cc85:CC:=.seq (.r [.v 2 (.str [])]) (.seq (.r [.m 3 0,⟨some 4,none,[],.bslice (.int .i64 0) 1 [(0,.c (.int .i64 1))]⟩,.c 5 121 [3,4],⟨some 6,none,[5],.conv (.fld 1) (.t 5)⟩,.m 2 6]) CC.ret)
def cr85:List CRes:=[.tmp 2]
theorem hcr85:compRes Tryz.prog Tryz.f85.results.toList=some cr85:=by kernel_rfl
theorem hcc85:Tryz.f85.body.map (compC Tryz.prog Tryz.f85.ntmps)=some cc85:=by kernel_rfl
end Go.Am
