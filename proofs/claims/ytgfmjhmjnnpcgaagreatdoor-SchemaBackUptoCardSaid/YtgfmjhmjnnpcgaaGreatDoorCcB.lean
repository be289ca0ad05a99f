/- Parts of the proof: an abstract machine for Go functions, and what functions of the program give back (CcB, CcS, CcV, CcY, CcZ). No condition. -/
import Derived.Test.YtgfmjhmjnnpcgaaGreatDoorXC
import Derived.Test.YtgfmjhmjnnpcgaaGreatDoorProg
import Derived.KernelRfl
namespace Go.Am
set_option linter.all false
set_option linter.all false
open Go Go.RowKit Go.Proofs
set_option maxRecDepth 100000
def cc7:CC:=.seq (.r [.v 2 (.bool false)]) (.seq (.seq (.r [.c 7 21 [],.no 8 7]) (.cond (.t 8) (.seq (.r [.v 2 (.bool false)]) CC.ret) CC.skip)) (.seq (.seq (.r [.m 9 0,.c 10 22 [9],.k 11 .neq 10 0]) (.cond (.t 11) (.seq (.r [.v 2 (.bool true)]) CC.ret) CC.skip)) (.seq (.r [.v 3 .nils]) (.seq (.seq (.r [.i 4 0]) (.block 0 (.loop (.seq (.seq (.r [.m 12 4,.m 13 0,.n 14 13,.b 15 .lss 12 14]) (.cond (.t 15) CC.skip (.exit 0))) (.seq (.block 1 (.seq (.r [.m 18 0,.m 19 4,.ia 20 2 .zY 18 19,.f 21 0 20,.l 22 21,⟨some 23,none,[22],.build [.str [],.nils] [(0,1,.t 22)]⟩,.al 5 .zY,.st 2 5 23]) (.seq (.seq (.r [.m 24 0,.m 25 4,.ia 26 2 .zY 24 25,.f 27 1 26,.l 28 27,.n 29 28,.k 30 .sub 29 1,.m 6 30]) (.block 2 (.loop (.seq (.seq (.r [.m 31 6,.k 32 .geq 31 0]) (.cond (.t 32) CC.skip (.exit 2))) (.seq (.block 3 (.d [.f 35 1 5,.l 36 35,.m 37 0,.m 38 4,.ia 39 2 .zY 37 38,.f 40 1 39,.l 41 40,.m 42 6,.ia 43 3 .zF 41 42,.L 44 3 43,⟨some 45,none,[44],.bslice .zF 1 [(0,.t 44)]⟩,⟨some 46,none,[36,45],.app false .zF 40 (.t 36) (.t 45)⟩,.f 47 1 5,.st 1 47 46] [(0,10),(1,10)])) (.r [.m 33 6,.k 34 .sub 33 1,.m 6 34])))))) (.r [.L 48 2 5,⟨some 49,none,[48],.bslice .zY 1 [(0,.t 48)]⟩,.m 50 3,⟨some 51,none,[49,50],.app false .zY 40 (.t 49) (.t 50)⟩,.m 3 51])))) (.r [.m 16 4,.k 17 .add 16 1,.m 4 17])))))) (.seq (.r [.m 52 3,.c 53 22 [52],.k 54 .eql 53 0,.m 2 54]) CC.ret)))))
def cr7:List CRes:=[.tmp 2]
theorem hcr7:compRes Tryz.prog Tryz.f7.results.toList=some cr7:=by kernel_rfl
theorem hcc7:Tryz.f7.body.map (compC Tryz.prog Tryz.f7.ntmps)=some cc7:=by kernel_rfl
def cc9:CC:=.seq (.r [.v 4 (.bool false)]) (.seq (.seq (.r [.c 12 21 [],.no 13 12]) (.cond (.t 13) (.seq (.r [.v 4 (.bool false)]) CC.ret) CC.skip)) (.seq (.r [.m 15 1,.c 16 24 [15],.m 14 16,.e 17 14 0,.e 18 14 1,.m 5 17,.m 6 18]) (.seq (.seq (.r [.m 19 6,.k 20 .eql 19 0]) (.cond (.t 20) (.seq (.r [.m 22 5,.c 23 23 [22],.m 21 23,.e 24 21 0,.e 25 21 1,.m 7 24,.m 8 25]) (.seq (.r [.m 26 8,.k 27 .neq 26 0,.m 28 27,.gf 28 (.m 29 7),.gf 28 (.m 30 1),.gf 28 (.c 31 28 [29,30]),.gf 28 (.no 32 31),.po 33 28 32]) (.cond (.t 33) (.seq (.r [.v 4 (.bool false)]) CC.ret) CC.skip))) CC.skip)) (.seq (.r [.m 35 0,.c 36 23 [35],.m 34 36,.e 37 34 0,.e 38 34 1,.m 9 37,.m 6 38]) (.seq (.seq (.r [.m 39 6,.k 40 .neq 39 0]) (.cond (.t 40) (.seq (.r [.m 41 9,.n 42 41,.k 43 .eql 42 0,.m 4 43]) CC.ret) CC.skip)) (.seq (.r [.m 45 9,.c 46 24 [45],.m 44 46,.e 47 44 0,.e 48 44 1,.m 5 47,.m 6 48]) (.seq (.r [.m 50 5,.c 51 23 [50],.m 49 51,.e 52 49 0,.e 53 49 1,.m 10 52,.m 11 53]) (.seq (.r [.m 54 6,.k 55 .eql 54 0,.m 56 55,.gt 56 (.m 57 11),.gt 56 (.k 58 .eql 57 0),.pa 59 56 58,.m 60 59,.gt 60 (.m 61 10),.gt 60 (.m 62 9),.gt 60 (.c 63 28 [61,62]),.pa 64 60 63,.m 65 64,.gt 65 (.m 66 9),.gt 65 (.c 67 22 [66]),.gt 65 (.k 68 .eql 67 0),.pa 69 65 68,.m 4 69]) CC.ret))))))))
def cr9:List CRes:=[.tmp 4]
theorem hcr9:compRes Tryz.prog Tryz.f9.results.toList=some cr9:=by kernel_rfl
theorem hcc9:Tryz.f9.body.map (compC Tryz.prog Tryz.f9.ntmps)=some cc9:=by kernel_rfl
def cc13:CC:=.seq (.r [.v 2 .nils,.i 3 0]) (.seq (.seq (.r [.m 4 0,.ns 5 4,.k 6 .gtr 5 2000]) (.cond (.t 6) (.seq (.r [.v 2 .nils,.i 3 2]) CC.ret) CC.skip)) (.seq (.r [.m 7 0,.c 8 37 [7],.e 9 8 0,.e 10 8 1,.m 2 9,.m 3 10]) CC.ret))
def cr13:List CRes:=[.tmp 2,.tmp 3]
theorem hcr13:compRes Tryz.prog Tryz.f13.results.toList=some cr13:=by kernel_rfl
theorem hcc13:Tryz.f13.body.map (compC Tryz.prog Tryz.f13.ntmps)=some cc13:=by kernel_rfl
def cc21:CC:=.seq (.r [.v 0 (.bool false)]) (.seq (.r [⟨some 6,none,[],.call 23 [.c (.str [116,121,112,101,32,65,32,123,32,110,58,32,78,117,109,98,101,114,32,116,58,32,84,101,120,116,32,98,58,32,66,32,108,58,32,91,65,93,32,125,32,116,121,112,101,32,66,32,123,32,109,58,32,78,117,109,98,101,114,32,125])]⟩,.m 5 6,.e 7 5 0,.e 8 5 1,.m 1 7,.m 2 8]) (.seq (.r [.c 10 50 [],⟨some 11,none,[10],.sli 2 (.t 10) (some (.c (.int .i64 1))) none⟩,.c 12 24 [11],.m 9 12,.e 13 9 0,.e 14 9 1,.m 3 13,.m 4 14]) (.seq (.r [.m 15 2,.k 16 .eql 15 0,.m 17 16,.gt 17 (.m 18 4),.gt 17 (.k 19 .eql 18 0),.pa 20 17 19,.m 21 20,.gt 21 (.c 22 50 []),.gt 21 (.c 23 22 [22]),.gt 21 (.k 24 .eql 23 0),.pa 25 21 24,.m 26 25,.gt 26 (.m 27 1),.gt 26 (.c 28 50 []),.gt 26 (.c 29 28 [27,28]),.pa 30 26 29,.m 31 30,.gt 31 (.m 32 3),.gt 31 (.j 33 .eql 32 (.str [116,121,112,101,32,66,32,123,32,109,32,58,32,78,117,109,98,101,114,32,125])),.pa 34 31 33,.m 0 34]) CC.ret)))
def cr21:List CRes:=[.tmp 0]
theorem hcr21:compRes Tryz.prog Tryz.f21.results.toList=some cr21:=by kernel_rfl
theorem hcc21:Tryz.f21.body.map (compC Tryz.prog Tryz.f21.ntmps)=some cc21:=by kernel_rfl
def cc22:CC:=.seq (.r [.i 2 0]) (.seq (.block 0 (.seq (.r [.m 6 0,.n 7 6,.k 8 .eql 7 0,.m 5 8]) (.cond (.t 5) (.seq (.r [.i 2 5]) CC.ret) (.seq (.r [.m 10 0,.n 11 10,.k 12 .gtr 11 5,.m 9 12]) (.cond (.t 9) (.seq (.r [.i 2 2]) CC.ret) CC.skip))))) (.seq (.seq (.r [.m 13 0,.n 14 13,.i 15 0]) (.block 1 (.loop (.seq (.r [.b 16 .lss 15 14]) (.seq (.cond (.t 16) CC.skip (.exit 1)) (.seq (.block 2 (.seq (.r [.m 17 15,.m 3 17]) (.seq (.r [.m 18 0,.m 19 3,.c 20 51 [18,19],.m 4 20]) (.seq (.r [.m 21 4,.k 22 .neq 21 0]) (.cond (.t 22) (.seq (.r [.m 23 4,.m 2 23]) CC.ret) CC.skip))))) (.r [.k 24 .add 15 1,.m 15 24]))))))) (.seq (.r [.i 2 0]) CC.ret)))
def cr22:List CRes:=[.tmp 2]
theorem hcr22:compRes Tryz.prog Tryz.f22.results.toList=some cr22:=by kernel_rfl
theorem hcc22:Tryz.f22.body.map (compC Tryz.prog Tryz.f22.ntmps)=some cc22:=by kernel_rfl
def cc23:CC:=.seq (.r [.v 2 .nils,.i 3 0]) (.seq (.r [.al 4 .nils]) (.seq (.r [.m 6 0,⟨some 7,none,[4],.mkf 53 [.t 4]⟩,.c 8 52 [6,7],.m 5 8]) (.seq (.seq (.r [.m 9 5,.k 10 .eql 9 0]) (.cond (.t 10) (.r [.l 11 4,.c 12 22 [11],.m 5 12]) CC.skip)) (.seq (.seq (.r [.m 13 5,.k 14 .neq 13 0]) (.cond (.t 14) (.seq (.r [.m 15 5,.v 2 .nils,.m 3 15]) CC.ret) CC.skip)) (.seq (.r [.l 16 4,.m 2 16,.i 3 0]) CC.ret)))))
def cr23:List CRes:=[.tmp 2,.tmp 3]
theorem hcr23:compRes Tryz.prog Tryz.f23.results.toList=some cr23:=by kernel_rfl
theorem hcc23:Tryz.f23.body.map (compC Tryz.prog Tryz.f23.ntmps)=some cc23:=by kernel_rfl
def cc24:CC:=.seq (.r [.v 2 (.str []),.i 3 0]) (.seq (.seq (.r [.m 5 0,.c 6 22 [5],.m 4 6]) (.seq (.r [.m 7 4,.k 8 .neq 7 0]) (.cond (.t 8) (.seq (.r [.m 9 4,.v 2 (.str []),.m 3 9]) CC.ret) CC.skip))) (.seq (.r [.m 10 0,.c 11 56 [10],.c 12 39 [11],.m 2 12,.i 3 0]) CC.ret))
def cr24:List CRes:=[.tmp 2,.tmp 3]
theorem hcr24:compRes Tryz.prog Tryz.f24.results.toList=some cr24:=by kernel_rfl
theorem hcc24:Tryz.f24.body.map (compC Tryz.prog Tryz.f24.ntmps)=some cc24:=by kernel_rfl
def cc28:CC:=.seq (.r [.v 4 (.bool false)]) (.seq (.seq (.r [.m 7 0,.n 8 7,.m 9 1,.n 10 9,.b 11 .neq 8 10]) (.cond (.t 11) (.seq (.r [.v 4 (.bool false)]) CC.ret) CC.skip)) (.seq (.seq (.r [.i 5 0]) (.block 0 (.loop (.seq (.seq (.r [.m 12 5,.m 13 0,.n 14 13,.b 15 .lss 12 14]) (.cond (.t 15) CC.skip (.exit 0))) (.seq (.block 1 (.seq (.seq (.d [.m 18 0,.m 19 5,.ia 20 2 .zY 18 19,.f 21 0 20,.l 22 21,.m 23 1,.m 24 5,.ia 25 2 .zY 23 24,.f 26 0 25,.l 27 26,.b 28 .neq 22 27,.m 29 28,.gf 29 (.m 30 0),.gf 29 (.m 31 5),.gf 29 (.ia 32 2 .zY 30 31),.gf 29 (.f 33 1 32),.gf 29 (.l 34 33),.gf 29 (.n 35 34),.gf 29 (.m 36 1),.gf 29 (.m 37 5),.gf 29 (.ia 38 2 .zY 36 37),.gf 29 (.f 39 1 38),.gf 29 (.l 40 39),.gf 29 (.n 41 40),.gf 29 (.b 42 .neq 35 41),.po 43 29 42] []) (.cond (.t 43) (.seq (.r [.v 4 (.bool false)]) CC.ret) CC.skip)) (.seq (.r [.i 6 0]) (.block 2 (.loop (.seq (.seq (.r [.m 44 6,.m 45 0,.m 46 5,.ia 47 2 .zY 45 46,.f 48 1 47,.l 49 48,.n 50 49,.b 51 .lss 44 50]) (.cond (.t 51) CC.skip (.exit 2))) (.seq (.block 3 (.seq (.d [.m 54 0,.m 55 5,.ia 56 2 .zY 54 55,.f 57 1 56,.l 58 57,.m 59 6,.ia 60 3 .zF 58 59,.L 61 3 60,.m 62 1,.m 63 5,.ia 64 2 .zY 62 63,.f 65 1 64,.l 66 65,.m 67 6,.ia 68 3 .zF 66 67,.L 69 3 68,⟨some 70,none,[61,69],.bin .neq (some [2,0,2]) (.t 61) (.t 69)⟩] []) (.cond (.t 70) (.seq (.r [.v 4 (.bool false)]) CC.ret) CC.skip))) (.r [.m 52 6,.k 53 .add 52 1,.m 6 53])))))))) (.r [.m 16 5,.k 17 .add 16 1,.m 5 17])))))) (.seq (.r [.v 4 (.bool true)]) CC.ret)))
def cr28:List CRes:=[.tmp 4]
theorem hcr28:compRes Tryz.prog Tryz.f28.results.toList=some cr28:=by kernel_rfl
theorem hcc28:Tryz.f28.body.map (compC Tryz.prog Tryz.f28.ntmps)=some cc28:=by kernel_rfl
def cc39:CC:=.seq (.r [.v 2 (.str [])]) (.seq (.r [.v 3 .nils]) (.seq (.seq (.r [.m 6 0,.n 7 6,.i 8 0]) (.block 0 (.loop (.seq (.r [.b 9 .lss 8 7]) (.seq (.cond (.t 9) CC.skip (.exit 0)) (.seq (.block 1 (.seq (.r [.ia 10 3 (.agg [.int .i64 0,.str [],.int .i64 0]) 6 8,.L 11 3 10,.al 5 (.agg [.int .i64 0,.str [],.int .i64 0]),.st 3 5 11]) (.r [.m 12 3,.L 13 3 5,.c 14 76 [13],⟨some 15,none,[14],.bslice (.str []) 1 [(0,.t 14)]⟩,⟨some 16,none,[12,15],.app false (.str []) 16 (.t 12) (.t 15)⟩,.m 3 16]))) (.r [.k 17 .add 8 1,.m 8 17]))))))) (.seq (.r [.m 18 3,⟨some 19,none,[18],.call 77 [.t 18,.c (.str [32])]⟩,.m 2 19]) CC.ret)))
def cr39:List CRes:=[.tmp 2]
theorem hcr39:compRes Tryz.prog Tryz.f39.results.toList=some cr39:=by kernel_rfl
theorem hcc39:Tryz.f39.body.map (compC Tryz.prog Tryz.f39.ntmps)=some cc39:=by kernel_rfl
def cc47:CC:=.seq (.r [.v 2 (.str [])]) (.seq (.seq (.r [.m 3 0,.k 4 .lss 3 0,.m 5 4,.gt 5 (.m 6 0),.gt 5 (.k 7 .gtr 6 (-10)),.pa 8 5 7]) (.cond (.t 8) (.seq (.r [.m 9 0,⟨some 10,none,[9],.un .neg (.t 9)⟩,.c 11 47 [10],⟨some 12,none,[11],.bin .add none (.c (.str [45])) (.t 11)⟩,.m 2 12]) CC.ret) CC.skip)) (.seq (.seq (.r [.m 13 0,.k 14 .lss 13 0]) (.cond (.t 14) (.seq (.r [.m 15 0,.k 16 .quo 15 10,⟨some 17,none,[16],.un .neg (.t 16)⟩,.c 18 47 [17],⟨some 19,none,[18],.bin .add none (.c (.str [45])) (.t 18)⟩,.m 20 0,.k 21 .rem 20 10,⟨some 22,none,[21],.un .neg (.t 21)⟩,.c 23 47 [22],.b 24 .add 19 23,.m 2 24]) CC.ret) CC.skip)) (.seq (.seq (.r [.m 25 0,.k 26 .lss 25 10]) (.cond (.t 26) (.seq (.r [.m 27 0,⟨some 28,none,[27],.bin .add none (.c (.int .i64 48)) (.t 27)⟩,⟨some 29,none,[28],.conv (.int .u8) (.t 28)⟩,⟨some 30,none,[29],.bslice (.int .u8 0) 1 [(0,.t 29)]⟩,⟨some 31,none,[30],.conv .str (.t 30)⟩,.m 2 31]) CC.ret) CC.skip)) (.seq (.r [.m 32 0,.k 33 .quo 32 10,.c 34 47 [33],.m 35 0,.k 36 .rem 35 10,.c 37 47 [36],.b 38 .add 34 37,.m 2 38]) CC.ret))))
def cr47:List CRes:=[.tmp 2]
theorem hcr47:compRes Tryz.prog Tryz.f47.results.toList=some cr47:=by kernel_rfl
theorem hcc47:Tryz.f47.body.map (compC Tryz.prog Tryz.f47.ntmps)=some cc47:=by kernel_rfl
def cc50:CC:=.seq (.r [.v 0 .nils]) (.seq (.r [⟨some 1,none,[],.build [.str [],.int .i64 0,.str []] [(0,1,.c (.str [110])),(1,1,.c (.int .i64 1))]⟩,⟨some 2,none,[],.build [.str [],.int .i64 0,.str []] [(0,1,.c (.str [116])),(1,1,.c (.int .i64 2))]⟩,⟨some 3,none,[],.build [.str [],.int .i64 0,.str []] [(0,1,.c (.str [98])),(1,1,.c (.int .i64 3)),(2,1,.c (.str [66]))]⟩,⟨some 4,none,[],.build [.str [],.int .i64 0,.str []] [(0,1,.c (.str [108])),(1,1,.c (.int .i64 4)),(2,1,.c (.str [65]))]⟩,⟨some 5,none,[1,2,3,4],.bslice .zF 4 [(0,.t 1),(1,.t 2),(2,.t 3),(3,.t 4)]⟩,⟨some 6,none,[5],.build [.str [],.nils] [(0,1,.c (.str [65])),(1,1,.t 5)]⟩,⟨some 7,none,[],.build [.str [],.int .i64 0,.str []] [(0,1,.c (.str [109])),(1,1,.c (.int .i64 1))]⟩,⟨some 8,none,[7],.bslice .zF 1 [(0,.t 7)]⟩,⟨some 9,none,[8],.build [.str [],.nils] [(0,1,.c (.str [66])),(1,1,.t 8)]⟩,⟨some 10,none,[6,9],.bslice .zY 2 [(0,.t 6),(1,.t 9)]⟩,.m 0 10]) CC.ret)
def cr50:List CRes:=[.tmp 0]
theorem hcr50:compRes Tryz.prog Tryz.f50.results.toList=some cr50:=by kernel_rfl
theorem hcc50:Tryz.f50.body.map (compC Tryz.prog Tryz.f50.ntmps)=some cc50:=by kernel_rfl
def cc51:CC:=.seq (.r [.i 4 0]) (.seq (.r [.m 10 0,.m 11 1,.ia 12 2 .zY 10 11,.L 13 2 12,.al 5 .zY,.st 2 5 13]) (.seq (.seq (.r [.f 14 0 5,.l 15 14,.c 16 78 [15],.m 6 16]) (.seq (.r [.m 17 6,.k 18 .neq 17 0]) (.cond (.t 18) (.seq (.r [.m 19 6,.m 4 19]) CC.ret) CC.skip))) (.seq (.block 0 (.seq (.r [.f 21 0 5,.l 22 21,.j 23 .eql 22 (.str [78,117,109,98,101,114]),.m 24 23,.gf 24 (.f 25 0 5),.gf 24 (.l 26 25),.gf 24 (.j 27 .eql 26 (.str [84,101,120,116])),.po 28 24 27,.m 20 28]) (.cond (.t 20) (.seq (.r [.i 4 4]) CC.ret) (.seq (.d [.m 30 0,.m 31 1,⟨some 32,none,[30,31],.sli 2 (.t 30) none (some (.t 31))⟩,.f 33 0 5,.l 34 33,.c 35 81 [32,34],.k 36 .geq 35 0,.m 29 36] [(2,3),(2,4)]) (.cond (.t 29) (.seq (.r [.i 4 6]) CC.ret) (.seq (.r [.f 38 1 5,.l 39 38,.n 40 39,.k 41 .eql 40 0,.m 37 41]) (.cond (.t 37) (.seq (.r [.i 4 5]) CC.ret) (.seq (.r [.f 43 1 5,.l 44 43,.n 45 44,.k 46 .gtr 45 6,.m 42 46]) (.cond (.t 42) (.seq (.r [.i 4 2]) CC.ret) CC.skip))))))))) (.seq (.seq (.r [.f 47 1 5,.l 48 47,.n 49 48,.i 50 0]) (.block 1 (.loop (.seq (.r [.b 51 .lss 50 49]) (.seq (.cond (.t 51) CC.skip (.exit 1)) (.seq (.block 2 (.seq (.r [.m 52 50,.ia 53 3 .zF 48 50,.L 54 3 53,.al 8 .zF,.m 7 52,.st 3 8 54]) (.seq (.d [.m 55 0,.L 56 3 8,.f 57 1 5,.l 58 57,.m 59 7,⟨some 60,none,[58,59],.sli 3 (.t 58) none (some (.t 59))⟩,.c 61 82 [55,56,60],.m 9 61] [(0,5),(1,5)]) (.seq (.r [.m 62 9,.k 63 .neq 62 0]) (.cond (.t 63) (.seq (.r [.m 64 9,.m 4 64]) CC.ret) CC.skip))))) (.r [.k 65 .add 50 1,.m 50 65]))))))) (.seq (.r [.i 4 0]) CC.ret)))))
def cr51:List CRes:=[.tmp 4]
theorem hcr51:compRes Tryz.prog Tryz.f51.results.toList=some cr51:=by kernel_rfl
theorem hcc51:Tryz.f51.body.map (compC Tryz.prog Tryz.f51.ntmps)=some cc51:=by kernel_rfl
def cc53:CC:=.block 0 (.loop (.block 1 (.seq (.d [.l 3 1,.m 4 0,.c 5 54 [4],⟨some 6,none,[5],.bslice .zY 1 [(0,.t 5)]⟩,⟨some 7,none,[3,6],.app false .zY 40 (.t 3) (.t 6)⟩,.st 1 1 7] [(0,2),(0,3)]) (.seq (.r [.m 8 0,.c 9 55 [8]]) (.cond (.t 9) CC.ret CC.skip)))))
def cr53:List CRes:=[]
theorem hcr53:compRes Tryz.prog Tryz.f53.results.toList=some cr53:=by kernel_rfl
theorem hcc53:Tryz.f53.body.map (compC Tryz.prog Tryz.f53.ntmps)=some cc53:=by kernel_rfl
def cc54:CC:=.seq (.r [.bx 1 0,.al 2 .zY]) (.seq (.seq (.r [.l 4 1,.c 5 85 [4],.j 6 .neq 5 (.str [116,121,112,101])]) (.cond (.t 6) (.r [⟨some 7,none,[],.call 86 [.c (.int .i64 1)]⟩]) CC.skip)) (.seq (.r [.l 8 1,.c 9 85 [8],⟨some 10,none,[9],.build [.str [],.nils] [(0,1,.t 9)]⟩,.al 3 .zY,.st 2 3 10]) (.seq (.r [.l 11 1,⟨some 12,none,[11],.call 87 [.t 11,.c (.str [123])]⟩]) (.seq (.r [.l 13 1,⟨some 14,none,[3,1],.mkf 89 [.t 3,.t 1]⟩,⟨some 15,none,[13,14],.call 88 [.t 13,.c (.str [125]),.t 14]⟩]) (.seq (.r [.L 16 2 3,.st 2 2 16]) CC.ret)))))
def cr54:List CRes:=[.cell 2 true 2]
theorem hcr54:compRes Tryz.prog Tryz.f54.results.toList=some cr54:=by kernel_rfl
theorem hcc54:Tryz.f54.body.map (compC Tryz.prog Tryz.f54.ntmps)=some cc54:=by kernel_rfl
def cc55:CC:=.seq (.r [.v 2 (.bool false)]) (.seq (.r [.m 3 0,.ck 4 3,.f 5 0 4,.l 6 5,.n 7 6,.k 8 .eql 7 0,.m 2 8]) CC.ret)
def cr55:List CRes:=[.tmp 2]
theorem hcr55:compRes Tryz.prog Tryz.f55.results.toList=some cr55:=by kernel_rfl
theorem hcc55:Tryz.f55.body.map (compC Tryz.prog Tryz.f55.ntmps)=some cc55:=by kernel_rfl
def cc56:CC:=.seq (.r [.v 2 .nils]) (.seq (.r [.al 3 .nils]) (.seq (.r [⟨some 9,none,[3],.mkf 91 [.t 3]⟩,.m 4 9]) (.seq (.seq (.r [.m 10 0,.n 11 10,.i 12 0]) (.block 0 (.loop (.seq (.r [.b 13 .lss 12 11]) (.seq (.cond (.t 13) CC.skip (.exit 0)) (.seq (.block 1 (.seq (.r [.ia 14 2 .zY 10 12,.L 15 2 14,.al 6 .zY,.st 2 6 15]) (.seq (.d [.m 16 4,⟨some 17,none,[],.call 92 [.c (.str [116,121,112,101])]⟩,.f 18 0 6,.l 19 18,.c 20 92 [19],⟨some 21,none,[],.call 93 [.c (.str [123])]⟩,⟨some 22,none,[17,20,21],.bslice (.agg [.int .i64 0,.str [],.int .i64 0]) 3 [(0,.t 17),(1,.t 20),(2,.t 21)]⟩,⟨some 23,none,[16,22],.callv (.t 16) [.t 22]⟩] (pr [(1,[0]),(2,[1]),(3,[1]),(4,[0]),(5,[0]),(6,[0])])) (.seq (.seq (.r [.f 24 1 6,.l 25 24,.n 26 25,.i 27 0]) (.block 2 (.loop (.seq (.r [.b 28 .lss 27 26]) (.seq (.cond (.t 28) CC.skip (.exit 2)) (.seq (.block 3 (.seq (.r [.ia 29 3 .zF 25 27,.L 30 3 29,.al 8 .zF,.st 3 8 30]) (.seq (.r [.m 31 4,.f 32 0 8,.l 33 32,.c 34 92 [33],⟨some 35,none,[],.call 93 [.c (.str [58])]⟩,⟨some 36,none,[34,35],.bslice (.agg [.int .i64 0,.str [],.int .i64 0]) 2 [(0,.t 34),(1,.t 35)]⟩,⟨some 37,none,[31,36],.callv (.t 31) [.t 36]⟩]) (.seq (.r [.f 38 1 8,.l 39 38]) (.block 4 (.seq (.r [.k 41 .eql 39 1,.m 40 41]) (.cond (.t 40) (.r [.m 42 4,⟨some 43,none,[],.call 92 [.c (.str [78,117,109,98,101,114])]⟩,⟨some 44,none,[43],.bslice (.agg [.int .i64 0,.str [],.int .i64 0]) 1 [(0,.t 43)]⟩,⟨some 45,none,[42,44],.callv (.t 42) [.t 44]⟩]) (.seq (.r [.k 47 .eql 39 2,.m 46 47]) (.cond (.t 46) (.r [.m 48 4,⟨some 49,none,[],.call 92 [.c (.str [84,101,120,116])]⟩,⟨some 50,none,[49],.bslice (.agg [.int .i64 0,.str [],.int .i64 0]) 1 [(0,.t 49)]⟩,⟨some 51,none,[48,50],.callv (.t 48) [.t 50]⟩]) (.seq (.r [.k 53 .eql 39 3,.m 52 53]) (.cond (.t 52) (.r [.m 54 4,.f 55 2 8,.l 56 55,.c 57 92 [56],⟨some 58,none,[57],.bslice (.agg [.int .i64 0,.str [],.int .i64 0]) 1 [(0,.t 57)]⟩,⟨some 59,none,[54,58],.callv (.t 54) [.t 58]⟩]) (.seq (.r [.k 61 .eql 39 4,.m 60 61]) (.cond (.t 60) (.d [.m 62 4,⟨some 63,none,[],.call 93 [.c (.str [91])]⟩,.f 64 2 8,.l 65 64,.c 66 92 [65],⟨some 67,none,[],.call 93 [.c (.str [93])]⟩,⟨some 68,none,[63,66,67],.bslice (.agg [.int .i64 0,.str [],.int .i64 0]) 3 [(0,.t 63),(1,.t 66),(2,.t 67)]⟩,⟨some 69,none,[62,68],.callv (.t 62) [.t 68]⟩] (pr [(1,[0]),(2,[1]),(3,[1]),(4,[0]),(5,[0]),(6,[0])])) CC.skip))))))))))))) (.r [.k 70 .add 27 1,.m 27 70]))))))) (.r [.m 71 4,⟨some 72,none,[],.call 93 [.c (.str [125])]⟩,⟨some 73,none,[72],.bslice (.agg [.int .i64 0,.str [],.int .i64 0]) 1 [(0,.t 72)]⟩,⟨some 74,none,[71,73],.callv (.t 71) [.t 73]⟩]))))) (.r [.k 75 .add 12 1,.m 12 75]))))))) (.seq (.r [.l 76 3,.m 2 76]) CC.ret))))
def cr56:List CRes:=[.tmp 2]
theorem hcr56:compRes Tryz.prog Tryz.f56.results.toList=some cr56:=by kernel_rfl
theorem hcc56:Tryz.f56.body.map (compC Tryz.prog Tryz.f56.ntmps)=some cc56:=by kernel_rfl
def cc73:CC:=.block 0 (.loop (.block 1 (.seq (.r [.m 2 0,⟨some 3,none,[2],.call 102 [.t 2,.f 103]⟩]) (.seq (.seq (.d [.m 4 0,.ck 5 4,.f 6 1 5,.l 7 6,.m 8 0,.ck 9 8,.f 10 0 9,.l 11 10,.ns 12 11,.b 13 .eql 7 12,.m 14 13,.gf 14 (.m 15 0),.gf 14 (.ck 16 15),.gf 14 (.f 17 0 16),.gf 14 (.l 18 17),.gf 14 (.m 19 0),.gf 14 (.ck 20 19),.gf 14 (.f 21 1 20),.gf 14 (.l 22 21),.gf 14 ⟨some 23,none,[18,22],.ix (.t 18) (.t 22)⟩,.gf 14 (.j 24 .neq 23 (.int .u8 35)),.po 25 14 24] []) (.cond (.t 25) CC.ret CC.skip)) (.r [.m 26 0,⟨some 27,none,[26],.call 102 [.t 26,.f 104]⟩])))))
def cr73:List CRes:=[]
theorem hcr73:compRes Tryz.prog Tryz.f73.results.toList=some cr73:=by kernel_rfl
theorem hcc73:Tryz.f73.body.map (compC Tryz.prog Tryz.f73.ntmps)=some cc73:=by kernel_rfl
def cc74:CC:=.seq (.r [.al 2 (.agg [.int .i64 0,.str [],.int .i64 0])]) (.seq (.d [.m 6 0,.ck 7 6,.f 8 0 7,.l 9 8,.m 10 0,.ck 11 10,.f 12 1 11,.l 13 12,⟨some 14,none,[9,13],.ix (.t 9) (.t 13)⟩,.m 3 14] []) (.seq (.block 0 (.seq (.r [.m 16 3,.c 17 105 [16],.m 15 17]) (.cond (.t 15) (.seq (.r [.m 18 0,⟨some 19,none,[18],.call 102 [.t 18,.f 106]⟩,.m 4 19]) (.seq (.seq (.r [.m 20 4,.c 21 78 [20],.m 5 21]) (.seq (.r [.m 22 5,.k 23 .neq 22 0]) (.cond (.t 23) (.r [.m 24 5,.c 25 75 [24]]) CC.skip))) (.seq (.r [.m 26 4,⟨some 27,none,[26],.build [.int .i64 0,.str [],.int .i64 0] [(0,1,.c (.int .i64 1)),(1,1,.t 26)]⟩,.st 3 2 27]) CC.ret))) (.seq (.r [.m 29 3,.c 30 107 [29],.m 31 30,.gf 31 (.m 32 3),.gf 31 (.j 33 .eql 32 (.int .u8 45)),.po 34 31 33,.m 28 34]) (.cond (.t 28) (.seq (.r [.m 35 0,.c 36 108 [35],.st 3 2 36]) CC.ret) (.seq (.r [.m 38 3,.j 39 .eql 38 (.int .u8 34),.m 37 39]) (.cond (.t 37) (.seq (.r [.m 40 0,.c 41 109 [40],.st 3 2 41]) CC.ret) (.seq (.r [.m 43 3,⟨some 44,none,[43],.call 110 [.c (.str [123,125,40,41,58,91,93]),.t 43]⟩,.k 45 .geq 44 0,.m 42 45]) (.cond (.t 42) (.seq (.r [.m 46 0,.ck 47 46,.f 48 1 47,.l 49 48,.k 50 .add 49 1,.ck 51 46,.f 52 1 51,.st 1 52 50]) (.seq (.r [.m 53 3,⟨some 54,none,[53],.bslice (.int .u8 0) 1 [(0,.t 53)]⟩,⟨some 55,none,[54],.conv .str (.t 54)⟩,⟨some 56,none,[55],.build [.int .i64 0,.str [],.int .i64 0] [(0,1,.c (.int .i64 4)),(1,1,.t 55)]⟩,.st 3 2 56]) CC.ret)) CC.skip))))))))) (.seq (.r [⟨some 57,none,[],.call 75 [.c (.int .i64 1)]⟩]) (.seq (.r [⟨some 58,none,[],.build [.int .i64 0,.str [],.int .i64 0] []⟩,.st 3 2 58]) CC.ret))))
def cr74:List CRes:=[.cell 2 true 3]
theorem hcr74:compRes Tryz.prog Tryz.f74.results.toList=some cr74:=by kernel_rfl
theorem hcc74:Tryz.f74.body.map (compC Tryz.prog Tryz.f74.ntmps)=some cc74:=by kernel_rfl
def cc75:CC:=.r [.m 2 0,⟨some 3,none,[2],.conv (.mki 23) (.t 2)⟩,⟨none,none,[3],.pnk (.t 3)⟩]
def cr75:List CRes:=[]
theorem hcr75:compRes Tryz.prog Tryz.f75.results.toList=some cr75:=by kernel_rfl
theorem hcc75:Tryz.f75.body.map (compC Tryz.prog Tryz.f75.ntmps)=some cc75:=by kernel_rfl
def cc76:CC:=.seq (.r [.bx 1 0,.v 2 (.str [])]) (.seq (.seq (.r [.f 3 0 1,.l 4 3]) (.block 0 (.seq (.r [.k 6 .eql 4 2,.m 5 6]) (.cond (.t 5) (.seq (.r [.f 7 2 1,.l 8 7,.c 9 111 [8],.m 2 9]) CC.ret) (.seq (.r [.k 11 .eql 4 3,.m 10 11]) (.cond (.t 10) (.seq (.d [⟨some 12,none,[],.bslice (.str []) 6 [(0,.c (.str [34])),(1,.c (.str [92,34])),(2,.c (.str [92])),(3,.c (.str [92,92])),(4,.c (.str [10])),(5,.c (.str [92,110]))]⟩,.c 13 112 [12],.f 14 1 1,.l 15 14,.c 16 113 [13,15],⟨some 17,none,[16],.bin .add none (.c (.str [34])) (.t 16)⟩,.j 18 .add 17 (.str [34]),.m 2 18] [(0,2),(1,2),(0,3),(1,3)]) CC.ret) CC.skip)))))) (.seq (.r [.f 19 1 1,.l 20 19,.m 2 20]) CC.ret))
def cr76:List CRes:=[.tmp 2]
theorem hcr76:compRes Tryz.prog Tryz.f76.results.toList=some cr76:=by kernel_rfl
theorem hcc76:Tryz.f76.body.map (compC Tryz.prog Tryz.f76.ntmps)=some cc76:=by kernel_rfl
def cc78:CC:=.seq (.r [.i 2 0]) (.seq (.seq (.r [.m 4 0,.ns 5 4,.k 6 .gtr 5 12]) (.cond (.t 6) (.seq (.r [.i 2 2]) CC.ret) CC.skip)) (.seq (.seq (.r [.m 7 0,.ns 8 7,.i 9 0]) (.block 0 (.loop (.seq (.r [.b 10 .lss 9 8]) (.seq (.cond (.t 10) CC.skip (.exit 0)) (.seq (.block 1 (.seq (.r [.m 11 9,.m 3 11]) (.seq (.r [.m 12 0,.m 13 3,⟨some 14,none,[12,13],.ix (.t 12) (.t 13)⟩,.c 15 105 [14],.no 16 15,.m 17 16,.gt 17 (.m 18 3),.gt 17 (.k 19 .eql 18 0),.gt 17 (.m 20 19),.gf 20 (.m 21 0),.gf 20 (.m 22 3),.gf 20 ⟨some 23,none,[21,22],.ix (.t 21) (.t 22)⟩,.gf 20 (.c 24 107 [23]),.gf 20 (.no 25 24),.gt 17 (.po 26 20 25),.pa 27 17 26]) (.cond (.t 27) (.seq (.r [.i 2 1]) CC.ret) CC.skip)))) (.r [.k 28 .add 9 1,.m 9 28]))))))) (.seq (.seq (.r [.m 29 0,.j 30 .eql 29 (.str [])]) (.cond (.t 30) (.seq (.r [.i 2 1]) CC.ret) CC.skip)) (.seq (.r [.i 2 0]) CC.ret))))
def cr78:List CRes:=[.tmp 2]
theorem hcr78:compRes Tryz.prog Tryz.f78.results.toList=some cr78:=by kernel_rfl
theorem hcc78:Tryz.f78.body.map (compC Tryz.prog Tryz.f78.ntmps)=some cc78:=by kernel_rfl
def cc79:CC:=.seq (.r [.v 2 (.bool false)]) (.seq (.r [.m 3 0,.k 4 .geq 3 (-999999999),.m 5 4,.gt 5 (.m 6 0),.gt 5 (.k 7 .leq 6 999999999),.pa 8 5 7,.m 2 8]) CC.ret)
def cr79:List CRes:=[.tmp 2]
theorem hcr79:compRes Tryz.prog Tryz.f79.results.toList=some cr79:=by kernel_rfl
theorem hcc79:Tryz.f79.body.map (compC Tryz.prog Tryz.f79.ntmps)=some cc79:=by kernel_rfl
def cc81:CC:=.seq (.r [.bx 3 1,.i 4 0]) (.seq (.r [.m 5 0,⟨some 6,none,[3],.mkf 119 [.t 3]⟩,.c 7 118 [5,6],.m 4 7]) CC.ret)
def cr81:List CRes:=[.tmp 4]
theorem hcr81:compRes Tryz.prog Tryz.f81.results.toList=some cr81:=by kernel_rfl
theorem hcc81:Tryz.f81.body.map (compC Tryz.prog Tryz.f81.ntmps)=some cc81:=by kernel_rfl
def cc82:CC:=.seq (.r [.bx 4 1,.i 6 0]) (.seq (.seq (.r [.f 9 0 4,.l 10 9,.c 11 78 [10],.m 7 11]) (.seq (.r [.m 12 7,.k 13 .neq 12 0]) (.cond (.t 13) (.seq (.r [.m 14 7,.m 6 14]) CC.ret) CC.skip))) (.seq (.r [.f 15 1 4,.l 16 15,.k 17 .eql 16 1,.m 18 17,.gf 18 (.f 19 1 4),.gf 18 (.l 20 19),.gf 18 (.k 21 .eql 20 2),.po 22 18 21,.m 8 22]) (.seq (.block 0 (.seq (.r [.f 24 0 4,.l 25 24,.j 26 .eql 25 (.str [105,100]),.m 23 26]) (.cond (.t 23) (.seq (.r [.i 6 4]) CC.ret) (.seq (.r [.m 28 2,⟨some 29,none,[28],.build [.str [],.nils] [(1,1,.t 28)]⟩,.f 30 0 4,.l 31 30,.c 32 120 [29,31],.k 33 .geq 32 0,.m 27 33]) (.cond (.t 27) (.seq (.r [.i 6 6]) CC.ret) (.seq (.r [.f 35 1 4,.l 36 35,.k 37 .lss 36 1,.m 38 37,.gf 38 (.f 39 1 4),.gf 38 (.l 40 39),.gf 38 (.k 41 .gtr 40 4),.po 42 38 41,.m 34 42]) (.cond (.t 34) (.seq (.r [.i 6 7]) CC.ret) (.seq (.r [.m 44 8,.m 45 44,.gt 45 (.f 46 2 4),.gt 45 (.l 47 46),.gt 45 (.j 48 .neq 47 (.str [])),.pa 49 45 48,.m 43 49]) (.cond (.t 43) (.seq (.r [.i 6 1]) CC.ret) (.seq (.r [.m 51 8,.no 52 51,.m 53 52,.gt 53 (.m 54 0),.gt 53 (.f 55 2 4),.gt 53 (.l 56 55),.gt 53 (.c 57 81 [54,56]),.gt 53 (.k 58 .lss 57 0),.pa 59 53 58,.m 50 59]) (.cond (.t 50) (.seq (.r [.i 6 5]) CC.ret) CC.skip))))))))))) (.seq (.r [.i 6 0]) CC.ret))))
def cr82:List CRes:=[.tmp 6]
theorem hcr82:compRes Tryz.prog Tryz.f82.results.toList=some cr82:=by kernel_rfl
theorem hcc82:Tryz.f82.body.map (compC Tryz.prog Tryz.f82.ntmps)=some cc82:=by kernel_rfl
def cc84:CC:=.seq (.r [.m 2 0,.ck 3 2,.f 4 0 3,.l 5 4,.n 6 5,.k 7 .gtr 6 0]) (.cond (.t 7) (.r [⟨some 8,none,[],.call 86 [.c (.int .i64 1)]⟩]) CC.skip)
def cr84:List CRes:=[]
theorem hcr84:compRes Tryz.prog Tryz.f84.results.toList=some cr84:=by kernel_rfl
theorem hcc84:Tryz.f84.body.map (compC Tryz.prog Tryz.f84.ntmps)=some cc84:=by kernel_rfl
def cc86:CC:=.r [.m 2 0,⟨some 3,none,[2],.conv (.mki 23) (.t 2)⟩,⟨none,none,[3],.pnk (.t 3)⟩]
def cr86:List CRes:=[]
theorem hcr86:compRes Tryz.prog Tryz.f86.results.toList=some cr86:=by kernel_rfl
theorem hcc86:Tryz.f86.body.map (compC Tryz.prog Tryz.f86.ntmps)=some cc86:=by kernel_rfl
def cc87:CC:=.seq (.seq (.r [.m 4 0,.m 5 1,.c 6 122 [4,5],.no 7 6]) (.cond (.t 7) (.r [⟨some 8,none,[],.call 86 [.c (.int .i64 1)]⟩]) CC.skip)) (.r [.m 9 0,.m 10 0,.ck 11 10,.f 12 0 11,.l 13 12,⟨some 14,none,[13],.sli 3 (.t 13) (some (.c (.int .i64 1))) none⟩,.ck 15 9,.f 16 0 15,.st 1 16 14])
def cr87:List CRes:=[]
theorem hcr87:compRes Tryz.prog Tryz.f87.results.toList=some cr87:=by kernel_rfl
theorem hcc87:Tryz.f87.body.map (compC Tryz.prog Tryz.f87.ntmps)=some cc87:=by kernel_rfl
def cc88:CC:=.block 0 (.loop (.block 1 (.seq (.r [.m 6 2,⟨some 7,none,[6],.callv (.t 6) []⟩]) (.seq (.r [.m 8 0,.m 9 1,.c 10 123 [8,9]]) (.cond (.t 10) CC.ret CC.skip)))))
def cr88:List CRes:=[]
theorem hcr88:compRes Tryz.prog Tryz.f88.results.toList=some cr88:=by kernel_rfl
theorem hcc88:Tryz.f88.body.map (compC Tryz.prog Tryz.f88.ntmps)=some cc88:=by kernel_rfl
def cc89:CC:=.d [.f 2 1 0,.l 3 2,.l 4 1,.c 5 90 [4],⟨some 6,none,[5],.bslice .zF 1 [(0,.t 5)]⟩,⟨some 7,none,[3,6],.app false .zF 40 (.t 3) (.t 6)⟩,.f 8 1 0,.st 1 8 7] [(0,3),(1,3),(0,4),(1,4)]
def cr89:List CRes:=[]
theorem hcr89:compRes Tryz.prog Tryz.f89.results.toList=some cr89:=by kernel_rfl
theorem hcc89:Tryz.f89.body.map (compC Tryz.prog Tryz.f89.ntmps)=some cc89:=by kernel_rfl
def cc90:CC:=.seq (.r [.al 2 .zF]) (.seq (.r [.m 5 0,.c 6 85 [5],⟨some 7,none,[6],.build [.str [],.int .i64 0,.str []] [(0,1,.t 6)]⟩,.al 3 .zF,.st 3 3 7]) (.seq (.r [.m 8 0,⟨some 9,none,[8],.call 87 [.t 8,.c (.str [58])]⟩]) (.seq (.seq (.r [.m 10 0,⟨some 11,none,[10],.call 123 [.t 10,.c (.str [91])]⟩]) (.cond (.t 11) (.seq (.r [.m 12 0,.c 13 85 [12],.f 14 1 3,.si 1 14 4,.f 15 2 3,.st 1 15 13]) (.seq (.r [.m 16 0,⟨some 17,none,[16],.call 87 [.t 16,.c (.str [93])]⟩]) (.seq (.r [.L 18 3 3,.st 3 2 18]) CC.ret))) CC.skip)) (.seq (.seq (.r [.m 19 0,.c 20 85 [19],.m 4 20]) (.seq (.r [.m 21 4]) (.block 0 (.seq (.r [.j 26 .eql 21 (.str [78,117,109,98,101,114]),.m 25 26]) (.cond (.t 25) (.r [.f 27 1 3,.si 1 27 1]) (.seq (.r [.j 29 .eql 21 (.str [84,101,120,116]),.m 28 29]) (.cond (.t 28) (.r [.f 30 1 3,.si 1 30 2]) (.r [.m 22 4,.f 23 1 3,.si 1 23 3,.f 24 2 3,.st 1 24 22])))))))) (.seq (.r [.L 31 3 3,.st 3 2 31]) CC.ret)))))
def cr90:List CRes:=[.cell 2 true 3]
theorem hcr90:compRes Tryz.prog Tryz.f90.results.toList=some cr90:=by kernel_rfl
theorem hcc90:Tryz.f90.body.map (compC Tryz.prog Tryz.f90.ntmps)=some cc90:=by kernel_rfl
def cc91:CC:=.r [.l 3 1,.m 4 0,⟨some 5,none,[3,4],.app false (.agg [.int .i64 0,.str [],.int .i64 0]) 32 (.t 3) (.t 4)⟩,.st 1 1 5]
def cr91:List CRes:=[]
theorem hcr91:compRes Tryz.prog Tryz.f91.results.toList=some cr91:=by kernel_rfl
theorem hcc91:Tryz.f91.body.map (compC Tryz.prog Tryz.f91.ntmps)=some cc91:=by kernel_rfl
def cc92:CC:=.seq (.r [.al 2 (.agg [.int .i64 0,.str [],.int .i64 0])]) (.seq (.r [.m 3 0,⟨some 4,none,[3],.build [.int .i64 0,.str [],.int .i64 0] [(0,1,.c (.int .i64 1)),(1,1,.t 3)]⟩,.st 3 2 4]) CC.ret)
def cr92:List CRes:=[.cell 2 true 3]
theorem hcr92:compRes Tryz.prog Tryz.f92.results.toList=some cr92:=by kernel_rfl
theorem hcc92:Tryz.f92.body.map (compC Tryz.prog Tryz.f92.ntmps)=some cc92:=by kernel_rfl
def cc93:CC:=.seq (.r [.al 2 (.agg [.int .i64 0,.str [],.int .i64 0])]) (.seq (.r [.m 3 0,⟨some 4,none,[3],.build [.int .i64 0,.str [],.int .i64 0] [(0,1,.c (.int .i64 4)),(1,1,.t 3)]⟩,.st 3 2 4]) CC.ret)
def cr93:List CRes:=[.cell 2 true 3]
theorem hcr93:compRes Tryz.prog Tryz.f93.results.toList=some cr93:=by kernel_rfl
theorem hcc93:Tryz.f93.body.map (compC Tryz.prog Tryz.f93.ntmps)=some cc93:=by kernel_rfl
def cc102:CC:=.seq (.r [.v 4 (.str [])]) (.seq (.r [.m 6 0,.ck 7 6,.f 8 1 7,.l 9 8,.m 5 9]) (.seq (.block 0 (.loop (.seq (.seq (.d [.m 10 0,.ck 11 10,.f 12 1 11,.l 13 12,.m 14 0,.ck 15 14,.f 16 0 15,.l 17 16,.ns 18 17,.b 19 .lss 13 18,.m 20 19,.gt 20 (.m 21 1),.gt 20 (.m 22 0),.gt 20 (.ck 23 22),.gt 20 (.f 24 0 23),.gt 20 (.l 25 24),.gt 20 (.m 26 0),.gt 20 (.ck 27 26),.gt 20 (.f 28 1 27),.gt 20 (.l 29 28),.gt 20 ⟨some 30,none,[25,29],.ix (.t 25) (.t 29)⟩,.gt 20 ⟨some 31,none,[21,30],.callv (.t 21) [.t 30]⟩,.pa 32 20 31] []) (.cond (.t 32) CC.skip (.exit 0))) (.block 1 (.r [.m 33 0,.ck 34 33,.f 35 1 34,.l 36 35,.k 37 .add 36 1,.ck 38 33,.f 39 1 38,.st 1 39 37]))))) (.seq (.d [.m 40 0,.ck 41 40,.f 42 0 41,.l 43 42,.m 44 5,.m 45 0,.ck 46 45,.f 47 1 46,.l 48 47,⟨some 49,none,[43,44,48],.slis (.t 43) (some (.t 44)) (some (.t 48))⟩,.m 4 49] []) CC.ret)))
def cr102:List CRes:=[.tmp 4]
theorem hcr102:compRes Tryz.prog Tryz.f102.results.toList=some cr102:=by kernel_rfl
theorem hcc102:Tryz.f102.body.map (compC Tryz.prog Tryz.f102.ntmps)=some cc102:=by kernel_rfl
def cc103:CC:=.seq (.r [.v 2 (.bool false)]) (.seq (.r [.m 3 0,.j 4 .eql 3 (.int .u8 9),.m 5 4,.gf 5 (.m 6 0),.gf 5 (.j 7 .eql 6 (.int .u8 10)),.po 8 5 7,.m 9 8,.gf 9 (.m 10 0),.gf 9 (.j 11 .eql 10 (.int .u8 13)),.po 12 9 11,.m 13 12,.gf 13 (.m 14 0),.gf 13 (.j 15 .eql 14 (.int .u8 32)),.po 16 13 15,.m 17 16,.gf 17 (.m 18 0),.gf 17 (.j 19 .eql 18 (.int .u8 44)),.po 20 17 19,.m 2 20]) CC.ret)
def cr103:List CRes:=[.tmp 2]
theorem hcr103:compRes Tryz.prog Tryz.f103.results.toList=some cr103:=by kernel_rfl
theorem hcc103:Tryz.f103.body.map (compC Tryz.prog Tryz.f103.ntmps)=some cc103:=by kernel_rfl
def cc104:CC:=.seq (.r [.v 2 (.bool false)]) (.seq (.r [.m 3 0,.j 4 .neq 3 (.int .u8 10),.m 2 4]) CC.ret)
def cr104:List CRes:=[.tmp 2]
theorem hcr104:compRes Tryz.prog Tryz.f104.results.toList=some cr104:=by kernel_rfl
theorem hcc104:Tryz.f104.body.map (compC Tryz.prog Tryz.f104.ntmps)=some cc104:=by kernel_rfl
def cc105:CC:=.seq (.r [.v 2 (.bool false)]) (.seq (.r [.m 3 0,.j 4 .geq 3 (.int .u8 97),.m 5 4,.gt 5 (.m 6 0),.gt 5 (.j 7 .leq 6 (.int .u8 122)),.pa 8 5 7,.m 9 8,.gf 9 (.m 10 0),.gf 9 (.j 11 .geq 10 (.int .u8 65)),.gf 9 (.m 12 11),.gt 12 (.m 13 0),.gt 12 (.j 14 .leq 13 (.int .u8 90)),.gf 9 (.pa 15 12 14),.po 16 9 15,.m 17 16,.gf 17 (.m 18 0),.gf 17 (.j 19 .eql 18 (.int .u8 95)),.po 20 17 19,.m 2 20]) CC.ret)
def cr105:List CRes:=[.tmp 2]
theorem hcr105:compRes Tryz.prog Tryz.f105.results.toList=some cr105:=by kernel_rfl
theorem hcc105:Tryz.f105.body.map (compC Tryz.prog Tryz.f105.ntmps)=some cc105:=by kernel_rfl
def cc106:CC:=.seq (.r [.v 2 (.bool false)]) (.seq (.r [.m 3 0,.c 4 105 [3],.m 5 4,.gf 5 (.m 6 0),.gf 5 (.c 7 107 [6]),.po 8 5 7,.m 2 8]) CC.ret)
def cr106:List CRes:=[.tmp 2]
theorem hcr106:compRes Tryz.prog Tryz.f106.results.toList=some cr106:=by kernel_rfl
theorem hcc106:Tryz.f106.body.map (compC Tryz.prog Tryz.f106.ntmps)=some cc106:=by kernel_rfl
def cc107:CC:=.seq (.r [.v 2 (.bool false)]) (.seq (.r [.m 3 0,.j 4 .geq 3 (.int .u8 48),.m 5 4,.gt 5 (.m 6 0),.gt 5 (.j 7 .leq 6 (.int .u8 57)),.pa 8 5 7,.m 2 8]) CC.ret)
def cr107:List CRes:=[.tmp 2]
theorem hcr107:compRes Tryz.prog Tryz.f107.results.toList=some cr107:=by kernel_rfl
theorem hcc107:Tryz.f107.body.map (compC Tryz.prog Tryz.f107.ntmps)=some cc107:=by kernel_rfl
def cc108:CC:=.seq (.r [.al 2 (.agg [.int .i64 0,.str [],.int .i64 0])]) (.seq (.r [.v 3 (.str [])]) (.seq (.seq (.d [.m 6 0,.ck 7 6,.f 8 0 7,.l 9 8,.m 10 0,.ck 11 10,.f 12 1 11,.l 13 12,⟨some 14,none,[9,13],.ix (.t 9) (.t 13)⟩,.j 15 .eql 14 (.int .u8 45)] []) (.cond (.t 15) (.seq (.r [.m 16 0,.ck 17 16,.f 18 1 17,.l 19 18,.k 20 .add 19 1,.ck 21 16,.f 22 1 21,.st 1 22 20]) (.r [.v 3 (.str [45])])) CC.skip)) (.seq (.r [.m 23 3,.m 24 0,⟨some 25,none,[24],.call 102 [.t 24,.f 107]⟩,.b 26 .add 23 25,.m 3 26]) (.seq (.r [.m 28 3,.c 29 130 [28],.m 27 29,.e 30 27 0,.e 31 27 1,.m 4 30,.m 5 31]) (.seq (.seq (.r [.m 32 5,⟨some 33,none,[32],.bin .neq (some [7]) (.t 32) (.c .nili)⟩,.m 34 33,.gf 34 (.m 35 4),.gf 34 (.c 36 111 [35]),.gf 34 (.m 37 3),.gf 34 (.b 38 .neq 36 37),.po 39 34 38,.m 40 39,.gf 40 (.m 41 4),.gf 40 (.c 42 79 [41]),.gf 40 (.no 43 42),.po 44 40 43]) (.cond (.t 44) (.r [⟨some 45,none,[],.call 75 [.c (.int .i64 1)]⟩]) CC.skip)) (.seq (.r [.m 46 4,⟨some 47,none,[46],.build [.int .i64 0,.str [],.int .i64 0] [(0,1,.c (.int .i64 2)),(2,1,.t 46)]⟩,.st 3 2 47]) CC.ret))))))
def cr108:List CRes:=[.cell 2 true 3]
theorem hcr108:compRes Tryz.prog Tryz.f108.results.toList=some cr108:=by kernel_rfl
theorem hcc108:Tryz.f108.body.map (compC Tryz.prog Tryz.f108.ntmps)=some cc108:=by kernel_rfl
def cc109:CC:=.seq (.r [.al 2 (.agg [.int .i64 0,.str [],.int .i64 0])]) (.seq (.r [.v 3 .nils]) (.seq (.seq (.r [.m 6 0,.ck 7 6,.f 8 1 7,.l 9 8,.k 10 .add 9 1,.ck 11 6,.f 12 1 11,.st 1 12 10]) (.block 0 (.loop (.seq (.block 1 (.seq (.seq (.d [.m 20 0,.ck 21 20,.f 22 1 21,.l 23 22,.m 24 0,.ck 25 24,.f 26 0 25,.l 27 26,.ns 28 27,.b 29 .eql 23 28,.m 30 29,.gf 30 (.m 31 0),.gf 30 (.ck 32 31),.gf 30 (.f 33 0 32),.gf 30 (.l 34 33),.gf 30 (.m 35 0),.gf 30 (.ck 36 35),.gf 30 (.f 37 1 36),.gf 30 (.l 38 37),.gf 30 ⟨some 39,none,[34,38],.ix (.t 34) (.t 38)⟩,.gf 30 (.j 40 .eql 39 (.int .u8 10)),.po 41 30 40] []) (.cond (.t 41) (.r [⟨some 42,none,[],.call 75 [.c (.int .i64 1)]⟩]) CC.skip)) (.seq (.d [.m 43 0,.ck 44 43,.f 45 0 44,.l 46 45,.m 47 0,.ck 48 47,.f 49 1 48,.l 50 49,⟨some 51,none,[46,50],.ix (.t 46) (.t 50)⟩,.m 4 51] []) (.seq (.seq (.r [.m 52 4,.j 53 .eql 52 (.int .u8 34)]) (.cond (.t 53) (.exit 0) CC.skip)) (.seq (.seq (.r [.m 54 4,.j 55 .eql 54 (.int .u8 92)]) (.cond (.t 55) (.seq (.r [.m 56 0,.ck 57 56,.f 58 1 57,.l 59 58,.k 60 .add 59 1,.ck 61 56,.f 62 1 61,.st 1 62 60]) (.seq (.r [.i 5 (-1)]) (.seq (.seq (.d [.m 63 0,.ck 64 63,.f 65 1 64,.l 66 65,.m 67 0,.ck 68 67,.f 69 0 68,.l 70 69,.ns 71 70,.b 72 .lss 66 71] []) (.cond (.t 72) (.d [.m 73 0,.ck 74 73,.f 75 0 74,.l 76 75,.m 77 0,.ck 78 77,.f 79 1 78,.l 80 79,⟨some 81,none,[76,80],.ix (.t 76) (.t 80)⟩,⟨some 82,none,[81],.call 110 [.c (.str [34,92,110]),.t 81]⟩,.m 5 82] []) CC.skip)) (.seq (.seq (.r [.m 83 5,.k 84 .lss 83 0]) (.cond (.t 84) (.r [⟨some 85,none,[],.call 75 [.c (.int .i64 1)]⟩]) CC.skip)) (.r [.m 86 5,⟨some 87,none,[86],.ix (.c (.str [34,92,10])) (.t 86)⟩,.m 4 87]))))) CC.skip)) (.r [.m 88 3,.m 89 4,⟨some 90,none,[89],.bslice (.int .u8 0) 1 [(0,.t 89)]⟩,⟨some 91,none,[88,90],.app false (.int .u8 0) 1 (.t 88) (.t 90)⟩,.m 3 91])))))) (.r [.m 13 0,.ck 14 13,.f 15 1 14,.l 16 15,.k 17 .add 16 1,.ck 18 13,.f 19 1 18,.st 1 19 17]))))) (.seq (.r [.m 92 0,.ck 93 92,.f 94 1 93,.l 95 94,.k 96 .add 95 1,.ck 97 92,.f 98 1 97,.st 1 98 96]) (.seq (.seq (.r [.m 99 3,.n 100 99,.k 101 .gtr 100 40]) (.cond (.t 101) (.r [⟨some 102,none,[],.call 75 [.c (.int .i64 2)]⟩]) CC.skip)) (.seq (.r [.m 103 3,⟨some 104,none,[103],.conv .str (.t 103)⟩,⟨some 105,none,[104],.build [.int .i64 0,.str [],.int .i64 0] [(0,1,.c (.int .i64 3)),(1,1,.t 104)]⟩,.st 3 2 105]) CC.ret)))))
def cr109:List CRes:=[.cell 2 true 3]
theorem hcr109:compRes Tryz.prog Tryz.f109.results.toList=some cr109:=by kernel_rfl
theorem hcc109:Tryz.f109.body.map (compC Tryz.prog Tryz.f109.ntmps)=some cc109:=by kernel_rfl
def cc118:CC:=.seq (.r [.i 4 0]) (.seq (.seq (.r [.m 6 0,.n 7 6,.i 8 0]) (.block 0 (.loop (.seq (.r [.b 9 .lss 8 7]) (.seq (.cond (.t 9) CC.skip (.exit 0)) (.seq (.block 1 (.seq (.r [.m 10 8,.m 5 10]) (.seq (.r [.m 11 1,.m 12 0,.m 13 5,.ia 14 2 .zY 12 13,.L 15 2 14,⟨some 16,none,[11,15],.callv (.t 11) [.t 15]⟩]) (.cond (.t 16) (.seq (.r [.m 17 5,.m 4 17]) CC.ret) CC.skip)))) (.r [.k 18 .add 8 1,.m 8 18]))))))) (.seq (.r [.i 4 (-1)]) CC.ret))
def cr118:List CRes:=[.tmp 4]
theorem hcr118:compRes Tryz.prog Tryz.f118.results.toList=some cr118:=by kernel_rfl
theorem hcc118:Tryz.f118.body.map (compC Tryz.prog Tryz.f118.ntmps)=some cc118:=by kernel_rfl
def cc119:CC:=.seq (.r [.bx 2 0,.v 3 (.bool false)]) (.seq (.r [.f 4 0 2,.l 5 4,.l 6 1,.b 7 .eql 5 6,.m 3 7]) CC.ret)
def cr119:List CRes:=[.tmp 3]
theorem hcr119:compRes Tryz.prog Tryz.f119.results.toList=some cr119:=by kernel_rfl
theorem hcc119:Tryz.f119.body.map (compC Tryz.prog Tryz.f119.ntmps)=some cc119:=by kernel_rfl
def cc120:CC:=.seq (.r [.bx 2 0,.bx 3 1,.i 4 0]) (.seq (.r [.f 5 1 2,.l 6 5,⟨some 7,none,[3],.mkf 139 [.t 3]⟩,.c 8 138 [6,7],.m 4 8]) CC.ret)
def cr120:List CRes:=[.tmp 4]
theorem hcr120:compRes Tryz.prog Tryz.f120.results.toList=some cr120:=by kernel_rfl
theorem hcc120:Tryz.f120.body.map (compC Tryz.prog Tryz.f120.ntmps)=some cc120:=by kernel_rfl
def cc121:CC:=.seq (.r [.al 4 (.agg [.int .i64 0,.str [],.int .i64 0])]) (.seq (.seq (.r [.m 6 0,.ck 7 6,.f 8 0 7,.l 9 8,.n 10 9,.k 11 .eql 10 0,.m 12 11,.gf 12 (.m 13 1),.gf 12 (.m 14 0),.gf 12 (.ck 15 14),.gf 12 (.f 16 0 15),.gf 12 (.l 17 16),.gf 12 ⟨some 18,none,[17],.ia 3 (.agg [.int .i64 0,.str [],.int .i64 0]) (.t 17) (.c (.int .i64 0))⟩,.gf 12 (.f 19 0 18),.gf 12 (.l 20 19),.gf 12 (.c 21 140 [13,20]),.gf 12 (.no 22 21),.po 23 12 22]) (.cond (.t 23) (.r [⟨some 24,none,[],.call 86 [.c (.int .i64 1)]⟩]) CC.skip)) (.seq (.r [.m 25 0,.ck 26 25,.f 27 0 26,.l 28 27,⟨some 29,none,[28],.ia 3 (.agg [.int .i64 0,.str [],.int .i64 0]) (.t 28) (.c (.int .i64 0))⟩,.L 30 3 29,.al 5 (.agg [.int .i64 0,.str [],.int .i64 0]),.st 3 5 30]) (.seq (.r [.m 31 0,.m 32 0,.ck 33 32,.f 34 0 33,.l 35 34,⟨some 36,none,[35],.sli 3 (.t 35) (some (.c (.int .i64 1))) none⟩,.ck 37 31,.f 38 0 37,.st 1 38 36]) (.seq (.r [.L 39 3 5,.st 3 4 39]) CC.ret))))
def cr121:List CRes:=[.cell 4 true 3]
theorem hcr121:compRes Tryz.prog Tryz.f121.results.toList=some cr121:=by kernel_rfl
theorem hcc121:Tryz.f121.body.map (compC Tryz.prog Tryz.f121.ntmps)=some cc121:=by kernel_rfl
def cc122:CC:=.seq (.r [.v 4 (.bool false)]) (.seq (.r [.m 5 0,.ck 6 5,.f 7 0 6,.l 8 7,.n 9 8,.k 10 .gtr 9 0,.m 11 10,.gt 11 (.m 12 0),.gt 11 (.ck 13 12),.gt 11 (.f 14 0 13),.gt 11 (.l 15 14),.gt 11 ⟨some 16,none,[15],.ia 3 (.agg [.int .i64 0,.str [],.int .i64 0]) (.t 15) (.c (.int .i64 0))⟩,.gt 11 (.f 17 0 16),.gt 11 (.l 18 17),.gt 11 (.k 19 .eql 18 4),.pa 20 11 19,.m 21 20,.gt 21 (.m 22 0),.gt 21 (.ck 23 22),.gt 21 (.f 24 0 23),.gt 21 (.l 25 24),.gt 21 ⟨some 26,none,[25],.ia 3 (.agg [.int .i64 0,.str [],.int .i64 0]) (.t 25) (.c (.int .i64 0))⟩,.gt 21 (.f 27 1 26),.gt 21 (.l 28 27),.gt 21 (.m 29 1),.gt 21 (.b 30 .eql 28 29),.pa 31 21 30,.m 4 31]) CC.ret)
def cr122:List CRes:=[.tmp 4]
theorem hcr122:compRes Tryz.prog Tryz.f122.results.toList=some cr122:=by kernel_rfl
theorem hcc122:Tryz.f122.body.map (compC Tryz.prog Tryz.f122.ntmps)=some cc122:=by kernel_rfl
def cc123:CC:=.seq (.r [.v 4 (.bool false)]) (.seq (.seq (.r [.m 5 0,.m 6 1,.c 7 122 [5,6],.no 8 7]) (.cond (.t 8) (.seq (.r [.v 4 (.bool false)]) CC.ret) CC.skip)) (.seq (.r [.m 9 0,.m 10 0,.ck 11 10,.f 12 0 11,.l 13 12,⟨some 14,none,[13],.sli 3 (.t 13) (some (.c (.int .i64 1))) none⟩,.ck 15 9,.f 16 0 15,.st 1 16 14]) (.seq (.r [.v 4 (.bool true)]) CC.ret)))
def cr123:List CRes:=[.tmp 4]
theorem hcr123:compRes Tryz.prog Tryz.f123.results.toList=some cr123:=by kernel_rfl
theorem hcc123:Tryz.f123.body.map (compC Tryz.prog Tryz.f123.ntmps)=some cc123:=by kernel_rfl
def cc128:CC:=.d [.f 2 2 0,.l 3 2,.l 4 1,.c 5 129 [4],⟨some 6,none,[5],.bslice .zA 1 [(0,.t 5)]⟩,⟨some 7,none,[3,6],.app false .zA 48 (.t 3) (.t 6)⟩,.f 8 2 0,.st 1 8 7] [(0,3),(1,3),(0,4),(1,4)]
def cr128:List CRes:=[]
theorem hcr128:compRes Tryz.prog Tryz.f128.results.toList=some cr128:=by kernel_rfl
theorem hcc128:Tryz.f128.body.map (compC Tryz.prog Tryz.f128.ntmps)=some cc128:=by kernel_rfl
def cc129:CC:=.seq (.r [.al 2 .zA]) (.seq (.r [.m 5 0,.c 6 85 [5],⟨some 7,none,[6],.build [.str [],.bool false,.str [],.int .i64 0] [(0,1,.t 6)]⟩,.al 3 .zA,.st 4 3 7]) (.seq (.r [.m 8 0,⟨some 9,none,[8],.call 87 [.t 8,.c (.str [58])]⟩]) (.seq (.r [.m 10 0,⟨some 11,none,[],.bslice (.int .i64 0) 2 [(0,.c (.int .i64 2)),(1,.c (.int .i64 3))]⟩,.c 12 121 [10,11],.al 4 (.agg [.int .i64 0,.str [],.int .i64 0]),.st 3 4 12]) (.seq (.d [.f 13 0 4,.l 14 13,.k 15 .eql 14 3,.f 16 1 4,.l 17 16,.f 18 2 4,.l 19 18,.f 20 1 3,.st 1 20 15,.f 21 2 3,.st 1 21 17,.f 22 3 3,.st 1 22 19] (pr [(8,[3,4,5,6]),(10,[5,6])])) (.seq (.r [.L 23 4 3,.st 4 2 23]) CC.ret)))))
def cr129:List CRes:=[.cell 2 true 4]
theorem hcr129:compRes Tryz.prog Tryz.f129.results.toList=some cr129:=by kernel_rfl
theorem hcc129:Tryz.f129.body.map (compC Tryz.prog Tryz.f129.ntmps)=some cc129:=by kernel_rfl
def cc138:CC:=.seq (.r [.i 4 0]) (.seq (.seq (.r [.m 6 0,.n 7 6,.i 8 0]) (.block 0 (.loop (.seq (.r [.b 9 .lss 8 7]) (.seq (.cond (.t 9) CC.skip (.exit 0)) (.seq (.block 1 (.seq (.r [.m 10 8,.m 5 10]) (.seq (.r [.m 11 1,.m 12 0,.m 13 5,.ia 14 3 .zF 12 13,.L 15 3 14,⟨some 16,none,[11,15],.callv (.t 11) [.t 15]⟩]) (.cond (.t 16) (.seq (.r [.m 17 5,.m 4 17]) CC.ret) CC.skip)))) (.r [.k 18 .add 8 1,.m 8 18]))))))) (.seq (.r [.i 4 (-1)]) CC.ret))
def cr138:List CRes:=[.tmp 4]
theorem hcr138:compRes Tryz.prog Tryz.f138.results.toList=some cr138:=by kernel_rfl
theorem hcc138:Tryz.f138.body.map (compC Tryz.prog Tryz.f138.ntmps)=some cc138:=by kernel_rfl
def cc139:CC:=.seq (.r [.bx 2 0,.v 3 (.bool false)]) (.seq (.r [.f 4 0 2,.l 5 4,.l 6 1,.b 7 .eql 5 6,.m 3 7]) CC.ret)
def cr139:List CRes:=[.tmp 3]
theorem hcr139:compRes Tryz.prog Tryz.f139.results.toList=some cr139:=by kernel_rfl
theorem hcc139:Tryz.f139.body.map (compC Tryz.prog Tryz.f139.ntmps)=some cc139:=by kernel_rfl
def cc140:CC:=.seq (.r [.v 4 (.bool false)]) (.seq (.r [.m 5 0,.m 6 1,.c 7 154 [5,6],.k 8 .geq 7 0,.m 4 8]) CC.ret)
def cr140:List CRes:=[.tmp 4]
theorem hcr140:compRes Tryz.prog Tryz.f140.results.toList=some cr140:=by kernel_rfl
theorem hcc140:Tryz.f140.body.map (compC Tryz.prog Tryz.f140.ntmps)=some cc140:=by kernel_rfl
def cc154:CC:=.seq (.r [.i 4 0]) (.seq (.seq (.r [.m 6 0,.n 7 6,.i 8 0]) (.block 0 (.loop (.seq (.r [.b 9 .lss 8 7]) (.seq (.cond (.t 9) CC.skip (.exit 0)) (.seq (.block 1 (.seq (.r [.m 10 8,.m 5 10]) (.seq (.r [.m 11 1,.m 12 0,.m 13 5,.ia 14 1 (.int .i64 0) 12 13,.l 15 14,.b 16 .eql 11 15]) (.cond (.t 16) (.seq (.r [.m 17 5,.m 4 17]) CC.ret) CC.skip)))) (.r [.k 18 .add 8 1,.m 8 18]))))))) (.seq (.r [.i 4 (-1)]) CC.ret))
def cr154:List CRes:=[.tmp 4]
theorem hcr154:compRes Tryz.prog Tryz.f154.results.toList=some cr154:=by kernel_rfl
theorem hcc154:Tryz.f154.body.map (compC Tryz.prog Tryz.f154.ntmps)=some cc154:=by kernel_rfl
end Go.Am
namespace Go.Am
set_option linter.all false
set_option linter.all false
end Go.Am
namespace Go.Am
set_option linter.all false
set_option linter.all false
end Go.Am
namespace Go.Am
set_option linter.all false
set_option linter.all false
open Go Go.RowKit Go.Proofs
set_option maxRecDepth 100000
def cc37a:CC:=(.r [.al 2 .nils,.al 3 (.int .i64 0)])
def cc37b:CC:=(.r [.m 6 0,⟨some 7,none,[6],.build [.str [],.int .i64 0] [(0,1,.t 6)]⟩,.bx 8 7,.m 4 8])
def cc37c:CC:=(.r [.m 9 4,.c 10 73 [9]])
def cc37h:CC:=(.r [.m 11 4,.ck 12 11,.f 13 1 12,.l 14 13,.m 15 0,.ns 16 15,.b 17 .lss 14 16])
def cc37k:CC:=(.d [.l 20 2,.m 21 4,.c 22 74 [21],⟨some 23,none,[22],.bslice (.agg [.int .i64 0,.str [],.int .i64 0]) 1 [(0,.t 22)]⟩,⟨some 24,none,[20,23],.app false (.agg [.int .i64 0,.str [],.int .i64 0]) 32 (.t 20) (.t 23)⟩,.st 1 2 24] [(0,2),(0,3)])
def cc37l:CC:=(.r [.l 25 2,.n 26 25,.k 27 .gtr 26 300])
def cc37m:CC:=(.r [⟨some 28,none,[],.call 75 [.c (.int .i64 2)]⟩])
def cc37n:CC:=(.r [.m 18 4,.c 19 73 [18]])
def cc37d:CC:=(.r [.l 29 2,.st 1 2 29,.si 1 3 0])
def cc37t:CC:=.block 1 (.seq cc37k (.seq cc37l (.cond (.t 27) cc37m CC.skip)))
def cc37L:CC:=.seq (.seq cc37h (.cond (.t 17) CC.skip (.exit 0))) (.seq cc37t cc37n)
def cc37:CC:=.seq cc37a (.seq CC.bad (.seq cc37b (.seq (.seq cc37c (.block 0 (.loop cc37L))) (.seq cc37d CC.ret))))
def cr37:List CRes:=[.cell 2 false 1,.cell 3 false 1]
theorem hcr37:compRes Tryz.prog Tryz.f37.results.toList=some cr37:=by kernel_rfl
theorem hcc37:Tryz.f37.body.map (compC Tryz.prog Tryz.f37.ntmps)=some cc37:=by kernel_rfl
def cc52a:CC:=(.r [.al 4 (.int .i64 0)])
def cc52b:CC:=(.r [.m 8 0,.c 9 13 [8],.m 7 9,.e 10 7 0,.e 11 7 1,.m 5 10,.st 1 4 11])
def cc52t:CC:=(.r [.l 12 4,.k 13 .neq 12 0])
def cc52c:CC:=(.r [.m 16 5,⟨some 17,none,[16],.build [.nils] [(0,1,.t 16)]⟩,.bx 18 17,.m 6 18])
def cc52d:CC:=(.r [.m 19 1,.m 20 6,⟨some 21,none,[19,20],.callv (.t 19) [.t 20]⟩])
def cc52e:CC:=(.r [.m 22 6,.c 23 84 [22]])
def cc52f:CC:=(.r [.si 1 4 0])
def cc52u:CC:=(.seq (.r [.l 14 4,.st 1 4 14]) CC.ret)
def cc52:CC:=.seq cc52a (.seq cc52b (.seq (.seq cc52t (.cond (.t 13) cc52u CC.skip)) (.seq CC.bad (.seq cc52c (.seq cc52d (.seq cc52e (.seq cc52f CC.ret)))))))
def cr52:List CRes:=[.cell 4 false 1]
theorem hcr52:compRes Tryz.prog Tryz.f52.results.toList=some cr52:=by kernel_rfl
theorem hcc52:Tryz.f52.body.map (compC Tryz.prog Tryz.f52.ntmps)=some cc52:=by kernel_rfl
def cc72c:CC:=(.seq (.r [.m 9 2,⟨some 10,none,[9],.conv (.ta 23) (.t 9)⟩,.m 8 10,.e 11 8 0,.e 12 8 1,.m 3 11,.m 4 12]) (.seq (.seq (.r [.m 13 4,.no 14 13]) (.cond (.t 14) (.r [.m 15 2,⟨none,none,[15],.pnk (.t 15)⟩]) CC.skip)) (.r [.m 16 3,⟨none,none,[0],.st 1 (.t 0) (.c .nils)⟩,.st 1 1 16])))
def cc72:CC:=.seq CC.bad (.seq (.r [.m 6 2,⟨some 7,none,[6],.bin .neq (some [7]) (.t 6) (.c .nili)⟩]) (.cond (.t 7) cc72c CC.skip))
theorem hcc72:Tryz.f72.body.map (compC Tryz.prog Tryz.f72.ntmps)=some cc72:=by kernel_rfl
def cc83c:CC:=(.seq (.r [.m 8 1,⟨some 9,none,[8],.conv (.ta 23) (.t 8)⟩,.m 7 9,.e 10 7 0,.e 11 7 1,.m 2 10,.m 3 11]) (.seq (.seq (.r [.m 12 3,.no 13 12]) (.cond (.t 13) (.r [.m 14 1,⟨none,none,[14],.pnk (.t 14)⟩]) CC.skip)) (.r [.m 15 2,.st 1 0 15])))
def cc83:CC:=.seq CC.bad (.seq (.r [.m 5 1,⟨some 6,none,[5],.bin .neq (some [7]) (.t 5) (.c .nili)⟩]) (.cond (.t 6) cc83c CC.skip))
theorem hcc83:Tryz.f83.body.map (compC Tryz.prog Tryz.f83.ntmps)=some cc83:=by kernel_rfl
end Go.Am
namespace Go.Am
set_option linter.all false
set_option linter.all false
open Go Go.RowKit Go.Proofs
set_option maxRecDepth 100000
def cc85:CC:=.seq (.r [.v 2 (.str [])]) (.seq (.r [.m 3 0,⟨some 4,none,[],.bslice (.int .i64 0) 1 [(0,.c (.int .i64 1))]⟩,.c 5 121 [3,4],⟨some 6,none,[5],.conv (.fld 1) (.t 5)⟩,.m 2 6]) CC.ret)
def cr85:List CRes:=[.tmp 2]
theorem hcr85:compRes Tryz.prog Tryz.f85.results.toList=some cr85:=by kernel_rfl
theorem hcc85:Tryz.f85.body.map (compC Tryz.prog Tryz.f85.ntmps)=some cc85:=by kernel_rfl
end Go.Am
