/- What the laws of queries answered look at first. No condition. -/
import Derived.Test.YtbjmmndeeeoloaaDoorYJ
import Derived.Test.YtbjmmndeeeoloaaDoorYC
import Derived.Test.YtbjmmndeeeoloaaDoorYE
import Derived.Test.YtbjmmndeeeoloaaDoorXD
namespace Go.Am
set_option linter.all false
open Go Go.RowKit Go.Proofs
set_option maxRecDepth 100000
set_option linter.all false
def tyW:List Ty:=[⟨[65],[⟨[110],1,[]⟩,⟨[116],2,[]⟩,⟨[98],3,[66]⟩,⟨[108],4,[65]⟩]⟩,⟨[66],[⟨[109],1,[]⟩]⟩]
theorem types_ok(id:Nat):FnOk Tryd.prog 45 [] [] id (.sl (tyW.map eTy)) []:=by
 unfold tyW
 simp only[List.map_cons,List.map_nil,eTy,eFd]
 refine fn_okc Tryd.func45 hcc45 (by decide) hcr45 (by simp[Tryd.ntmps45]) fun E hP hR hl hid=>?_
 simp only[cr45] at hR
 refine w_go 4000 ?_
 simp[cc45]
 have hrn:rnOk []:=by simp[idO hid]
 rw[hR]
 refine rt_endR (by simp<;>rfl) (by simp[idO hid]<;>exact⟨rfl,rfl⟩) [] hrn ⟨?_,?_,?_,?_,?_,?_⟩<;>(try simp[idO hid])
 exact namesL_pure _ rfl
def clW:Cl:=⟨0,[],[]⟩
def stW:Sta:=⟨tyW,[⟨0,3,[⟨5,[],[]⟩,⟨0,[120],[]⟩,⟨0,[],[1]⟩,⟨0,[],[3,4]⟩]⟩,⟨0,4,[clW,clW,clW,clW]⟩,⟨1,1,[⟨-1,[],[]⟩]⟩]⟩
set_option maxHeartbeats 2000000 in
theorem world_raw(id:Nat):FnOk Tryd.prog 25 [] [] id (.agg [.sl (tyW.map eTy),.sl [.agg [.int .i64 0,.int .i64 3,.sl [.agg [.int .i64 5,.str [],.nils],.agg [.int .i64 0,.str [120],.nils],.agg [.int .i64 0,.str [],.sl [.int .i64 1]],.agg [.int .i64 0,.str [],.sl [.int .i64 3,.int .i64 4]]]],
  .agg [.int .i64 0,.int .i64 4,.sl [.agg [.int .i64 0,.str [],.nils],.agg [.int .i64 0,.str [],.nils],.agg [.int .i64 0,.str [],.nils],.agg [.int .i64 0,.str [],.nils]]],.agg [.int .i64 1,.int .i64 1,.sl [.agg [.int .i64 (-1),.str [],.nils]]]]]) []:=by
 refine fn_okc Tryd.func25 hcc25 (by decide) hcr25 (by simp[Tryd.ntmps25]) fun E hP hR hl hid=>?_
 simp only[cr25] at hR
 refine w_go 4000 ?_
 simp[cc25]
 (refine w_call hP rfl (types_ok _) (by simp) (by simp<;>rfl) ?_; refine w_go 4000 ?_; simp)
 have hrn:rnOk []:=by simp[idO hid]
 rw[hR]
 refine rt_endR (by simp<;>rfl) (by simp[idO hid]<;>exact⟨rfl,rfl⟩) [] hrn ⟨?_,?_,?_,?_,?_,?_⟩<;>(try simp[idO hid])
 exact namesL_pure _ rfl
theorem world_ok(id:Nat):FnOk Tryd.prog 25 [] [] id (eSta stW) []:=(world_raw id).nrm
def lookW:List Sel:=[.mk [] [65] [] [.mk [] [105,100] [] [],.mk [107] [108] [⟨[102,105,114,115,116],false,[],1⟩] [.mk [] [110] [] []],.mk [] [98] [] [.mk [] [109] [] []]]]
theorem val_look:fValid tyW lookW=0:=by decide
theorem sz_look:szL lookW=7:=by decide
theorem look_raw(id:Nat):FnOk Tryd.prog 26 [] [] id (.sl [.agg [.str [],.str [65],.nils,.sl [.agg [.str [],.str [105,100],.nils,.nils],.agg [.str [107],.str [108],.sl [.agg [.str [102,105,114,115,116],.bool false,.str [],.int .i64 1]],.sl [.agg [.str [],.str [110],.nils,.nils]]],.agg [.str [],.str [98],.nils,.sl [.agg [.str [],.str [109],.nils,.nils]]]]]]) []:=by
 refine fn_okc Tryd.func26 hcc26 (by decide) hcr26 (by simp[Tryd.ntmps26]) fun E hP hR hl hid=>?_
 simp only[cr26] at hR
 refine w_go 4000 ?_
 simp[cc26]
 have hrn:rnOk []:=by simp[idO hid]
 rw[hR]
 refine rt_endR (by simp<;>rfl) (by simp[idO hid]<;>exact⟨rfl,rfl⟩) [] hrn ⟨?_,?_,?_,?_,?_,?_⟩<;>(try simp[idO hid])
 exact namesL_pure _ rfl
theorem look_ok(id:Nat):FnOk Tryd.prog 26 [] [] id (.sl (lookW.map eSel)) []:=(look_raw id).nrm
theorem w0(x:Int)(h : -9223372036854775808≤x∧x≤9223372036854775807):IntKind.i64.wrap x=x:=wrap64 h
theorem chk_w:fCheckT tyW=0:=by decide
theorem st_w:fSt stW=0:=by
 have:=chk_w
 unfold tyW at this
 simp[fSt,stW,this,firstIx,fTh1,fThing,fldsAt,tyW,cellAt,fCell,clW,isLink,mostI,ascB,fOrdAt,ordI,w0,eachB,cellsB,isThere,kindOf,findJ,fFindB,fFindI,bs]
def outW:Out:=oMap [[65]] [oList [oMap [[105,100],[107],[98]] [oNum 3,oList [oMap [[110]] [oNum 5]],oMap [[109]] [oNum (-1)]],oMap [[105,100],[107],[98]] [oNum 4,oList [],oNone]]]
theorem q_o:qO stW lookW=outW:=by
 simp[qO,lookW,outW,oMap,oList,oNum,oNone,rtO,idsOf,stW,tyW,kindOf,findJ,thO,thA,fFindB,fFindI,bs,fOrdAt,ordI,w0,oL,oS,called,fcOf,fldsAt,tId,takeA,clW,Sel.alias,Sel.name,Sel.args,Sel.kids]
theorem q_w:qW stW lookW=13:=by
 simp[qW,rtWs,lookW,rtW,idsOf,stW,tyW,kindOf,findJ,thW,thA,fFindB,fFindI,bs,fOrdAt,ordI,w0,wL,wS,fcOf,fldsAt,tId,takeA,clW,Sel.alias,Sel.name,Sel.args,Sel.kids]
theorem out_w:fOut outW=0:=by decide
theorem okO_w:okO outW:=by simp[okO,okOs,outW,oMap,oList,oNum,oNone]
theorem sz_w:outW.sz≤1000:=by decide
def txtW:List UInt8:=[123,34,65,34,58,91,123,34,105,100,34,58,51,44,34,107,34,58,91,123,34,110,34,58,53,125,93,44,34,98,34,58,123,34,109,34,58,45,49,125,125,44,123,34,105,100,34,58,52,44,34,107,34,58,91,93,44,34,98,34,58,110,117,108,108,125,93,125]
theorem jS_w:jS outW=txtW:=by
 simp[jS,jM,jL,outW,oMap,oList,oNum,oNone,quoted,qL,qB,Lib.join,Lib.itoa,Lib.decDigits,txtW,List.intercalate,List.intersperse]
theorem outW_lit:eO outW = .agg [.int .i64 5,.int .i64 0,.str [],.sl (outW.keys.map .str),.sl (outW.kids.map eO)]:=eO_of outW
theorem execBegun_ok(id:Nat):FnOk Tryd.prog 15 [] [] id (.bool true) []:=by
 have hf:fExec stW lookW=0:=by
  unfold fExec
  rw[if_neg (by rw[st_w]; decide),if_neg (by rw[show stW.types=tyW from rfl,val_look]; decide),if_pos (by rw[q_w]; decide)]
 have hQ:=fun id=>Query_ok stW lookW id (by rw[sz_look]; omega)
 rw[show execO stW lookW=eO outW by unfold execO; rw[if_pos hf,q_o],hf] at hQ
 have hPr:=fun id=>jPrint_ok outW id (by have:=sz_w; omega) okO_w
 rw[show fPrint outW=txtW by unfold fPrint; rw[if_pos out_w,jS_w],out_w] at hPr
 have hC:=fun id=>oCheck_ok outW id (by have:=sz_w; omega) okO_w
 rw[out_w] at hC
 rw[outW_lit] at hQ hPr hC
 generalize outW.keys=ks at *
 generalize outW.kids=ls at *
 unfold txtW at hPr
 refine fn_okc Tryd.func15 hcc15 (by decide) hcr15 (by simp[Tryd.ntmps15]) fun E hP hR hl hid=>?_
 simp only[cr15] at hR
 refine w_go 4000 ?_
 simp[cc15]
 (refine w_call hP rfl (world_ok _) (by simp) (by simp<;>rfl) ?_; refine w_go 4000 ?_; simp)
 (refine w_call hP rfl (look_ok _) (by simp) (by simp<;>rfl) ?_; refine w_go 4000 ?_; simp)
 (refine w_call hP rfl (hQ _) (by simp) (by simp<;>rfl) ?_; refine w_go 4000 ?_; simp)
 (refine w_call hP rfl (hPr _) (by simp) (by simp<;>rfl) ?_; refine w_go 4000 ?_; simp)
 (refine w_callg hP (by simp) rfl (fun hc=>⟨hC _,by revert hc; simp; try grind,by simp⟩) ?_; refine w_go 4000 ?_; simp)
 rw[hR]; exact rt_end (by simp<;>rfl) [] trivial (end_pure (by simp) (by simp) (by simp))
end Go.Am
