/- Histories: the laws' own deeds. No condition. -/
import Derived.Test.YtblnaikecokobaaGreatYJ
namespace Go.Am
set_option linter.all false
open Go Go.RowKit Go.Proofs
set_option maxRecDepth 100000
set_option linter.all false
theorem d_I:∀e∈evD,I64 e.n:=by unfold evD I64; simp
theorem d_e1:rawE stD0 ⟨1,0,1,0,0,[]⟩=0:=by simp[stD0,tyW,rawE,rawE0,fForm,doE,rawB,rawI,fFindB,fFindI,bs]
theorem d_s1:rawS stD0 ⟨1,0,1,0,0,[]⟩=⟨tyW,[⟨0,1,[cl0,cl0,cl0,cl0]⟩]⟩:=by simp[stD0,tyW,rawS,rawI,fFindI,bs,fldsAt,List.replicate_succ]
theorem d_e2:rawE ⟨tyW,[⟨0,1,[cl0,cl0,cl0,cl0]⟩]⟩ ⟨3,0,1,0,4,[]⟩=0:=by simp[tyW,cl0,rawE,rawE0,fForm,doE,rawB,rawI,fFindB,fFindI,bs,fOrdAt,ordI,w0,chE,fdOf,clOf,fldsAt,kindFits,chgE]
theorem d_s2:rawS ⟨tyW,[⟨0,1,[cl0,cl0,cl0,cl0]⟩]⟩ ⟨3,0,1,0,4,[]⟩=stD2:=by simp[stD2,tyW,cl0,rawS,rawI,fFindI,bs,fOrdAt,ordI,w0,fdOf,clOf,fldsAt,chgC,setC]
theorem d_e3:rawE stD2 ⟨1,1,2,0,0,[]⟩=0:=by simp[stD2,tyW,cl0,rawE,rawE0,fForm,doE,rawB,rawI,fFindB,fFindI,bs,fOrdAt,ordI,w0,fldsAt]
def stD3:Sta:=⟨tyW,[⟨0,1,[⟨4,[],[]⟩,cl0,cl0,cl0]⟩,⟨1,2,[cl0]⟩]⟩
theorem d_s3:rawS stD2 ⟨1,1,2,0,0,[]⟩=stD3:=by simp[stD2,stD3,tyW,cl0,rawS,rawI,fFindI,bs,fOrdAt,ordI,w0,fldsAt]
theorem d_e4:rawE stD3 ⟨5,0,1,2,2,[]⟩=0:=by simp[stD3,tyW,cl0,rawE,rawE0,fForm,doE,rawB,rawI,fFindB,fFindI,bs,fOrdAt,ordI,w0,chE,fdOf,clOf,fldsAt,kindFits,isLink,chgE,linkE,isThere,kindOf,findJ,iFindB,iFind]
theorem d_s4:rawS stD3 ⟨5,0,1,2,2,[]⟩=stD4:=by simp[stD3,stD4,tyW,cl0,rawS,rawI,fFindI,bs,fOrdAt,ordI,w0,fdOf,clOf,fldsAt,chgC,linkL,setC]
theorem d_b3:befE stD2 ⟨1,1,2,0,0,[]⟩=0:=by simp[befE]
theorem d_b4:befE stD3 ⟨5,0,1,2,2,[]⟩=0:=by simp[befE]
theorem d_x3:befX stD2 ⟨1,1,2,0,0,[]⟩=⟨2,1,2,0,0,[]⟩:=by simp[befX,befE,befV]
theorem d_x4:befX stD3 ⟨5,0,1,2,2,[]⟩=⟨6,0,1,2,2,[]⟩:=by simp[befX,befE,befV,stD3,tyW,cl0,clOf,fdOf,rawI,fFindI,bs,fOrdAt,ordI,w0,fldsAt]
theorem d_all:atE tyW evD 4=0∧atS tyW evD 4=stD4:=by
 have h0:(⟨tyW,[]⟩:Sta)=stD0:=rfl
 unfold atE atS evD
 rw[if_neg (by rw[chk_w]; decide),if_neg (by simp)]
 simp only[show ((4:Int).toNat)=4 from rfl,List.take,allE,allS,h0,d_e1,d_s1,d_e2,d_s2,d_e3,d_s3,d_e4,d_s4]
 simp
theorem d_at2:atE tyW evD 2=0∧atS tyW evD 2=stD2:=by
 have h0:(⟨tyW,[]⟩:Sta)=stD0:=rfl
 unfold atE atS evD
 rw[if_neg (by rw[chk_w]; decide),if_neg (by simp)]
 simp only[show ((2:Int).toNat)=2 from rfl,List.take,allE,allS,h0,d_e1,d_s1,d_e2,d_s2]
 simp
theorem d_rt2:Rt stD2:=by
 have:=rt_at (l:=tyW) (ev:=evD) (n:=2) d_I d_at2.1
 rwa [d_at2.2] at this
theorem d_rt4:Rt stD4:=by
 have:=rt_at (l:=tyW) (ev:=evD) (n:=4) d_I d_all.1
 rwa [d_all.2] at this
def evD2:List Ev:=[⟨1,1,2,0,0,[]⟩,⟨5,0,1,2,2,[]⟩]
theorem d_grp:grpE stD2 evD2=0∧allS stD2 evD2=stD4:=by
 have hr:rdyE stD2 evD2=0:=by unfold rdyE; rw[if_neg (by rw[d_rt2.st]; decide),if_neg (by unfold evD2; simp)]
 unfold grpE
 rw[if_neg (by rw[hr]; decide)]
 unfold evD2
 simp only[allE,allS,d_e3,d_s3,d_e4,d_s4]
 simp
theorem d_bak:bakE stD2 evD2=0∧bakV stD2 evD2 = .sl ([⟨6,0,1,2,2,[]⟩,⟨2,1,2,0,0,[]⟩].map eEv):=by
 have h1:bakE stD2 evD2=0:=by
  unfold bakE
  rw[if_neg (by rw[d_grp.1]; decide)]
  unfold evD2
  simp only[bkE,d_s3,d_b3,d_b4]
  rfl
 refine⟨h1,?_⟩
 unfold bakV
 rw[if_pos h1]
 unfold evD2
 simp only[bkX,d_s3,d_x3,d_x4]
 rfl
set_option maxHeartbeats 4000000 in
theorem historyBegun_ok(id:Nat):FnOk Tryz.prog 15 [] [] id (.bool true) []:=by
 have hT:=fun id=>types_ok id
 have hD:=fun id=>deeds_ok id
 have hA:=fun id=>All_ok tyW evD id d_I (by unfold evD; simp)
 have hB:=fun id=>At_ok tyW evD 2 id d_I (by unfold evD; simp)
 have hG:=fun id=>Group_ok stD2 evD2 id d_rt2.idsI (by unfold evD2 I64; simp)
 have hK:=fun id=>Back_ok stD2 evD2 id d_rt2.idsI (by unfold evD2 I64; simp)
 have hS:=fun id=>Same_self d_rt4 id
 have e4:((evD.length:Nat):Int)=4:=rfl
 rw[e4,d_all.1,d_all.2,staV_eq,if_pos rfl] at hA
 rw[d_at2.1,d_at2.2,staV_eq,if_pos rfl] at hB
 rw[d_grp.1,d_grp.2,staV_eq,if_pos rfl] at hG
 rw[d_bak.1,d_bak.2] at hK
 have hdr:List.drop 2 (List.take 4 (evD.map eEv))=evD2.map eEv:=rfl
 have hln:(evD.map eEv).length=4:=rfl
 have hcl:∀y∈evD.map eEv,y.cells.length=6:=fun y hy=>by obtain⟨a,_,rfl⟩:=List.mem_map.1 hy; rfl
 have hl4:stD4.things.length=2:=rfl
 have hl2:stD2.things.length=1:=rfl
 generalize hE1:evD.map eEv=E1 at *
 generalize hE2:evD2.map eEv=E2 at *
 unfold eSta at *
 generalize stD4=s4 at *
 generalize stD2=s2 at *
 have hp1:pureL E1=true:=by rw[←hE1]; exact pure_evs _
 have hp2:pureL E2=true:=by rw[←hE2]; exact pure_evs _
 refine fn_okc Tryz.func15 hcc15 (by decide) hcr15 (by simp[Tryz.ntmps15]) fun E hP hR hl hid=>?_
 simp only[cr15] at hR
 refine w_go 4000 ?_
 simp[cc15]
 (refine w_call hP rfl (hT _) (by simp) (by simp<;>rfl) ?_; refine w_go 4000 ?_; simp)
 (refine w_call hP rfl (hD _) (by simp) (by simp<;>rfl) ?_; refine w_go 4000 ?_; simp)
 (refine w_call hP rfl (hA _) (by simp) (by simp<;>rfl) ?_; refine w_go 4000 ?_; simp)
 (refine w_call hP rfl (hT _) (by simp) (by simp<;>rfl) ?_; refine w_go 4000 ?_; simp)
 (refine w_call hP rfl (hD _) (by simp) (by simp<;>rfl) ?_; refine w_go 4000 ?_; simp)
 (refine w_call hP rfl (hB _) (by simp) (by simp<;>rfl) ?_; refine w_go 4000 ?_; simp)
 (refine w_call hP rfl (hD _) (by simp[hdr,hln]) (by simp[hdr,hln]<;>rfl) ?_; refine w_go 4000 ?_; simp[hdr,hln])
 refine⟨hcl,?_⟩
 (refine w_call hP rfl (hG _) (by simp[hdr,hln]) (by simp[hdr,hln]<;>rfl) ?_; refine w_go 4000 ?_; simp[hdr,hln])
 (refine w_call hP rfl (hD _) (by simp[hdr,hln]) (by simp[hdr,hln]<;>rfl) ?_; refine w_go 4000 ?_; simp[hdr,hln])
 refine⟨hcl,?_⟩
 (refine w_call hP rfl (hK _) (by simp[hdr,hln]) (by simp[hdr,hln]<;>rfl) ?_; refine w_go 4000 ?_; simp[hdr,hln])
 (refine w_callg hP (by simp[hl4,hl2,eEv]) rfl (fun hc=>⟨hS _,by revert hc; simp[hl4,hl2,eEv]; try grind,by simp[hl4,hl2,eEv]⟩) ?_; refine w_go 4000 ?_; simp[hl4,hl2,eEv])
 rw[hR]; exact rt_end (by simp<;>rfl) [] trivial (end_pure (by simp) (by simp) (by simp))
end Go.Am
