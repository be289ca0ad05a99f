/- Parts of the proof: an abstract machine for Go functions, and what functions of the program give back (Ch12, Ch13). No condition. -/
import Derived.Test.YtblnaikecokobaaGreatZB
import Derived.Test.YtblnaikecokobaaGreatYJ
namespace Go.Am
set_option linter.all false
open Go Go.RowKit Go.Proofs
set_option maxRecDepth 100000
set_option linter.all false
def alW:List Sel:=[.mk [112] [109,97,107,101] [⟨[116,121,112,101],true,[65],0⟩,⟨[105,100],false,[],9⟩] [],.mk [] [115,101,116] [⟨[105,100],false,[],9⟩,⟨[116,121,112,101],true,[65],0⟩,⟨[102,105,101,108,100],true,[116],0⟩,⟨[116,101,120,116],true,[110,101,119],0⟩] []]
theorem alter1_ok(n t:List UInt8)(id:Nat):FnOk Tryz.prog 66 [.str n,.str t] [] id (.agg [.str n,.bool true,.str t,.int .i64 0]) []:=by
 refine fn_okc Tryz.func66 hcc66 (by decide) hcr66 (by simp[Tryz.ntmps66]) fun E hP hR hl hid=>?_
 simp only[cr66] at hR
 refine w_go 4000 ?_
 simp[cc66]
 rw[hR]; exact rt_end (by simp<;>rfl) [] trivial (end_pure (by simp) (by simp) (by simp))
theorem alter_raw(id:Nat):FnOk Tryz.prog 34 [] [] id (.sl [.agg [.str [112],.str [109,97,107,101],.sl [.agg [.str [116,121,112,101],.bool true,.str [65],.int .i64 0],.agg [.str [105,100],.bool false,.str [],.int .i64 9]],.nils],.agg [.str [],.str [115,101,116],.sl [.agg [.str [105,100],.bool false,.str [],.int .i64 9],.agg [.str [116,121,112,101],.bool true,.str [65],.int .i64 0],.agg [.str [102,105,101,108,100],.bool true,.str [116],.int .i64 0],.agg [.str [116,101,120,116],.bool true,.str [110,101,119],.int .i64 0]],.nils]]) []:=by
 refine fn_okc Tryz.func34 hcc34 (by decide) hcr34 (by simp[Tryz.ntmps34]) fun E hP hR hl hid=>?_
 simp only[cr34] at hR
 refine w_go 4000 ?_
 simp[cc34]
 refine w_callv hP rfl rfl (alter1_ok _ _ _) (by simp) (by simp<;>rfl) ?_
 refine w_go 4000 ?_
 simp
 refine w_callv hP rfl rfl (alter1_ok _ _ _) (by simp) (by simp<;>rfl) ?_
 refine w_go 4000 ?_
 simp
 refine w_callv hP rfl rfl (alter1_ok _ _ _) (by simp) (by simp<;>rfl) ?_
 refine w_go 4000 ?_
 simp
 refine w_callv hP rfl rfl (alter1_ok _ _ _) (by simp) (by simp<;>rfl) ?_
 refine w_go 4000 ?_
 simp
 have hrn:rnOk []:=by simp[idO hid]
 rw[hR]
 refine rt_endR (by simp<;>rfl) (by simp[idO hid]<;>exact⟨rfl,rfl⟩) [] hrn ⟨?_,?_,?_,?_,?_,?_⟩<;>(try simp[idO hid])
 exact namesL_pure _ rfl
theorem alter_ok(id:Nat):FnOk Tryz.prog 34 [] [] id (.sl (alW.map eSel)) []:=(alter_raw id).nrm
def evA1:Ev:=⟨1,0,9,0,0,[]⟩
def evA2:Ev:=⟨4,0,9,1,0,[110,101,119]⟩
def stM1:Sta:=⟨tyW,[⟨0,3,[⟨5,[],[]⟩,⟨0,[120],[]⟩,⟨0,[],[1]⟩,⟨0,[],[3,4]⟩]⟩,⟨0,4,[cl0,cl0,cl0,cl0]⟩,⟨0,9,[cl0,cl0,cl0,cl0]⟩,⟨1,1,[⟨-1,[],[]⟩]⟩]⟩
def stM2:Sta:=⟨tyW,[⟨0,3,[⟨5,[],[]⟩,⟨0,[120],[]⟩,⟨0,[],[1]⟩,⟨0,[],[3,4]⟩]⟩,⟨0,4,[cl0,cl0,cl0,cl0]⟩,⟨0,9,[cl0,⟨0,[110,101,119],[]⟩,cl0,cl0]⟩,⟨1,1,[⟨-1,[],[]⟩]⟩]⟩
theorem q_al:fQuery alW=0:=by decide
theorem of_al:ofE tyW alW=0:=by decide
theorem ev_ext{a b:Ev}(h1:a.kind=b.kind)(h2:a.type=b.type)(h3:a.id=b.id)(h4:a.field=b.field)(h5:a.n=b.n)(h6:a.text=b.text):a=b:=by
 cases a; cases b; simp_all
theorem evs_al:evsOf tyW alW=[evA1,evA2]:=by
 show [mkX tyW _,mkX tyW _]=_
 rw[ev_ext (a:=mkX tyW (.mk [112] [109,97,107,101] _ _)) (b:=evA1) (by decide) (by decide) (by decide) (by decide) (by decide) (by decide),ev_ext (a:=mkX tyW (.mk [] [115,101,116] _ _)) (b:=evA2) (by decide) (by decide) (by decide) (by decide) (by decide) (by decide)]
theorem raw_m1:rawE stW evA1=0:=by simp[evA1,stW,tyW,cl0,rawE,rawE0,fForm,doE,rawB,rawI,fFindB,fFindI,bs,fOrdAt,ordI,w0,fldsAt]
theorem raw_m1s:rawS stW evA1=stM1:=by simp[evA1,stW,stM1,tyW,cl0,rawS,rawI,fFindI,bs,fOrdAt,ordI,w0,fldsAt,List.replicate_succ]
theorem raw_m2:rawE stM1 evA2=0:=by simp[evA2,stM1,tyW,cl0,rawE,rawE0,fForm,doE,rawB,rawI,fFindB,fFindI,bs,fOrdAt,ordI,w0,chE,fdOf,clOf,fldsAt,kindFits,chgE]
theorem raw_m2s:rawS stM1 evA2=stM2:=by simp[evA2,stM1,stM2,tyW,cl0,rawS,rawI,fFindI,bs,fOrdAt,ordI,w0,fdOf,clOf,fldsAt,chgC,setC]
theorem ch_al:cvE stW alW=0:=by
 have h:rdE stW alW=0:=by unfold rdE; rw[if_neg (by rw[st_w]; decide)]; exact q_al
 unfold cvE
 rw[if_neg (by rw[h]; decide)]
 exact of_al
theorem al_all:allE stW [evA1,evA2]=0∧allS stW [evA1,evA2]=stM2:=by
 simp only[allE,allS,raw_m1,raw_m1s,raw_m2,raw_m2s]
 simp
end Go.Am
namespace Go.Am
set_option linter.all false
open Go Go.RowKit Go.Proofs
set_option maxRecDepth 100000
set_option linter.all false
set_option maxHeartbeats 4000000 in
theorem changeBegun_ok(id:Nat):FnOk Tryz.prog 12 [] [] id (.bool true) []:=by
 have hW:=fun id=>world_ok id
 have hA:=fun id=>alter_ok id
 have hE:=fun id=>Events_ok stW alW id (by decide)
 have hD:=fun id=>cDo_ok stW alW id (by unfold IdsI I64 stW cl0; simp) (by decide)
 have hS:=fun id=>Evs_self [evA1,evA2] id (by simp)
 have h0:cdE stW alW=0:=by unfold cdE; rw[if_neg (by rw[ch_al]; decide),show stW.types=tyW from rfl,evs_al]; exact al_all.1
 rw[ch_al,show stW.types=tyW from rfl,evs_al] at hE
 rw[h0,show stW.types=tyW from rfl,evs_al,al_all.2] at hD
 rw[show evV 0 [evA1,evA2] = .sl ([evA1,evA2].map eEv) from rfl] at hE hD
 rw[staV_eq,if_pos rfl] at hD
 simp only[List.map_cons,List.map_nil,eEv,evA1,evA2] at hE hD hS
 have hln:(stM2.things.map eTg).length=4:=rfl
 unfold eSta at *
 have hpT:pureL (stM2.things.map eTg)=true:=pure_tgs _
 generalize stM2.things.map eTg=TG at *
 refine fn_okc Tryz.func12 hcc12 (by decide) hcr12 (by simp[Tryz.ntmps12]) fun E hP hR hl hid=>?_
 simp only[cr12] at hR
 refine w_go 4000 ?_
 simp[cc12]
 (refine w_call hP rfl (hW _) (by simp) (by simp<;>rfl) ?_; refine w_go 4000 ?_; simp)
 (refine w_call hP rfl (hA _) (by simp) (by simp<;>rfl) ?_; refine w_go 4000 ?_; simp)
 (refine w_call hP rfl (hE _) (by simp) (by simp<;>rfl) ?_; refine w_go 4000 ?_; simp)
 (refine w_call hP rfl (hW _) (by simp) (by simp<;>rfl) ?_; refine w_go 4000 ?_; simp)
 (refine w_call hP rfl (hA _) (by simp) (by simp<;>rfl) ?_; refine w_go 4000 ?_; simp)
 (refine w_call hP rfl (hD _) (by simp) (by simp<;>rfl) ?_; refine w_go 4000 ?_; simp)
 refine w_split (.bool true) (by simp) (fun _=>?_) (fun hg=>by simp at hg)
 (refine w_callR hP rfl (hS _) (by simp<;>rfl) (by simp) (by simp<;>rfl) (by simp) ?_; refine w_go 4000 ?_; simp)
 (refine w_callg hP (by simp[hln]) rfl (fun hc=>⟨hS _,by revert hc; simp[hln]; try grind,by simp[hln]⟩) ?_; refine w_go 4000 ?_; simp[hln])
 rw[hR]; exact rt_end (by simp<;>rfl) [] trivial (end_pure (by simp) (by simp) (by simp))
end Go.Am
