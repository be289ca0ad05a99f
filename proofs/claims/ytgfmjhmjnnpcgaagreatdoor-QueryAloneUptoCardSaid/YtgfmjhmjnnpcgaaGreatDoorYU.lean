/- The verifier: a list of selects is the same as itself; the query laws: what must be in any case. No condition. -/
import Derived.Test.YtgfmjhmjnnpcgaaGreatDoorYT
import Derived.KernelRfl
namespace Go.Am
set_option linter.all false
open Go Go.RowKit Go.Proofs
set_option maxRecDepth 100000
set_option linter.all false
set_option maxHeartbeats 8000000 in
theorem same_sels:∀(n:Nat) (l:List Sel) (id:Nat),szL l<n→szL l≤1099511627776→FnOk Tryz.prog 36 [.sl (l.map eSel),.sl (l.map eSel)] [] id (.bool true) []:=by
 intro n
 induction n with
 | zero=>intro l id h; omega
 | succ n ih =>
  intro l id hn h8
  have hll:=szL_len l
  refine fn_okc Tryz.func36 hcc36 (by decide) hcr36 (by simp[Tryz.ntmps36]) fun E hP hR hl hid=>?_
  simp only[cr36] at hR
  refine w_go 4000 ?_
  simp[cc36]
  refine w_loop (X:=Nat) (fun i=>⟨[(0,true,.sl (l.map eSel)),(1,true,.sl (l.map eSel)),(5,true,.int .i64 i)],[],0⟩) (fun i=>i≤l.length) (fun i=>l.length - i) 0 ?_ (by omega) ?_
  ·have hrn:rnOk []:=by simp
   refine Conv.sub [] hrn ?_ ?_ ?_ ?_ ?_<;>(try simp)
  rintro i hi p hp
  rcases Nat.lt_or_ge i l.length with h|h
  rotate_left
  ·refine w_go 4000 ?_
   simp[Nat.not_lt.2 h]
   rw[hR]; exact rt_end (by simp<;>rfl) [] trivial (end_pure (by simp) (by simp) (by simp))
  obtain⟨s,hs,hd⟩:=drop_cons h
  have hli:l[i]=s:=by
   rw[List.getElem?_eq_getElem h] at hs
   injection hs
  have hi1:IntKind.i64.wrap ((i:Int)+1)=((i+1:Nat):Int):=wrap64 (by omega)
  have hoe:=eSel_eq s
  have hsm:=List.mem_of_getElem? hs
  have hsz:=szL_mem hsm
  have hse:=sz_eq s
  have hK:=fun id=>ih s.kids id (by omega) (by omega)
  refine w_go 4000 ?_
  simp[h,hli,hoe]
  (refine w_callg hP (by simp[h,hli,hoe]) rfl (fun hc=>⟨hK _,by revert hc; simp[h,hli,hoe]; try grind,by simp[h,hli,hoe]⟩) ?_; refine w_go 4000 ?_; simp[h,hli,hoe])
  refine w_loop (X:=Nat) (fun k=>⟨[(0,true,.sl (l.map eSel)),(1,true,.sl (l.map eSel)),(5,true,.int .i64 i),(6,true,.int .i64 k)],[],0⟩) (fun k=>k≤s.args.length) (fun k=>s.args.length - k) 0 ?_ (by omega) ?_
  ·have hrn:rnOk []:=by simp
   refine Conv.sub [] hrn ?_ ?_ ?_ ?_ ?_<;>(try simp)
  rintro k hk p2 hp2
  rcases Nat.lt_or_ge k s.args.length with h2|h2
  rotate_left
  ·refine w_go 4000 ?_
   simp[h,hli,hoe,Nat.not_lt.2 h2]
   refine hp _ (i+1) h (by omega) ?_
   have hrn:rnOk []:=by simp[hi1]
   refine Conv.sub [] hrn ?_ ?_ ?_ ?_ ?_<;>(try simp[hi1])
  obtain⟨a,ha,had⟩:=drop_cons h2
  have hla:s.args[k]=a:=by
   rw[List.getElem?_eq_getElem h2] at ha
   injection ha
  have hag:eAg a = .agg [.str a.name,.bool a.isText,.str a.text,.int .i64 a.n]:=rfl
  have hk1:IntKind.i64.wrap ((k:Int)+1)=((k+1:Nat):Int):=wrap64 (by omega)
  refine w_go 4000 ?_
  simp[h,hli,hoe,h2,hla,hag,eqAll,eqOne]
  refine hp2 _ (k+1) h2 (by omega) ?_
  have hrn:rnOk []:=by simp[hk1]
  refine Conv.sub [] hrn ?_ ?_ ?_ ?_ ?_<;>(try simp[hk1])
theorem same_selsK(l:List Sel)(id:Nat)(h:szL l≤1099511627776):FnOk Tryz.prog 36 [.sl (l.map eSel),.sl (l.map eSel)] [] id (.bool true) []:=same_sels (szL l+1) l id (by omega) h
def askW:List Sel:=[.mk [120] [65] [⟨[105,100],false,[],3⟩] [.mk [] [105,100] [] [],.mk [] [110] [] []]]
def aqW:List UInt8:=[123,32,120,58,32,65,40,105,100,58,32,51,41,32,123,32,105,100,32,110,32,125,32,125]
def apW:List UInt8:=[123,32,120,32,58,32,65,32,40,32,105,100,32,58,32,51,32,41,32,123,32,105,100,32,110,32,125,32,125]
theorem ask_raw(id:Nat):FnOk Tryz.prog 63 [] [] id (.sl [.agg [.str [120],.str [65],.sl [.agg [.str [105,100],.bool false,.str [],.int .i64 3]],.sl [.agg [.str [],.str [105,100],.nils,.nils],.agg [.str [],.str [110],.nils,.nils]]]]) []:=by
 refine fn_okc Tryz.func63 hcc63 (by decide) hcr63 (by simp[Tryz.ntmps63]) fun E hP hR hl hid=>?_
 simp only[cr63] at hR
 refine w_go 4000 ?_
 simp[cc63]
 have hrn:rnOk []:=by simp[idO hid]
 rw[hR]
 refine rt_endR (by simp<;>rfl) (by simp[idO hid]<;>exact⟨rfl,rfl⟩) [] hrn ⟨?_,?_,?_,?_,?_,?_⟩<;>(try simp[idO hid])
 all_goals exact namesL_pure _ rfl
theorem ask_ok(id:Nat):FnOk Tryz.prog 63 [] [] id (.sl (askW.map eSel)) []:=(ask_raw id).nrm
theorem fq_aqW:fQry aqW = .ok askW:=by kernel_rfl
theorem pr_askW:qPr askW=(apW,0):=by kernel_rfl
theorem chk_askW:fQuery askW=0:=by kernel_rfl
theorem fq_noW:fQry [123,32,125] = .error 1:=by kernel_rfl
theorem wri_ask:∀t∈tkSels askW,Wri t:=by
 have e:tkSels askW=[tkS 123,tkW [120],tkS 58,tkW [65],tkS 40,tkW [105,100],tkS 58,⟨2,[],3⟩,tkS 41,tkS 123,tkW [105,100],tkW [110],tkS 125,tkS 125]:=by rfl
 rw[e]
 intro t ht
 simp only[List.mem_cons,List.not_mem_nil,or_false] at ht
 rcases ht with rfl|rfl|rfl|rfl|rfl|rfl|rfl|rfl|rfl|rfl|rfl|rfl|rfl|rfl
 all_goals first|exact wri_s _|exact wri_w _|exact wri_num 3 [] (by decide)
set_option maxHeartbeats 4000000 in
theorem queryBegun_ok(id:Nat):FnOk Tryz.prog 29 [] [] id (.bool true) []:=by
 have hR:=fun id=>qRead_ok aqW id
 rw[fq_aqW] at hR
 have hRd:∀id,FnOk Tryz.prog 31 [.str aqW] [] id (.tup [.sl (askW.map eSel),.int .i64 0]) []:=hR
 have hR2:=fun id=>qRead_ok [123,32,125] id
 rw[fq_noW] at hR2
 have hR2:∀id,FnOk Tryz.prog 31 [.str [123,32,125]] [] id (.tup [.nils,.int .i64 1]) []:=hR2
 have hPr:=fun id=>qPrint_ok askW id (by decide) fun _=>wri_ask
 rw[pr_askW] at hPr
 have hC:=fun id=>qCheck_ok askW id (by decide)
 rw[chk_askW] at hC
 have hS:=fun id=>same_selsK askW id (by decide)
 have hTy:=fun id=>ask_ok id
 clear hR
 generalize htw:askW=tw at *
 unfold aqW at hRd
 refine fn_okc Tryz.func29 hcc29 (by decide) hcr29 (by simp[Tryz.ntmps29]) fun E hP hR hl hid=>?_
 simp only[cr29] at hR
 refine w_go 4000 ?_
 simp[cc29]
 (refine w_call hP rfl (hRd _) (by simp) (by simp<;>rfl) ?_; refine w_go 4000 ?_; simp)
 (refine w_call hP rfl (hTy _) (by simp) (by simp<;>rfl) ?_; refine w_go 4000 ?_; simp)
 (refine w_call hP rfl (hPr _) (by simp) (by simp<;>rfl) ?_; refine w_go 4000 ?_; simp)
 (refine w_call hP rfl (hR2 _) (by simp) (by simp<;>rfl) ?_; refine w_go 4000 ?_; simp)
 (refine w_callg hP (by simp) rfl (fun hc=>⟨hTy _,by revert hc; simp; try grind,by simp⟩) ?_; refine w_go 4000 ?_; simp)
 (refine w_callg hP (by simp) rfl (fun hc=>⟨hC _,by revert hc; simp; try grind,by simp⟩) ?_; refine w_go 4000 ?_; simp)
 (refine w_callg hP (by simp) rfl (fun hc=>⟨hTy _,by revert hc; simp; try grind,by simp⟩) ?_; refine w_go 4000 ?_; simp)
 (refine w_callg hP (by simp) rfl (fun hc=>⟨hS _,by revert hc; simp; try grind,by simp⟩) ?_; refine w_go 4000 ?_; simp)
 simp[apW]
 rw[hR]; exact rt_end (by simp<;>rfl) [] trivial (end_pure (by simp) (by simp) (by simp))
end Go.Am
