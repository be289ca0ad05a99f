/- The law ExecFits, the walk. No condition. -/
import Derived.Test.YtbjmmndeeeoloaaGreatDoorYL
import Derived.Test.YtbjmmndeeeoloaaGreatDoorYM
namespace Go.Am
set_option linter.all false
open Go Go.RowKit Go.Proofs
set_option maxRecDepth 100000
set_option linter.all false
theorem nrmL_idE{α:Type}{f:α→AV}(h:∀x,(f x).nrm=f x)(l:List α):nrmL (l.map f)=l.map f:=by
 rw[nrmL_map,List.map_map]; exact List.map_congr_left fun x _=>h x
theorem nrmE_eI(n:Int):(eI n).nrm=eI n:=rfl
theorem nrmE_eCl(c:Cl):(eCl c).nrm=eCl c:=by simp[eCl,AV.nrm,nrmL,nrmL_idE nrmE_eI]
theorem nrmE_eTg(t:Tg):(eTg t).nrm=eTg t:=by simp[eTg,AV.nrm,nrmL,nrmL_idE nrmE_eCl]
theorem nrmE_eFd(f:Fd):(eFd f).nrm=eFd f:=by simp[eFd,AV.nrm,nrmL]
theorem nrmE_eTy(t:Ty):(eTy t).nrm=eTy t:=by simp[eTy,AV.nrm,nrmL,nrmL_idE nrmE_eFd]
theorem nrmE_eSta(s:Sta):(eSta s).nrm=eSta s:=by simp[eSta,AV.nrm,nrmL,nrmL_idE nrmE_eTy,nrmL_idE nrmE_eTg]
theorem nrmE_eAg(a:Ag):(eAg a).nrm=eAg a:=by simp[eAg,AV.nrm,nrmL]
mutual
theorem nrmE_eSel:∀s:Sel,(eSel s).nrm=eSel s
 | .mk a n x k=>by simp only[eSel,AV.nrm,nrmL,nrmL_idE nrmE_eAg,nrmE_eSels k]
theorem nrmE_eSels:∀l:List Sel,nrmL (eSels l)=eSels l
 | []=>rfl
 | s::r=>by simp only[eSels,nrmL,nrmE_eSel s,nrmE_eSels r]
end
theorem nrmE_sels(l:List Sel):nrmL (l.map eSel)=l.map eSel:=nrmL_idE nrmE_eSel l
def s0(s:Sta):Sta:=⟨s.types,[]⟩
theorem fSt_s0{s:Sta}(h:fCheckT s.types=0):fSt (s0 s)=0:=by
 have hc:fCheckT (s0 s).types=0:=h
 unfold fSt
 rw[hc]
 simp[s0,firstIx,eachB]
theorem rt0(s:Sta)(x:Sel):rtO (s0 s) x=(match x.args with|[]=>oList []|_::_=>oNone)∧rtW (s0 s) x=1:=by
 unfold rtO rtW
 cases x.args with
 | nil=>simp[idsOf,s0]
 | cons a r =>
  have h:thA (s0 s) (kindOf (s0 s).types x.name) a.n=none:=by simp[thA,s0]
  refine⟨?_,?_⟩<;>simp[thO,thW,h]
theorem qW_s0(s:Sta)(q:List Sel):qW (s0 s) q=1+q.length:=by
 have:∀l:List Sel,(l.map fun x=>rtW (s0 s) x).sum=l.length:=fun l=>by
  induction l with
  | nil=>rfl
  | cons x r ih=>simp only[List.map_cons,List.sum_cons,ih,(rt0 s x).2,List.length_cons]; omega
 unfold qW rtWs
 rw[this]
theorem Query0_ok(s:Sta)(q:List Sel)(id:Nat)(hq8:szL q≤1099511627776)(h1:fCheckT s.types=0)(h2:fValid s.types q=0):FnOk Tryz.prog 9 [.agg [.sl (s.types.map eTy),.nils],.sl (q.map eSel)] [] id (.tup [eO (qO (s0 s) q),.int .i64 0]) []:=by
 have hl:=sz_query (fValid_fits h2).2.1
 have hlen:=szL_len q
 have hw:qW (s0 s) q≤2000:=by rw[qW_s0]; omega
 have he:fExec (s0 s) q=0:=by
  unfold fExec
  rw[if_neg (by simp[fSt_s0 h1]),show (s0 s).types=s.types from rfl,if_neg (by simp[h2]),if_pos hw]
 have h:=Query_ok (s0 s) q id hq8
 rw[show execO (s0 s) q=eO (qO (s0 s) q) by unfold execO; rw[if_pos he],he] at h
 refine FnOk.nrmA ?_
 have ea:nrmL [.agg [.sl (s.types.map eTy),.nils],.sl (q.map eSel)]=[eSta (s0 s),.sl (q.map eSel)]:=by
  simp[nrmL,AV.nrm,nrmL_idE nrmE_eTy,nrmE_sels,eSta,s0]
 rw[ea]
 exact h
theorem SameK_ok(k:Int)(id:Nat):FnOk Tryz.prog 11 [.agg [.int .i64 k,.int .i64 0,.str [],.sl [],.sl []],.agg [.int .i64 k,.int .i64 0,.str [],.nils,.nils]] [] id (.bool true) []:=by
 have h:=Same_ok 100 (.mk k 0 [] [] []) (.mk k 0 [] [] []) id (by simp[Out.sz,szOL]) (by simp[Out.sz,szOL])
 rw[decide_eq_true rfl] at h
 refine FnOk.nrmA ?_
 exact h
set_option maxHeartbeats 8000000 in
theorem ExecFits_ok(s:Sta)(q:List Sel)(id:Nat)(hI:IdsE s)(hq8:szL q≤1099511627776):FnOk Tryz.prog 5 [eSta s,.sl (q.map eSel)] [] id (.bool true) []:=by
 have hQ:=fun id=>Query_ok s q id hq8
 have hSt:=fun id=>CheckState_ok s id hI
 have hVq:=fun id=>vQuery_ok s.types q id hq8
 have hlen:=szL_len q
 have hz:zOut.nrm = .agg [.int .i64 0,.int .i64 0,.str [],.sl [],.sl []]:=rfl
 have hSe:eSta s = .agg [.sl (s.types.map eTy),.sl (s.things.map eTg)]:=rfl
 rw[hSe] at hQ hSt ⊢
 by_cases h1:fSt s≠0
 ·refine fn_okc Tryz.func5 hcc5 (by decide) hcr5 (by simp[Tryz.ntmps5]) fun E hP hR hl hid=>?_
  simp only[cr5] at hR
  refine w_go 4000 ?_
  simp[cc5]
  (refine w_call hP rfl (execBegun_ok _) (by simp) (by simp<;>rfl) ?_; refine w_go 4000 ?_; simp)
  (refine w_callg hP (by simp) rfl (fun hc=>⟨validBegun_ok _,by revert hc; simp; try grind,by simp⟩) ?_; refine w_go 4000 ?_; simp)
  (refine w_call hP rfl (hSt _) (by simp) (by simp<;>rfl) ?_; refine w_go 4000 ?_; simp)
  (refine w_callg hP (by simp) rfl (fun hc=>⟨hVq _,by revert hc; simp; try grind,by simp⟩) ?_; refine w_go 4000 ?_; simp)
  refine goc_true (by simp[h1]) ?_
  simp
  rw[hR]; exact rt_end (by simp<;>rfl) [] trivial (end_pure (by simp) (by simp) (by simp))
 have h1:fSt s=0:=Classical.byContradiction h1
 by_cases h2:fValid s.types q≠0
 ·rw[h1] at hSt
  refine fn_okc Tryz.func5 hcc5 (by decide) hcr5 (by simp[Tryz.ntmps5]) fun E hP hR hl hid=>?_
  simp only[cr5] at hR
  refine w_go 4000 ?_
  simp[cc5]
  (refine w_call hP rfl (execBegun_ok _) (by simp) (by simp<;>rfl) ?_; refine w_go 4000 ?_; simp)
  (refine w_callg hP (by simp) rfl (fun hc=>⟨validBegun_ok _,by revert hc; simp; try grind,by simp⟩) ?_; refine w_go 4000 ?_; simp)
  (refine w_call hP rfl (hSt _) (by simp) (by simp<;>rfl) ?_; refine w_go 4000 ?_; simp)
  (refine w_callg hP (by simp) rfl (fun hc=>⟨hVq _,by revert hc; simp; try grind,by simp⟩) ?_; refine w_go 4000 ?_; simp)
  refine goc_true (by simp[h2]) ?_
  simp
  rw[hR]; exact rt_end (by simp<;>rfl) [] trivial (end_pure (by simp) (by simp) (by simp))
 have h2:fValid s.types q=0:=Classical.byContradiction h2
 rw[h1] at hSt
 rw[h2] at hVq
 have hct:=(fValid_fits h2).1
 have hQ0:=fun id=>Query0_ok s q id hq8 hct h2
 have hq0:qO (s0 s) q = .mk 5 0 [] (q.map called) (q.map (rtO (s0 s))):=rfl
 rw[hq0,eO_eq] at hQ0
 obtain⟨e,ks,ls,k,hE,hls,he2⟩:∃(e:Int) (ks:List (List UInt8)) (ls:List Out) (k:Int),(execO s q = .agg [.int .i64 k,.int .i64 0,.str [],.sl (ks.map .str),.sl (ls.map eO)]∧fExec s q=e)∧(e=0→ls.length=q.length)∧(e=0∨e=2):=by
  by_cases h3:qW s q≤2000
  ·have he:fExec s q=0:=by unfold fExec; rw[if_neg (by simp[h1]),if_neg (by simp[h2]),if_pos h3]
   exact⟨0,q.map called,q.map (rtO s),5,⟨by unfold execO; rw[if_pos he]; exact eO_eq ..,he⟩,fun _=>by simp,.inl rfl⟩
  ·have he:fExec s q=2:=by unfold fExec; rw[if_neg (by simp[h1]),if_neg (by simp[h2]),if_neg h3]
   exact⟨2,[],[],0,⟨by unfold execO; rw[if_neg (by rw[he]; decide)]; rfl,he⟩,fun h=>by simp at h,.inr rfl⟩
 rw[hE.1,hE.2] at hQ
 refine fn_okc Tryz.func5 hcc5 (by decide) hcr5 (by simp[Tryz.ntmps5]) fun E hP hR hl hid=>?_
 simp only[cr5] at hR
 refine w_go 4000 ?_
 simp[cc5]
 (refine w_call hP rfl (execBegun_ok _) (by simp) (by simp<;>rfl) ?_; refine w_go 4000 ?_; simp)
 (refine w_callg hP (by simp) rfl (fun hc=>⟨validBegun_ok _,by revert hc; simp; try grind,by simp⟩) ?_; refine w_go 4000 ?_; simp)
 (refine w_call hP rfl (hSt _) (by simp) (by simp<;>rfl) ?_; refine w_go 4000 ?_; simp)
 (refine w_callg hP (by simp) rfl (fun hc=>⟨hVq _,by revert hc; simp; try grind,by simp⟩) ?_; refine w_go 4000 ?_; simp)
 (refine w_call hP rfl (hQ _) (by simp) (by simp<;>rfl) ?_; refine w_go 4000 ?_; simp)
 refine goc_false (by rcases he2 with e|e<;>simp[e]) ?_
 simp
 (refine w_call hP rfl (hQ0 _) (by simp) (by simp<;>rfl) ?_; refine w_go 4000 ?_; simp)
 refine goc_false (by
  by_cases g:e=0
  ·simp[g,hls g]
  ·simp[g]) ?_
 simp
 refine w_loop (X:=Nat) (fun i=>⟨[(1,true,.sl (q.map eSel)),(7,true,.ptr E.n0 0 0),(9,true,.int .i64 i)],[(E.n0,some ⟨[.agg [.int .i64 5,.int .i64 0,.str [],.sl (q.map (AV.str∘called)),.sl (q.map (eO∘rtO (s0 s)))]],.agg [.int .i64 0,.int .i64 0,.str [],.nils,.nils],false,false⟩)],1⟩) (fun i=>i≤q.length) (fun i=>q.length - i) 0 ?_ (by omega) ?_
 ·have hrn:rnOk [(E.n0,E.n0+41984)]:=by simp
  refine Conv.sub [(E.n0,E.n0+41984)] hrn ?_ ?_ ?_ ?_ ?_<;>(try simp)
  exact namesL_pure _ (pureL_map (fun _=>pure_eO _) _)
 rintro i hi p hp
 refine w_go 4000 ?_
 simp
 refine goc (fun h=>?_) (fun h=>?_)
 ·have h:=of_decide_eq_true h
  obtain⟨x,hx,hd⟩:=drop_cons h
  have hi1:IntKind.i64.wrap ((i:Int)+1)=((i+1:Nat):Int):=wrap64 (by omega)
  have hr:=(rt0 s x).1
  cases hxa:x.args with
  | nil =>
   rw[hxa] at hr
   have hlit:eO (rtO (s0 s) x) = .agg [.int .i64 4,.int .i64 0,.str [],.sl [],.sl []]:=by rw[hr]; rfl
   simp[hx,eSel_eq x,hxa,hlit]
   refine⟨h,?_⟩
   (refine w_call hP rfl (SameK_ok 4 _) (by simp[hx,eSel_eq x,hxa,hlit]) (by simp[hx,eSel_eq x,hxa,hlit]<;>rfl) ?_; refine w_go 4000 ?_; simp[hx,eSel_eq x,hxa,hlit])
   refine hp _ (i+1) h (by omega) ?_
   have hrn:rnOk [(E.n0,E.n0)]:=by simp[hi1]
   refine Conv.sub [(E.n0,E.n0)] hrn ?_ ?_ ?_ ?_ ?_<;>(try simp[hi1])
   exact namesL_pure _ (pureL_map (fun _=>pure_eO _) _)
  | cons ag rg =>
   rw[hxa] at hr
   have hlit:eO (rtO (s0 s) x) = .agg [.int .i64 1,.int .i64 0,.str [],.sl [],.sl []]:=by rw[hr]; rfl
   have hr0:(0:Int)<(rg.length:Int)+1:=by omega
   simp[hx,eSel_eq x,hxa,hlit,hr0]
   refine⟨h,?_⟩
   (refine w_call hP rfl (SameK_ok 1 _) (by simp[hx,eSel_eq x,hxa,hlit]) (by simp[hx,eSel_eq x,hxa,hlit]<;>rfl) ?_; refine w_go 4000 ?_; simp[hx,eSel_eq x,hxa,hlit])
   refine hp _ (i+1) h (by omega) ?_
   have hrn:rnOk [(E.n0,E.n0)]:=by simp[hi1]
   refine Conv.sub [(E.n0,E.n0)] hrn ?_ ?_ ?_ ?_ ?_<;>(try simp[hi1])
   exact namesL_pure _ (pureL_map (fun _=>pure_eO _) _)
 ·simp
  rw[hR]; exact rt_end (by simp<;>rfl) [] trivial (end_pure (by simp) (by simp) (by simp))
end Go.Am
