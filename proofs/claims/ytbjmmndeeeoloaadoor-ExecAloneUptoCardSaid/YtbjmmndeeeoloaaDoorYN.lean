/- The law ExecAlone, the walk. No condition. -/
import Derived.Test.YtbjmmndeeeoloaaDoorYM
import Derived.Test.YtbjmmndeeeoloaaDoorYK
namespace Go.Am
set_option linter.all false
open Go Go.RowKit Go.Proofs
set_option maxRecDepth 100000
set_option linter.all false
theorem fExec_w{s:Sta}{q:List Sel}(h:fExec s q=0):qW s q≤2000:=by
 unfold fExec at h
 split at h
 ·rename_i g; exact (g h).elim
 split at h
 ·rename_i g; exact (g h).elim
 split at h
 ·assumption
 ·cases h
theorem eO_qO(s:Sta)(q:List Sel):eO (qO s q) = .agg [.int .i64 5,.int .i64 0,.str [],.sl ((q.map called).map .str),.sl ((q.map (rtO s)).map eO)]:=by
 unfold qO oMap; exact eO_eq ..
set_option maxHeartbeats 8000000 in
theorem ExecAlone_ok(s:Sta)(q:List Sel)(id:Nat)(hI:IdsE s)(hq8:szL q≤1099511627776):FnOk Tryd.prog 6 [eSta s,.sl (q.map eSel)] [] id (.bool true) []:=by
 have hQ:=fun id=>Query_ok s q id hq8
 have hSe:eSta s = .agg [.sl (s.types.map eTy),.sl (s.things.map eTg)]:=rfl
 by_cases he:fExec s q=0
 ·have hx:execO s q=eO (qO s q):=by unfold execO; rw[if_pos he]
  obtain⟨ho,hok⟩:=qO_right he
  have hW:=fExec_w he
  have hsz:=sz_qO s q
  have hC:=fun id=>oCheck_ok (qO s q) id (by omega) hok
  obtain⟨ks,ls,hqe,hkl,hll,hat⟩:∃(ks:List (List UInt8)) (ls:List Out),eO (qO s q) = .agg [.int .i64 5,.int .i64 0,.str [],.sl (ks.map .str),.sl (ls.map eO)]∧ks.length=q.length∧ls.length=q.length∧∀(i:Nat) (x:Sel),q[i]?=some x→ks[i]?=some (called x)∧ls[i]?=some (rtO s x) :=
   ⟨q.map called,q.map (rtO s),eO_qO s q,by simp,by simp,fun i x h=>by simp[List.getElem?_map,h]⟩
  rw[ho,hqe] at hC
  rw[he,hx,hqe] at hQ
  have hlen:=szL_len q
  rw[hSe] at hQ ⊢
  refine fn_okc Tryd.func6 hcc6 (by decide) hcr6 (by simp[Tryd.ntmps6]) fun E hP hR hl hid=>?_
  simp only[cr6] at hR
  refine w_go 4000 ?_
  simp[cc6]
  (refine w_call hP rfl (execBegun_ok _) (by simp) (by simp<;>rfl) ?_; refine w_go 4000 ?_; simp)
  (refine w_call hP rfl (hQ _) (by simp) (by simp<;>rfl) ?_; refine w_go 4000 ?_; simp)
  (refine w_call hP rfl (hC _) (by simp[hkl,hll]) (by simp[hkl,hll]<;>rfl) ?_; refine w_go 4000 ?_; simp[hkl,hll])
  refine w_loop (X:=Nat) (fun i=>⟨[(1,true,.sl (q.map eSel)),(2,true,.ptr E.n0 0 0),(5,true,.ptr (E.n0+1) 0 0),(7,true,.int .i64 i)],[(E.n0+1,some ⟨[.agg [.int .i64 5,.int .i64 0,.str [],.sl (ks.map .str),.sl (ls.map eO)]],.agg [.int .i64 0,.int .i64 0,.str [],.nils,.nils],false,false⟩),(E.n0,some ⟨[.agg [.sl (s.types.map eTy),.sl (s.things.map eTg)]],.agg [.sl (s.types.map eTy),.sl (s.things.map eTg)],false,false⟩)],2⟩)
   (fun i=>i≤q.length) (fun i=>q.length - i) 0 ?_ (by omega) ?_
  ·have hrn:rnOk [(E.n0+1,E.n0+10240),(E.n0,E.n0)]:=by simp
   refine Conv.sub [(E.n0+1,E.n0+10240),(E.n0,E.n0)] hrn ?_ ?_ ?_ ?_ ?_<;>(try simp)
  rintro i hi p hp
  refine w_go 4000 ?_
  simp
  refine goc (fun h=>?_) (fun h=>?_)
  ·have h:=of_decide_eq_true h
   obtain⟨x,hxx,hd⟩:=drop_cons h
   have hi1:IntKind.i64.wrap ((i:Int)+1)=((i+1:Nat):Int):=wrap64 (by omega)
   have hsl:List.drop i (List.take (i+1) (q.map eSel))=[eSel x]:=by
    rw[List.drop_take,←List.map_drop,hd,show i+1 - i=1 by omega]
    rfl
   have hx1:execO s [x] = .agg [.int .i64 5,.int .i64 0,.str [],.sl [.str (called x)],.sl [eO (rtO s x)]]:=by unfold execO; rw[if_pos (fExec_one he hxx),eO_qO]; rfl
   have hQ1:=fun id=>Query_ok s [x] id (by have:=szL_mem (List.mem_of_getElem? hxx); simp[szL]; omega)
   rw[fExec_one he hxx,hx1,hSe] at hQ1
   obtain⟨hks,hls⟩:=hat i x hxx
   have hzx:(rtO s x).sz≤1099511627776:=by
    have:=sz_rtO s x
    have h2:rtW s x≤qW s q:=by
     unfold qW rtWs
     have:=sum_at_le (l:=q) (i:=i+1) (fun x=>rtW s x)
     rw[sum_take_succ _ hxx] at this
     omega
    omega
   have hSm:=fun id=>Same_ok ((rtO s x).sz+1) (rtO s x) (rtO s x) id (by omega) hzx
   rw[decide_eq_true rfl] at hSm
   obtain⟨ok,on,ot,oks,ols,hoe⟩:∃(a b:Int) (c:List UInt8) (d:List (List UInt8)) (e:List Out),eO (rtO s x) = .agg [.int .i64 a,.int .i64 b,.str c,.sl (d.map .str),.sl (e.map eO)]:=by
    cases rtO s x with|mk a b c d e=>exact⟨a,b,c,d,e,eO_eq a b c d e⟩
   rw[hoe] at hQ1 hSm
   simp[hi1,hsl]
   refine⟨⟨fun a _=>by rw[eSel_eq]; rfl,by omega,by omega⟩,?_⟩
   (refine w_call hP rfl (hQ1 _) (by simp[hks,hls,hoe]) (by simp[hks,hls,hoe]<;>rfl) ?_; refine w_go 4000 ?_; simp[hks,hls,hoe])
   refine⟨by rw[hkl]; exact h,by rw[hll]; exact h,?_⟩
   (refine w_callg hP (by simp[hks,hls,hoe]) rfl (fun hc=>⟨hSm _,by revert hc; simp[hks,hls,hoe]; try grind,by simp[hks,hls,hoe]⟩) ?_; refine w_go 4000 ?_; simp[hks,hls,hoe])
   refine hp _ (i+1) h (by omega) ?_
   have hrn:rnOk [(E.n0+1,E.n0+1),(E.n0,E.n0)]:=by simp[hi1]
   refine Conv.sub [(E.n0+1,E.n0+1),(E.n0,E.n0)] hrn ?_ ?_ ?_ ?_ ?_<;>(try simp[hi1])
  ·simp
   rw[hR]; exact rt_end (by simp<;>rfl) [] trivial (end_pure (by simp) (by simp) (by simp))
 ·have hx:execO s q=zOut.nrm:=by unfold execO; rw[if_neg he]
  have hz:zOut.nrm = .agg [.int .i64 0,.int .i64 0,.str [],.sl [],.sl []]:=rfl
  rw[hx,hz] at hQ
  rw[hSe] at hQ ⊢
  refine fn_okc Tryd.func6 hcc6 (by decide) hcr6 (by simp[Tryd.ntmps6]) fun E hP hR hl hid=>?_
  simp only[cr6] at hR
  refine w_go 4000 ?_
  simp[cc6]
  (refine w_call hP rfl (execBegun_ok _) (by simp) (by simp<;>rfl) ?_; refine w_go 4000 ?_; simp)
  (refine w_call hP rfl (hQ _) (by simp) (by simp<;>rfl) ?_; refine w_go 4000 ?_; simp)
  refine goc_true (by simpa using he) ?_
  simp
  rw[hR]; exact rt_end (by simp<;>rfl) [] trivial (end_pure (by simp) (by simp) (by simp))
end Go.Am
