/- Parts of the proof: an abstract machine for Go functions, and what functions of the program give back (Jt10, Jt11). No condition. -/
import Derived.Test.YthghjjancoopoaaDoorZI
import Derived.Test.YthghjjancoopoaaDoorZD
namespace Go.Am
set_option linter.all false
open Go Go.RowKit Go.Proofs
set_option maxRecDepth 100000
set_option linter.all false
theorem cut_other{r w w':List UInt8}{c d:UInt8}(h:cutB r (c::w)=true)(hd:c≠d):cutB r (d::w')=false:=by
 rw[cut_eq h]
 exact cut_ne hd
theorem at_all:∀n,AtIs n:=fun n=>by
 induction n using Nat.strongRecOn with
 | _ n ih =>
  cases n with
  | zero=>intro s a id ha hn; omega
  | succ n =>
   intro s a id ha hn h8
   have hO:∀m,m<n→AtIs m:=fun m hm=>ih m (by omega)
   by_cases g3:cutB (s.drop a) [91]=true
   ·exact at_list hO s a id ha (by omega) h8 (cut_other g3 (by decide)) (cut_other g3 (by decide)) g3
   have g3:cutB (s.drop a) [91]=false:=by simpa using g3
   by_cases g4:cutB (s.drop a) [123]=true
   ·exact at_map hO s a id ha (by omega) h8 (cut_other g4 (by decide)) (cut_other g4 (by decide)) g3 g4
   have g4:cutB (s.drop a) [123]=false:=by simpa using g4
   exact at_plain s a id ha h8 g3 g4
def fOutOf(s:List UInt8):Out×Int:=match pAll s with
 | none=>(oZ,1)
 | some o=>if fOut o=0 then (o,0) else (oZ,fOut o)
theorem fOutOf_eq{s:List UInt8}(h:s.length≤20000):fRead s=fOutOf s:=by
 unfold fRead fOutOf
 rw[if_neg (by omega)]
 all_goals rfl
set_option maxHeartbeats 8000000 in
theorem outOf_ok(s:List UInt8)(id:Nat)(h8:s.length≤1099511627000):FnOk Tryd.prog 14 [.str s] [] id (.tup [eO (fOutOf s).1,.int .i64 (fOutOf s).2]) []:=by
 have hz:∀e:Int,(AV.tup [.agg [.int .i64 0,.int .i64 0,.str [],.nils,.nils],.int .i64 e]).nrm = .tup [eO oZ,.int .i64 e]:=fun e=>rfl
 have hA:=fun id=>at_all (2*s.length+1) s 0 id (by omega) (by omega) h8
 rw[List.drop_zero] at hA
 have hp:=jA_pOut (2*s.length+1) s
 obtain⟨o,ou,hja⟩:∃o ou,jA (2*s.length+1) s=(o,ou):=⟨_,_,rfl⟩
 rw[hja] at hA hp
 simp only at hA hp
 obtain⟨ok,on,ot,oks,ols,hoe⟩:=eO_agg o
 cases ou with
 | none =>
  have hn:pAll s=none:=by unfold pAll; rw[hp]; rfl
  have e:fOutOf s=(oZ,1):=by unfold fOutOf; rw[hn]
  rw[toI_none,hoe] at hA
  rw[e,←hz]
  refine FnOk.nrm ?_
  have hne:((-1:Int) !=(s.length:Int))=true:=by simp; try omega
  refine fn_okc Tryd.func14 hcc14 (by decide) hcr14 (by simp[Tryd.ntmps14]) fun E hP hR hl hid=>?_
  simp only[cr14] at hR
  refine w_go 4000 ?_
  simp[cc14]
  (refine w_call hP rfl (hA _) (by simp) (by simp<;>rfl) ?_; refine w_go 4000 ?_; simp)
  refine goc_true hne ?_
  simp
  rw[hR]; exact rt_end (by simp<;>rfl) [] trivial (end_pure (by simp) (by simp) (by simp))
 | some u =>
  by_cases hu:u=[]
  ·subst hu
   have hn:pAll s=some o:=by unfold pAll; rw[hp]; rfl
   have hti:toI s (some [])=(s.length:Int):=by show (s.length:Int) - 0=_; omega
   rw[hti,hoe] at hA
   obtain⟨hsz,hok⟩:=pAll_sz (by omega) hn
   have hC:=fun id=>rCheckOut_ok o id (by omega)
   rw[hoe] at hC
   by_cases h0:fOut o=0
   ·have e:fOutOf s=(o,0):=by unfold fOutOf; rw[hn]; simp only; rw[if_pos h0]
    rw[e,hoe]
    rw[h0] at hC
    refine fn_okc Tryd.func14 hcc14 (by decide) hcr14 (by simp[Tryd.ntmps14]) fun E hP hR hl hid=>?_
    simp only[cr14] at hR
    refine w_go 4000 ?_
    simp[cc14]
    (refine w_call hP rfl (hA _) (by simp) (by simp<;>rfl) ?_; refine w_go 4000 ?_; simp)
    (refine w_call hP rfl (hC _) (by simp) (by simp<;>rfl) ?_; refine w_go 4000 ?_; simp)
    rw[hR]; exact rt_end (by simp<;>rfl) [] trivial (end_pure (by simp) (by simp) (by simp))
   ·have e:fOutOf s=(oZ,fOut o):=by unfold fOutOf; rw[hn]; simp only; rw[if_neg h0]
    rw[e,←hz]
    refine FnOk.nrm ?_
    refine fn_okc Tryd.func14 hcc14 (by decide) hcr14 (by simp[Tryd.ntmps14]) fun E hP hR hl hid=>?_
    simp only[cr14] at hR
    refine w_go 4000 ?_
    simp[cc14]
    (refine w_call hP rfl (hA _) (by simp) (by simp<;>rfl) ?_; refine w_go 4000 ?_; simp)
    (refine w_call hP rfl (hC _) (by simp) (by simp<;>rfl) ?_; refine w_go 4000 ?_; simp)
    refine goc_true (by simpa using h0) ?_
    simp
    rw[hR]; exact rt_end (by simp<;>rfl) [] trivial (end_pure (by simp) (by simp) (by simp))
  ·have hn:pAll s=none:=by
    unfold pAll; rw[hp]
    cases u with
    | nil=>exact (hu rfl).elim
    | cons a b=>rfl
   have e:fOutOf s=(oZ,1):=by unfold fOutOf; rw[hn]
   have hup:0<u.length:=List.length_pos_iff.2 hu
   obtain⟨w,hw,_⟩:=jA_suf (n:=2*s.length+1) (s:=s) (u:=u) (by rw[hja])
   obtain⟨q1,q2,q3⟩:=place_of (s:=s) (a:=0) (List.drop_zero) (by omega) hw
   have hti:toI s (some u)=((0+w.length:Nat):Int):=q3
   have hwl:0+w.length<s.length:=by
    have:=congrArg List.length hw
    rw[List.length_append] at this; omega
   rw[hti,hoe] at hA
   generalize 0+w.length=pl at *
   rw[e,←hz]
   refine FnOk.nrm ?_
   have hne:((pl:Int) !=(s.length:Int))=true:=by simp; omega
   refine fn_okc Tryd.func14 hcc14 (by decide) hcr14 (by simp[Tryd.ntmps14]) fun E hP hR hl hid=>?_
   simp only[cr14] at hR
   refine w_go 4000 ?_
   simp[cc14]
   (refine w_call hP rfl (hA _) (by simp) (by simp<;>rfl) ?_; refine w_go 4000 ?_; simp)
   refine goc_true hne ?_
   simp
   rw[hR]; exact rt_end (by simp<;>rfl) [] trivial (end_pure (by simp) (by simp) (by simp))
end Go.Am
namespace Go.Am
set_option linter.all false
open Go Go.RowKit Go.Proofs
set_option maxRecDepth 100000
set_option linter.all false
theorem join_app{a:List (List UInt8)}(b:List (List UInt8))(h:a≠[]):Lib.join (a++b) [44]=Lib.join a [44]++b.flatMap fun x=>44::x:=by
 cases a with
 | nil=>exact (h rfl).elim
 | cons x r=>rw[List.cons_append,join_cons,join_cons]; simp
theorem join_snoc(a:List (List UInt8))(x:List UInt8):Lib.join (a++[x]) [44]=Lib.join a [44]++((if a=[] then [] else [44])++x):=by
 by_cases h:a=[]
 ·subst h; rw[if_pos rfl]; simp[Lib.join]
 ·rw[join_app _ h,if_neg h]; simp
theorem join_take(a:List (List UInt8))(i:Nat):(Lib.join (a.take i) [44]).length≤(Lib.join a [44]).length:=by
 by_cases h:a.take i=[]
 ·rw[h]; simp[Lib.join]
 ·have:=join_app (a.drop i) h
  rw[List.take_append_drop] at this
  rw[this,List.length_append]; omega
set_option maxHeartbeats 16000000 in
theorem jsonOf_ok:∀(m:Nat) (o:Out) (id:Nat),o.sz<m→o.sz≤100000000→fChkO o=0→FnOk Tryd.prog 12 [eO o] [] id (.str (jS o)) []
 | 0,o,id,hm,_,_=>by omega
 | m+1,o,id,hm,h8,hc=>by
  obtain⟨h1,h2⟩:=chkO_zero hc
  have hsz:=szO_eq o
  have hlen:=szOL_len o.kids
  have hJ:=jS_eq o
  have hDg:=fun id=>Digits_all o.n id h1.ni
  have hQt:=fun id=>jText_ok o.text id (by have:=h1.tl; omega)
  rw[eO_of o]
  refine fn_okc Tryd.func12 hcc12 (by decide) hcr12 (by simp[Tryd.ntmps12]) fun E hP hR hl hid=>?_
  simp only[cr12] at hR
  refine w_go 4000 ?_
  simp[cc12]
  refine goc (fun g=>?_) (fun g=>?_)<;>simp
  ·have g:o.kind=1:=by simpa using g
   have hJ:jS o=[110,117,108,108]:=by rw[hJ,if_neg (by omega),if_neg (by omega),if_pos g]
   rw[hJ] at hR
   rw[hR]; exact rt_end (by simp<;>rfl) [] trivial (end_pure (by simp) (by simp) (by simp))
  have g1:o.kind≠1:=by simpa using g
  refine goc (fun g=>?_) (fun g=>?_)<;>simp
  ·have g:o.kind=2:=by simpa using g
   rw[if_pos g] at hJ
   rw[hJ] at hR
   (refine w_call hP rfl (hDg _) (by simp) (by simp<;>rfl) ?_; refine w_go 4000 ?_; simp)
   rw[hR]; exact rt_end (by simp<;>rfl) [] trivial (end_pure (by simp) (by simp) (by simp))
  have g2:o.kind≠2:=by simpa using g
  refine goc (fun g=>?_) (fun g=>?_)<;>simp
  ·have g:o.kind=3:=by simpa using g
   rw[if_neg g2,if_pos g] at hJ
   rw[hJ] at hR
   (refine w_call hP rfl (hQt _) (by simp) (by simp<;>rfl) ?_; refine w_go 4000 ?_; simp)
   rw[hR]; exact rt_end (by simp<;>rfl) [] trivial (end_pure (by simp) (by simp) (by simp))
  have g3:o.kind≠3:=by simpa using g
  rw[if_neg g2,if_neg g3,if_neg g1] at hJ
  have hpl:=jP_len o
  have hJl:=jS_len (o.sz+1) o (Nat.lt_succ_self _) hc
  obtain⟨PS,hPS⟩:∃PS,PS=jP o:=⟨_,rfl⟩
  have hJ2:jS o=(if o.kind=5 then 123 else 91)::(Lib.join PS [44]++[if o.kind=5 then 125 else 93]):=by
   rw[hJ,hPS]
   unfold jP
   split<;>rfl
  rw[←hPS] at hpl
  have hjl:(Lib.join PS [44]).length+2=(jS o).length:=by rw[hJ2]; simp
  refine w_loop (X:=Nat) (fun i=>⟨[(1,true,.ptr E.n0 0 0),(3,true,.str (Lib.join (PS.take i) [44])),(4,true,.int .i64 i)],
   [(E.n0,some ⟨[.agg [.int .i64 o.kind,.int .i64 o.n,.str o.text,.sl (o.keys.map .str),.sl (o.kids.map eO)]],.agg [.int .i64 o.kind,.int .i64 o.n,.str o.text,.sl (o.keys.map .str),.sl (o.kids.map eO)],false,false⟩)],1⟩)
   (fun i=>i≤o.kids.length) (fun i=>o.kids.length - i) 0 ?_ (by omega) ?_
  ·have hj0:Lib.join [] [44]=[]:=rfl
   have hrn:rnOk [(E.n0,E.n0)]:=by simp[hj0]
   refine Conv.sub [(E.n0,E.n0)] hrn ?_ ?_ ?_ ?_ ?_<;>(try simp[hj0])
  rintro i hi p hp
  have hjt:=join_take PS i
  refine w_go 4000 ?_
  simp
  refine goc (fun h=>?_) (fun h=>?_)
  ·have h:=of_decide_eq_true h
   obtain⟨x,hx,hd⟩:=drop_cons h
   have hi1:IntKind.i64.wrap ((i:Int)+1)=((i+1:Nat):Int):=wrap64 (by omega)
   have hxm:=List.mem_of_getElem? hx
   have hxz:=szOL_mem hxm
   have hxl:=jS_len (x.sz+1) x (Nat.lt_succ_self _) (h2 x hxm)
   have ih:=fun id=>jsonOf_ok m x id (by omega) (by omega) (h2 x hxm)
   obtain⟨xk,xn,xt,xks,xls,hxe⟩:=eO_agg x
   rw[hxe] at ih
   have hsnoc:∀part,PS[i]?=some part→Lib.join (PS.take (i+1)) [44]=Lib.join (PS.take i) [44]++((if i=0 then [] else [44])++part):=fun part hp=>by
    rw[take_snoc hp,join_snoc]
    congr 2
    by_cases i0:i=0
    ·subst i0; rfl
    ·rw[if_neg i0,if_neg (by
      intro q
      have:=congrArg List.length q
      rw[List.length_take,List.length_nil,Nat.min_eq_left (by omega)] at this
      omega)]
   have hjt2:=join_take PS (i+1)
   have hPSi:PS[i]?=some (if o.kind=5 then quoted (o.keys.getD i [])++[58]++jS x else jS x):=by
    rw[hPS]
    unfold jP
    split
    ·rename_i k5
     have hkk:=h1.ml k5
     obtain⟨k,hk⟩:∃k,o.keys[i]?=some k:=⟨_,List.getElem?_eq_getElem (by omega)⟩
     rw[jM_get o.kids o.keys i x k hx hk,List.getD_eq_getElem?_getD,hk]
     rfl
    ·rw[jL_map]; simp[hx]
   have hst:=hsnoc _ hPSi
   rw[hst] at hjt2
   generalize Lib.join (PS.take i) [44]=pre at *
   by_cases k5:o.kind=5
   ·have hkk:=h1.ml k5
    obtain⟨k,hk⟩:∃k,o.keys[i]?=some k:=⟨_,List.getElem?_eq_getElem (by omega)⟩
    have hkl:=jName_len (h1.ks k (List.mem_of_getElem? hk))
    have hQk:=fun id=>jText_ok k id (by omega)
    rw[if_pos k5,List.getD_eq_getElem?_getD,hk,Option.getD_some] at hst hjt2
    have k5':(o.kind==5)=true:=by simpa using k5
    have hqz:(quoted k).length=(qL k).length+2:=by simp[quoted]
    have hql:=qL_len k
    by_cases i0:i=0
    ·subst i0
     rw[if_pos rfl] at hst hjt2
     simp at hjt2
     simp
     refine goc_true k5' ?_
     simp[hk]
     refine⟨by omega,?_⟩
     (refine w_call hP rfl (hQk _) (by simp[hx,hxe]) (by simp[hx,hxe]<;>rfl) ?_; refine w_go 4000 ?_; simp[hx,hxe])
     refine⟨by omega,by omega,by omega,?_⟩
     (refine w_call hP rfl (ih _) (by simp) (by simp<;>rfl) ?_; refine w_go 4000 ?_; simp)
     refine⟨by omega,?_⟩
     refine hp _ (0+1) h (by omega) ?_
     have hrn:rnOk [(E.n0,E.n0)]:=by simp[hi1,hst]
     refine Conv.sub [(E.n0,E.n0)] hrn ?_ ?_ ?_ ?_ ?_<;>(try simp[hi1,hst])
     all_goals first|exact (rfl:IntKind.i64.wrap 1=1)|trace_state
    ·have ip:0<i:=by omega
     rw[if_neg i0] at hst hjt2
     simp at hjt2
     simp
     refine goc_true (by simpa using ip) ?_
     simp
     refine⟨by omega,?_⟩
     refine goc_true k5' ?_
     simp[hk]
     refine⟨by omega,?_⟩
     (refine w_call hP rfl (hQk _) (by simp[hx,hxe]) (by simp[hx,hxe]<;>rfl) ?_; refine w_go 4000 ?_; simp[hx,hxe])
     refine⟨by omega,by omega,by omega,?_⟩
     (refine w_call hP rfl (ih _) (by simp) (by simp<;>rfl) ?_; refine w_go 4000 ?_; simp)
     refine⟨by omega,?_⟩
     refine hp _ (i+1) h (by omega) ?_
     have hrn:rnOk [(E.n0,E.n0)]:=by simp[hi1,hst]
     refine Conv.sub [(E.n0,E.n0)] hrn ?_ ?_ ?_ ?_ ?_<;>(try simp[hi1,hst])
     all_goals first|exact (rfl:IntKind.i64.wrap 1=1)|trace_state
   ·have k5':(o.kind==5)=false:=by simpa using k5
    rw[if_neg k5] at hst hjt2
    by_cases i0:i=0
    ·subst i0
     rw[if_pos rfl] at hst hjt2
     simp at hjt2
     simp
     refine goc_false k5' ?_
     simp[hx,hxe]
     refine⟨by omega,?_⟩
     (refine w_call hP rfl (ih _) (by simp) (by simp<;>rfl) ?_; refine w_go 4000 ?_; simp)
     refine⟨by omega,?_⟩
     refine hp _ (0+1) h (by omega) ?_
     have hrn:rnOk [(E.n0,E.n0)]:=by simp[hi1,hst]
     refine Conv.sub [(E.n0,E.n0)] hrn ?_ ?_ ?_ ?_ ?_<;>(try simp[hi1,hst])
     all_goals first|exact (rfl:IntKind.i64.wrap 1=1)|trace_state
    ·have ip:0<i:=by omega
     rw[if_neg i0] at hst hjt2
     simp at hjt2
     simp
     refine goc_true (by simpa using ip) ?_
     simp
     refine⟨by omega,?_⟩
     refine goc_false k5' ?_
     simp[hx,hxe]
     refine⟨by omega,?_⟩
     (refine w_call hP rfl (ih _) (by simp) (by simp<;>rfl) ?_; refine w_go 4000 ?_; simp)
     refine⟨by omega,?_⟩
     refine hp _ (i+1) h (by omega) ?_
     have hrn:rnOk [(E.n0,E.n0)]:=by simp[hi1,hst]
     refine Conv.sub [(E.n0,E.n0)] hrn ?_ ?_ ?_ ?_ ?_<;>(try simp[hi1,hst])
     all_goals first|exact (rfl:IntKind.i64.wrap 1=1)|trace_state
  ·have h:¬i<o.kids.length:=of_decide_eq_false h
   have hil:i=o.kids.length:=by omega
   have hka:PS.take i=PS:=List.take_of_length_le (by omega)
   rw[hka]
   simp
   by_cases k5:o.kind=5
   ·rw[if_pos k5,if_pos k5] at hJ2
    refine goc_true (by simpa using k5) ?_
    simp
    refine⟨by omega,by omega,?_⟩
    rw[hJ2] at hR
    rw[hR]; exact rt_end (by simp<;>rfl) [] trivial (end_pure (by simp) (by simp) (by simp))
   ·rw[if_neg k5,if_neg k5] at hJ2
    refine goc_false (by simpa using k5) ?_
    simp
    refine⟨by omega,by omega,?_⟩
    rw[hJ2] at hR
    rw[hR]; exact rt_end (by simp<;>rfl) [] trivial (end_pure (by simp) (by simp) (by simp))
end Go.Am
