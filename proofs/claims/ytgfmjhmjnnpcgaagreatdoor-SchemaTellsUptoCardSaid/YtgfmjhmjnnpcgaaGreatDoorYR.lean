/- Parts of the proof: an abstract machine for Go functions, and what functions of the program give back (St1, St2, St3, St4). No condition. -/
import Derived.Test.YtgfmjhmjnnpcgaaGreatDoorYP
namespace Go.Am
set_option linter.all false
open Go Go.RowKit Go.Proofs
set_option maxRecDepth 100000
set_option linter.all false
theorem rSign_ok(s:List UInt8)(id:Nat):FnOk Tryz.prog 43 [.str s] [] id (.bool (decide (s.length=1)&&s.all sgC)) []:=by
 have hb:∀s:List UInt8,(decide (s.length=1)&&s.all sgC)=(s==[123]||s==[125]||s==[40]||s==[41]||s==[58]||s==[91]||s==[93]):=fun s =>
  match s with
  | []=>by rfl
  | [c]=>by
   simp only[sgC,List.contains_cons,List.contains_nil,Bool.or_false,List.all_cons,List.all_nil,Bool.and_true,List.length_singleton,decide_true,Bool.true_and,List.cons_beq_cons,BEq.rfl,Bool.or_assoc]
  | c::d::r=>by simp
 refine fn_okc Tryz.func43 hcc43 (by decide) hcr43 (by simp[Tryz.ntmps43]) fun E hP hR hl hid=>?_
 simp only[cr43] at hR
 refine w_go 4000 ?_
 simp[cc43]
 refine⟨by grind,by grind,by grind,by grind,by grind,by grind,?_⟩
 rw[hR]; exact rt_end (by simp<;>rfl) [] trivial (end_pure (by simp; rw[hb,show ((s.length:Int)==1)=decide (s.length=1) from by rw[Bool.eq_iff_iff]; simp; omega]; cases hd:decide (s.length=1)<;>simp; refine⟨⟨⟨⟨⟨⟨?_,?_⟩,?_⟩,?_⟩,?_⟩,?_⟩,?_⟩<;>(rintro rfl; simp at hd)) (by simp) (by simp))
theorem rWord_ok(l:List Tk)(i:Nat)(id:Nat):FnOk Tryz.prog 57 [.sl (l.map eTk),.int .i64 i] [] id (.bool (isW (l.drop i))) []:=by
 cases hx:l[i]? with
 | none =>
  have h:l.length≤i:=List.getElem?_eq_none_iff.1 hx
  rw[List.drop_of_length_le h]
  refine fn_okc Tryz.func57 hcc57 (by decide) hcr57 (by simp[Tryz.ntmps57]) fun E hP hR hl hid=>?_
  simp only[cr57] at hR
  refine w_go 4000 ?_
  simp[cc57,hx,Nat.not_lt.2 h]
  rw[hR]; exact rt_end (by simp<;>rfl) [] trivial (end_pure (by simp; rfl) (by simp) (by simp))
 | some t =>
  have h:=(List.getElem?_eq_some_iff.1 hx).1
  rw[show l.drop i=t::l.drop (i+1) from by obtain⟨y,hy,hd⟩:=drop_cons h; rw[hx] at hy; injection hy with hy; rw[hd,hy]]
  refine fn_okc Tryz.func57 hcc57 (by decide) hcr57 (by simp[Tryz.ntmps57]) fun E hP hR hl hid=>?_
  simp only[cr57] at hR
  refine w_go 4000 ?_
  simp[cc57,hx,h,eTk]
  rw[hR]; exact rt_end (by simp<;>rfl) [] trivial (end_pure (by simp; rw[Bool.eq_iff_iff]; simp[isW,(List.getElem?_eq_some_iff.1 hx).2]) (by simp) (by simp))
theorem rTok_ok(l:List Tk)(i:Nat)(c:UInt8)(id:Nat):FnOk Tryz.prog 58 [.sl (l.map eTk),.int .i64 i,.str [c]] [] id (.bool (isS (l.drop i) c)) []:=by
 cases hx:l[i]? with
 | none =>
  have h:l.length≤i:=List.getElem?_eq_none_iff.1 hx
  rw[List.drop_of_length_le h]
  refine fn_okc Tryz.func58 hcc58 (by decide) hcr58 (by simp[Tryz.ntmps58]) fun E hP hR hl hid=>?_
  simp only[cr58] at hR
  refine w_go 4000 ?_
  simp[cc58,hx,Nat.not_lt.2 h]
  rw[hR]; exact rt_end (by simp<;>rfl) [] trivial (end_pure (by simp; rfl) (by simp) (by simp))
 | some t =>
  have h:=(List.getElem?_eq_some_iff.1 hx).1
  rw[show l.drop i=t::l.drop (i+1) from by obtain⟨y,hy,hd⟩:=drop_cons h; rw[hx] at hy; injection hy with hy; rw[hd,hy]]
  refine fn_okc Tryz.func58 hcc58 (by decide) hcr58 (by simp[Tryz.ntmps58]) fun E hP hR hl hid=>?_
  simp only[cr58] at hR
  refine w_go 4000 ?_
  simp[cc58,hx,h,eTk]
  rw[hR]; exact rt_end (by simp<;>rfl) [] trivial (end_pure (by simp; rw[Bool.eq_iff_iff]; simp[isS,(List.getElem?_eq_some_iff.1 hx).2]) (by simp) (by simp))
theorem rMkW_ok(s:List UInt8)(id:Nat):FnOk Tryz.prog 61 [.str s] [] id (eTk (tkW s)) []:=by
 refine fn_okc Tryz.func61 hcc61 (by decide) hcr61 (by simp[Tryz.ntmps61]) fun E hP hR hl hid=>?_
 simp only[cr61] at hR
 refine w_go 4000 ?_
 simp[cc61]
 have hrn:rnOk []:=by simp[eTk,tkW,idO hid]
 rw[hR]
 refine rt_end (by simp<;>rfl) [] hrn ⟨?_,?_,?_,?_,?_,?_⟩<;>(try simp[eTk,tkW,idO hid])
theorem rMkS_ok(c:UInt8)(id:Nat):FnOk Tryz.prog 62 [.str [c]] [] id (eTk (tkS c)) []:=by
 refine fn_okc Tryz.func62 hcc62 (by decide) hcr62 (by simp[Tryz.ntmps62]) fun E hP hR hl hid=>?_
 simp only[cr62] at hR
 refine w_go 4000 ?_
 simp[cc62]
 have hrn:rnOk []:=by simp[eTk,tkS,idO hid]
 rw[hR]
 refine rt_end (by simp<;>rfl) [] hrn ⟨?_,?_,?_,?_,?_,?_⟩<;>(try simp[eTk,tkS,idO hid])
end Go.Am
namespace Go.Am
set_option linter.all false
open Go Go.RowKit Go.Proofs
set_option maxRecDepth 100000
set_option linter.all false
theorem lQ_len(c:UInt8):1≤(lQ c).length∧(lQ c).length≤2:=by
 unfold lQ
 repeat' split
 all_goals simp
theorem lQs_take{s:List UInt8}{i:Nat}{c:UInt8}(h:s[i]?=some c):lQs (s.take (i+1))=lQs (s.take i)++lQ c:=by
 rw[List.take_succ,h]; simp[lQs]
theorem lQs_le(s:List UInt8):s.length≤(lQs s).length:=by
 induction s with
 | nil=>simp[lQs]
 | cons c r ih =>
  have:=(lQ_len c).1
  simp[lQs] at ih ⊢; omega
theorem lQs_ln(s:List UInt8):(lQs s).length≤2*s.length:=by
 induction s with
 | nil=>simp[lQs]
 | cons c r ih =>
  have:=(lQ_len c).2
  simp[lQs] at ih ⊢; omega
set_option maxHeartbeats 4000000 in
theorem rQuoted_ok(s:List UInt8)(id:Nat)(h8:s.length≤1099511627776):FnOk Tryz.prog 48 [.str s] [] id (.str (34::(lQs s++[34]))) []:=by
 refine fn_okc Tryz.func48 hcc48 (by decide) hcr48 (by simp[Tryz.ntmps48]) fun E hP hR hl hid=>?_
 simp only[cr48] at hR
 refine w_go 4000 ?_
 simp[cc48]
 refine w_loop (X:=Nat) (fun i=>⟨[(0,true,.str s),(3,true,.str (34::lQs (s.take i))),(4,true,.int .i64 i)],[],0⟩)
  (fun i=>i≤s.length) (fun i=>s.length - i) 0 ?_ (by omega) ?_
 ·have h1:lQs []=[]:=rfl
  have hrn:rnOk []:=by simp[h1]
  refine Conv.sub [] hrn ?_ ?_ ?_ ?_ ?_<;>(try simp[h1])
 rintro i hi p hp
 have h34:∀(c:UInt8) (n:Nat),n<256→(((c.toNat:Int)==(n:Int))=true↔c=UInt8.ofNat n):=fun c n hn=>by
  rw[beq_iff_eq]
  constructor
  ·intro h
   have h:c.toNat=n:=by omega
   rw[←h]; simp
  ·intro h
   subst h
   simp; omega
 have hql:=lQs_ln (s.take i)
 rw[List.length_take] at hql
 refine w_go 4000 ?_
 simp
 refine goc (fun h=>?_) (fun h=>?_)
 ·have h:=of_decide_eq_true h
  obtain⟨c,hc,hd⟩:=drop_cons h
  have hi1:IntKind.i64.wrap ((i:Int)+1)=((i+1:Nat):Int):=wrap64 (by omega)
  have hst:=lQs_take hc
  have hc8:=c.toNat_lt
  have hone:(s.take (i+1)).drop i=[c]:=by
   rw[List.take_succ,hc]
   rw[List.drop_append_of_le_length (by simp; omega),List.drop_of_length_le (by simp; omega)]; rfl
  simp[hc]
  refine⟨h,?_⟩
  refine goc (fun g=>?_) (fun g=>?_)<;>simp
  ·have g:c=34:=(h34 c 34 (by omega)).1 g
   have hq:lQ c=[92,34]:=by unfold lQ; rw[if_pos g]
   rw[hq] at hst
   refine⟨by omega,?_⟩
   refine hp _ (i+1) h (by omega) ?_
   have hrn:rnOk []:=by simp[hi1,hst]
   refine Conv.sub [] hrn ?_ ?_ ?_ ?_ ?_<;>(try simp[hi1,hst])
  have g:c≠34:=fun e=>absurd ((h34 c 34 (by omega)).2 e) (by rw[Bool.not_eq_true]; exact g)
  refine goc (fun g1=>?_) (fun g1=>?_)<;>simp
  ·have g1:c=92:=(h34 c 92 (by omega)).1 g1
   have hq:lQ c=[92,92]:=by unfold lQ; rw[if_neg g,if_pos g1]
   rw[hq] at hst
   refine⟨by omega,?_⟩
   refine hp _ (i+1) h (by omega) ?_
   have hrn:rnOk []:=by simp[hi1,hst]
   refine Conv.sub [] hrn ?_ ?_ ?_ ?_ ?_<;>(try simp[hi1,hst])
  have g1:c≠92:=fun e=>absurd ((h34 c 92 (by omega)).2 e) (by rw[Bool.not_eq_true]; exact g1)
  refine goc (fun g2=>?_) (fun g2=>?_)<;>simp
  ·have g2:c=10:=(h34 c 10 (by omega)).1 g2
   have hq:lQ c=[92,110]:=by unfold lQ; rw[if_neg g,if_neg g1,if_pos g2]
   rw[hq] at hst
   refine⟨by omega,?_⟩
   refine hp _ (i+1) h (by omega) ?_
   have hrn:rnOk []:=by simp[hi1,hst]
   refine Conv.sub [] hrn ?_ ?_ ?_ ?_ ?_<;>(try simp[hi1,hst])
  have g2:c≠10:=fun e=>absurd ((h34 c 10 (by omega)).2 e) (by rw[Bool.not_eq_true]; exact g2)
  have hq:lQ c=[c]:=by unfold lQ; rw[if_neg g,if_neg g1,if_neg g2]
  rw[hq] at hst
  simp[hi1,hone]
  refine⟨by omega,by omega,?_⟩
  refine hp _ (i+1) h (by omega) ?_
  have hrn:rnOk []:=by simp[hi1,hst]
  refine Conv.sub [] hrn ?_ ?_ ?_ ?_ ?_<;>(try simp[hi1,hst])
 ·have h:=of_decide_eq_false h
  have hie:i=s.length:=by omega
  subst hie
  rw[List.take_length] at hql
  simp
  refine⟨by omega,?_⟩
  rw[hR]; exact rt_end (by simp<;>rfl) [] trivial (end_pure (by simp) (by simp) (by simp))
theorem tkB_snoc(a:List Tk)(t:Tk):tkB (a++[t])=tkB a++((if a=[] then [] else [32])++wrTk t):=by
 cases a with
 | nil=>rw[List.nil_append,tkB_cons,tkB_nil]; simp
 | cons x r=>rw[List.cons_append,tkB_cons,tkB_cons]; simp
theorem wSum_take(l:List Tk)(i:Nat):wSum (l.take i)≤wSum l:=by
 have:=wSum_app (l.take i) (l.drop i)
 rw[List.take_append_drop] at this
 omega
set_option maxHeartbeats 4000000 in
theorem rBytes_ok(l:List Tk)(id:Nat)(hn:∀t∈l,t.kind=2→-999999999≤t.n∧t.n≤999999999)(h8:wSum l≤1099511627776)(h9:l.length≤1099511627776):FnOk Tryz.prog 19 [.sl (l.map eTk)] [] id (.str (tkB l)) []:=by
 refine fn_okc Tryz.func19 hcc19 (by decide) hcr19 (by simp[Tryz.ntmps19]) fun E hP hR hl hid=>?_
 simp only[cr19] at hR
 refine w_go 4000 ?_
 simp[cc19]
 refine w_loop (X:=Nat) (fun i=>⟨[(0,true,.sl (l.map eTk)),(3,true,.str (tkB (l.take i))),(4,true,.int .i64 i)],[],0⟩)
  (fun i=>i≤l.length) (fun i=>l.length - i) 0 ?_ (by omega) ?_
 ·have hrn:rnOk []:=by simp[tkB_nil]
  refine Conv.sub [] hrn ?_ ?_ ?_ ?_ ?_<;>(try simp[tkB_nil])
 rintro i hi p hp
 have hbl:=tkB_len (l.take i)
 have hbw:=wSum_take l i
 refine w_go 4000 ?_
 simp
 refine goc (fun h=>?_) (fun h=>?_)
 ·have h:=of_decide_eq_true h
  obtain⟨t,hx,hd⟩:=drop_cons h
  have htm:=List.mem_of_getElem? hx
  have hi1:IntKind.i64.wrap ((i:Int)+1)=((i+1:Nat):Int):=wrap64 (by omega)
  have hst:tkB (l.take (i+1))=tkB (l.take i)++((if i=0 then [] else [32])++wrTk t):=by
   rw[List.take_succ,hx]
   refine (tkB_snoc _ _).trans ?_
   have:(l.take i=[])↔i=0:=by
    constructor
    ·intro e
     have:=congrArg List.length e
     rw[List.length_take] at this
     simp only[List.length_nil] at this
     omega
    ·rintro rfl; rfl
   simp[this]
  have hbl2:=tkB_len (l.take (i+1))
  have hbw2:=wSum_take l (i+1)
  rw[hst] at hbl2
  simp only[List.length_append] at hbl2
  have hwr:wrTk t=if t.kind=2 then Lib.itoa t.n else if t.kind=3 then 34::lQs t.text++[34] else t.text:=rfl
  simp[hx,eTk]
  refine goc (fun g=>?_) (fun g=>?_)<;>simp[hx,eTk]
  ·have g:i≠0:=by simp at g; omega
   rw[if_neg g] at hst hbl2
   simp only[List.length_cons,List.length_nil] at hbl2
   refine⟨by omega,h,?_⟩
   refine goc (fun g1=>?_) (fun g1=>?_)<;>simp[hx,eTk]
   ·have g1:t.kind=2:=by simpa using g1
    have hD:=fun id=>Digits_all t.n id (hn t htm g1)
    rw[if_pos g1] at hwr
    rw[hwr] at hst hbl2
    refine⟨h,?_⟩
    (refine w_call hP rfl (hD _) (by simp[hx,eTk]) (by simp[hx,eTk]<;>rfl) ?_; refine w_go 4000 ?_; simp[hx,eTk])
    refine⟨by omega,?_⟩
    refine hp _ (i+1) h (by omega) ?_
    have hrn:rnOk []:=by simp[hi1,hst,g]
    refine Conv.sub [] hrn ?_ ?_ ?_ ?_ ?_<;>(try simp[hi1,hst,g])
   have g1:¬t.kind=2:=by simpa using g1
   refine goc (fun g2=>?_) (fun g2=>?_)<;>simp[hx,eTk]
   ·have g2:t.kind=3:=by simpa using g2
    rw[if_neg g1,if_pos g2] at hwr
    rw[hwr] at hst hbl2
    simp only[List.length_append,List.length_cons,List.length_nil] at hbl2
    have hQ:=fun id=>rQuoted_ok t.text id (by have:=lQs_le t.text; omega)
    refine⟨h,?_⟩
    (refine w_call hP rfl (hQ _) (by simp[hx,eTk]) (by simp[hx,eTk]<;>rfl) ?_; refine w_go 4000 ?_; simp[hx,eTk])
    refine⟨by omega,?_⟩
    refine hp _ (i+1) h (by omega) ?_
    have hrn:rnOk []:=by simp[hi1,hst,g]
    refine Conv.sub [] hrn ?_ ?_ ?_ ?_ ?_<;>(try simp[hi1,hst,g])
   have g2:¬t.kind=3:=by simpa using g2
   rw[if_neg g1,if_neg g2] at hwr
   rw[hwr] at hst hbl2
   refine⟨h,by omega,?_⟩
   refine hp _ (i+1) h (by omega) ?_
   have hrn:rnOk []:=by simp[hi1,hst,g]
   refine Conv.sub [] hrn ?_ ?_ ?_ ?_ ?_<;>(try simp[hi1,hst,g])
  ·have g:i=0:=by simp at g; omega
   rw[if_pos g] at hst hbl2
   have hw1:IntKind.i64.wrap (1:Int)=1:=wrap64 (by omega)
   subst g
   have hbw3:=wSum_take l 1
   simp only[List.take_zero,tkB_nil,List.nil_append,Nat.zero_add] at hst hbl2
   refine⟨h,?_⟩
   refine goc (fun g1=>?_) (fun g1=>?_)<;>simp[hx,eTk]
   ·have g1:t.kind=2:=by simpa using g1
    have hD:=fun id=>Digits_all t.n id (hn t htm g1)
    rw[if_pos g1] at hwr
    rw[hwr] at hst hbl2
    refine⟨h,?_⟩
    (refine w_call hP rfl (hD _) (by simp[hx,eTk]) (by simp[hx,eTk]<;>rfl) ?_; refine w_go 4000 ?_; simp[hx,eTk])
    refine⟨by simp only[tkB_nil,List.length_nil,List.length_append,List.length_cons] at hbl2 ⊢; omega,?_⟩
    refine hp _ 1 h (by omega) ?_
    have hrn:rnOk []:=by simp[hw1,hst,tkB_nil]
    refine Conv.sub [] hrn ?_ ?_ ?_ ?_ ?_<;>(try simp[hw1,hst,tkB_nil])
   have g1:¬t.kind=2:=by simpa using g1
   refine goc (fun g2=>?_) (fun g2=>?_)<;>simp[hx,eTk]
   ·have g2:t.kind=3:=by simpa using g2
    rw[if_neg g1,if_pos g2] at hwr
    rw[hwr] at hst hbl2
    simp only[List.length_append,List.length_cons,List.length_nil] at hbl2
    have hQ:=fun id=>rQuoted_ok t.text id (by have:=lQs_le t.text; omega)
    refine⟨h,?_⟩
    (refine w_call hP rfl (hQ _) (by simp[hx,eTk]) (by simp[hx,eTk]<;>rfl) ?_; refine w_go 4000 ?_; simp[hx,eTk])
    refine⟨by simp only[tkB_nil,List.length_nil,List.length_append,List.length_cons] at hbl2 ⊢; omega,?_⟩
    refine hp _ 1 h (by omega) ?_
    have hrn:rnOk []:=by simp[hw1,hst,tkB_nil]
    refine Conv.sub [] hrn ?_ ?_ ?_ ?_ ?_<;>(try simp[hw1,hst,tkB_nil])
   have g2:¬t.kind=3:=by simpa using g2
   rw[if_neg g1,if_neg g2] at hwr
   rw[hwr] at hst hbl2
   refine⟨h,by simp only[tkB_nil,List.length_nil,List.length_append,List.length_cons] at hbl2 ⊢; omega,?_⟩
   refine hp _ 1 h (by omega) ?_
   have hrn:rnOk []:=by simp[hw1,hst,tkB_nil]
   refine Conv.sub [] hrn ?_ ?_ ?_ ?_ ?_<;>(try simp[hw1,hst,tkB_nil])
 ·have h:=of_decide_eq_false h
  have hie:i=l.length:=by omega
  subst hie
  rw[List.take_length] at hbl
  simp
  rw[hR]; exact rt_end (by simp<;>rfl) [] trivial (end_pure (by simp) (by simp) (by simp))
end Go.Am
namespace Go.Am
set_option linter.all false
open Go Go.RowKit Go.Proofs
set_option maxRecDepth 100000
set_option linter.all false
def bS(E:Env)(l:List Ty)(i:Nat)(acc:List Tk):St :=
 ⟨[(0,true,.sl (l.map eTy)),(3,true,.bsl E.n0 0 acc.length),(4,true,.int .i64 i)],[(E.n0,some (toB acc))],1⟩
def bF(E:Env)(l:List Ty)(i:Nat)(k:Nat)(acc:List Tk):St :=
 ⟨[(0,true,.sl (l.map eTy)),(3,true,.bsl E.n0 0 acc.length),(4,true,.int .i64 i),(5,true,.int .i64 k)],[(E.n0,some (toB acc))],1⟩
set_option maxHeartbeats 16000000 in
theorem rSchB_ok(l:List Ty)(id:Nat)(hc:fCheckT l=0):FnOk Tryz.prog 27 [.sl (l.map eTy)] [] id (.str (tkB (tkSch l))) []:=by
 have hfew:=few_sch l (tyP_of hc)
 have hl5:=(fCheckT_zero.1 hc).2.1
 have hlen:(tkSch l).length≤170:=by have:=hfew.2.1; omega
 have hW:∀(s:List UInt8) (id:Nat),FnOk Tryz.prog 61 [.str s] [] id (.agg [.int .i64 1,.str s,.int .i64 0]) []:=fun s id=>rMkW_ok s id
 have hS:∀(c:UInt8) (id:Nat),FnOk Tryz.prog 62 [.str [c]] [] id (.agg [.int .i64 4,.str [c],.int .i64 0]) []:=fun c id=>rMkS_ok c id
 refine fn_okc Tryz.func27 hcc27 (by decide) hcr27 (by simp[Tryz.ntmps27]) fun E hP hR hl hid=>?_
 simp only[cr27] at hR
 refine w_go 4000 ?_
 simp[cc27]
 refine w_loop (X:=Nat×List Tk) (fun q=>bS E l q.1 q.2) (fun q=>q.1≤l.length∧q.2=(l.take q.1).flatMap tkTy) (fun q=>l.length - q.1) (0,[]) ?_ ⟨by simp,by simp⟩ ?_
 ·refine Conv.trans (Conv.voidSlot 3 (x:=.nils) (y:=.bsl (E.n0+3072) 0 0) (by simp) .nils (.agg [.int .i64 0,.str [],.int .i64 0])) ?_
  unfold bS
  have hrn:rnOk [(E.n0,E.n0+3072)]:=by simp[toB]
  refine Conv.sub [(E.n0,E.n0+3072)] hrn ?_ ?_ ?_ ?_ ?_<;>(try simp[toB])
 rintro⟨i,acc⟩ ⟨hi,ha⟩ p hp
 simp only at hi ha
 have hal:acc.length≤170:=by rw[ha]; exact Nat.le_trans (fm_len l i tkTy) hlen
 rcases Nat.lt_or_ge i l.length with h|h
 rotate_left
 ·have hil:i=l.length:=by omega
  have hacc:acc=tkSch l:=by rw[ha,List.take_of_length_le h]; rfl
  have h2:=hfew.2.2
  have hB:=fun id=>rBytes_ok (tkSch l) id (fun t ht hk=>by
   rcases tkSch_ws l t ht with⟨s,rfl⟩|⟨c,rfl⟩
   ·cases hk
   ·cases hk) (by omega) (by omega)
  subst hacc
  unfold bS
  refine w_go 4000 ?_
  simp[toB,Nat.not_lt.2 h]
  (refine w_callR hP rfl (hB _) (by simp<;>rfl) (by simp) (by simp<;>rfl) (by simp) ?_; refine w_go 4000 ?_; simp)
  rw[hR]; exact rt_end (by simp<;>rfl) [] trivial (end_pure (by simp) (by simp) (by simp))
 obtain⟨t,ht,hd⟩:=drop_cons h
 have hli:l[i]=t:=by
  rw[List.getElem?_eq_getElem h] at ht
  injection ht
 have hi1:IntKind.i64.wrap ((i:Int)+1)=((i+1:Nat):Int):=wrap64 (by omega)
 have hT:=tyP_of hc t (List.mem_of_getElem? ht)
 have hsn:=fm_snoc tkTy ht
 have hlb:((l.take (i+1)).flatMap tkTy).length≤170:=Nat.le_trans (fm_len l (i+1) tkTy) hlen
 have hty:tkTy t=[tkW tType,tkW t.name,tkS 123]++t.fields.flatMap tkFd++[tkS 125]:=by simp[tkTy]
 rw[hsn,←ha,hty] at hlb
 simp only[List.length_append,List.length_cons,List.length_nil] at hlb
 have hw1:=fun id=>hW tType id
 unfold tType at hw1
 unfold bS
 refine w_go 4000 ?_
 simp[toB,h,hli,ty_agg]
 (refine w_call hP rfl (hw1 _) (by simp[h,hli,ty_agg]) (by simp[h,hli,ty_agg]<;>rfl) ?_; refine w_go 4000 ?_; simp[h,hli,ty_agg])
 (refine w_call hP rfl (hW t.name _) (by simp) (by simp<;>rfl) ?_; refine w_go 4000 ?_; simp)
 (refine w_call hP rfl (hS 123 _) (by simp) (by simp<;>rfl) ?_; refine w_go 4000 ?_; simp)
 refine⟨by omega,?_⟩
 refine w_loop (X:=Nat×List Tk) (fun q=>bF E l i q.1 q.2) (fun q=>q.1≤t.fields.length∧q.2=acc++[tkW tType,tkW t.name,tkS 123]++(t.fields.take q.1).flatMap tkFd) (fun q=>t.fields.length - q.1) (0,acc++[tkW tType,tkW t.name,tkS 123]) ?_ ⟨by simp,by simp⟩ ?_
 ·unfold bF
  have hrn:rnOk [(E.n0,E.n0+14337)]:=by simp[toB,eTk_w,eTk_s,tType]
  refine Conv.sub [(E.n0,E.n0+14337)] hrn ?_ ?_ ?_ ?_ ?_<;>(try simp[toB,eTk_w,eTk_s,tType])
  all_goals exact renL_pure rfl (pureL_append (pure_tks _) rfl)
 rintro⟨k,ac⟩ ⟨hk,hac⟩ p2 hp2
 simp only at hk hac
 have hfl:=fm_len t.fields k tkFd
 have hacl:ac.length≤170:=by rw[hac]; simp only[List.length_append,List.length_cons,List.length_nil]; omega
 rcases Nat.lt_or_ge k t.fields.length with h2|h2
 rotate_left
 ·have hkl:k=t.fields.length:=by omega
  have hacc:ac++[tkS 125]=(l.take (i+1)).flatMap tkTy:=by
   rw[hac,hsn,←ha,hty,List.take_of_length_le h2]; simp
  unfold bF
  refine w_go 4000 ?_
  simp[toB,h,hli,ty_agg,Nat.not_lt.2 h2]
  (refine w_call hP rfl (hS 125 _) (by simp) (by simp<;>rfl) ?_; refine w_go 4000 ?_; simp)
  refine⟨by omega,?_⟩
  refine hp _ (i+1,ac++[tkS 125]) ⟨h,hacc⟩ (by simp; omega) ?_
  unfold bS
  have hrn:rnOk [(E.n0,E.n0+11265)]:=by simp[toB,eTk_w,eTk_s,hi1]
  refine Conv.sub [(E.n0,E.n0+11265)] hrn ?_ ?_ ?_ ?_ ?_<;>(try simp[toB,eTk_w,eTk_s,hi1])
  all_goals exact renL_pure rfl (pureL_append (pure_tks _) rfl)
 obtain⟨f,hf,hfd⟩:=drop_cons h2
 have hlf:t.fields[k]=f:=by
  rw[List.getElem?_eq_getElem h2] at hf
  injection hf
 have hk1:IntKind.i64.wrap ((k:Int)+1)=((k+1:Nat):Int):=wrap64 (by have:=hT.le; omega)
 have hF:=hT.fd f (List.mem_of_getElem? hf)
 have hfs:=fm_snoc tkFd hf
 have hfn:eFd f = .agg [.str f.name,.int .i64 f.kind,.str f.of]:=rfl
 have hwN:=fun id=>hW tNumber id
 have hwT:=fun id=>hW tText id
 unfold tNumber at hwN
 unfold tText at hwT
 rcases hF.kind with⟨hkd,_⟩|⟨hkd,_⟩|⟨hkd,_⟩|⟨hkd,_⟩
 ·have hx:ac++[tkW f.name,tkS 58]++[tkW tNumber]=acc++[tkW tType,tkW t.name,tkS 123]++(t.fields.take (k+1)).flatMap tkFd:=by
   rw[hfs,hac]; simp[tkFd,tkOf,hkd]
  unfold bF
  refine w_go 4000 ?_
  simp[toB,h,hli,ty_agg,h2,hlf,hfn,hkd]
  (refine w_call hP rfl (hW f.name _) (by simp[hfn,hkd]) (by simp[hfn,hkd]<;>rfl) ?_; refine w_go 4000 ?_; simp[hfn,hkd])
  (refine w_call hP rfl (hS 58 _) (by simp[hfn,hkd]) (by simp[hfn,hkd]<;>rfl) ?_; refine w_go 4000 ?_; simp[hfn,hkd])
  refine⟨by omega,?_⟩
  (refine w_call hP rfl (hwN _) (by simp[hfn]) (by simp[hfn]<;>rfl) ?_; refine w_go 4000 ?_; simp[hfn])
  refine⟨by omega,?_⟩
  refine hp2 _ (k+1,ac++[tkW f.name,tkS 58]++[tkW tNumber]) ⟨h2,hx⟩ (by simp; omega) ?_
  unfold bF
  have hrn:rnOk [(E.n0,E.n0+33793)]:=by simp[toB,eTk_w,eTk_s,tNumber,hk1]
  refine Conv.sub [(E.n0,E.n0+33793)] hrn ?_ ?_ ?_ ?_ ?_<;>(try simp[toB,eTk_w,eTk_s,tNumber,hk1])
  all_goals exact renL_pure rfl (pureL_append (pure_tks _) rfl)
 ·have hx:ac++[tkW f.name,tkS 58]++[tkW tText]=acc++[tkW tType,tkW t.name,tkS 123]++(t.fields.take (k+1)).flatMap tkFd:=by
   rw[hfs,hac]; simp[tkFd,tkOf,hkd]
  unfold bF
  refine w_go 4000 ?_
  simp[toB,h,hli,ty_agg,h2,hlf,hfn,hkd]
  (refine w_call hP rfl (hW f.name _) (by simp[hfn,hkd]) (by simp[hfn,hkd]<;>rfl) ?_; refine w_go 4000 ?_; simp[hfn,hkd])
  (refine w_call hP rfl (hS 58 _) (by simp[hfn,hkd]) (by simp[hfn,hkd]<;>rfl) ?_; refine w_go 4000 ?_; simp[hfn,hkd])
  refine⟨by omega,?_⟩
  (refine w_call hP rfl (hwT _) (by simp[hfn]) (by simp[hfn]<;>rfl) ?_; refine w_go 4000 ?_; simp[hfn])
  refine⟨by omega,?_⟩
  refine hp2 _ (k+1,ac++[tkW f.name,tkS 58]++[tkW tText]) ⟨h2,hx⟩ (by simp; omega) ?_
  unfold bF
  have hrn:rnOk [(E.n0,E.n0+35841)]:=by simp[toB,eTk_w,eTk_s,tText,hk1]
  refine Conv.sub [(E.n0,E.n0+35841)] hrn ?_ ?_ ?_ ?_ ?_<;>(try simp[toB,eTk_w,eTk_s,tText,hk1])
  all_goals exact renL_pure rfl (pureL_append (pure_tks _) rfl)
 ·have hx:ac++[tkW f.name,tkS 58]++[tkW f.of]=acc++[tkW tType,tkW t.name,tkS 123]++(t.fields.take (k+1)).flatMap tkFd:=by
   rw[hfs,hac]; simp[tkFd,tkOf,hkd]
  unfold bF
  refine w_go 4000 ?_
  simp[toB,h,hli,ty_agg,h2,hlf,hfn,hkd]
  (refine w_call hP rfl (hW f.name _) (by simp[hfn,hkd]) (by simp[hfn,hkd]<;>rfl) ?_; refine w_go 4000 ?_; simp[hfn,hkd])
  (refine w_call hP rfl (hS 58 _) (by simp[hfn,hkd]) (by simp[hfn,hkd]<;>rfl) ?_; refine w_go 4000 ?_; simp[hfn,hkd])
  refine⟨by omega,?_⟩
  (refine w_call hP rfl (hW f.of _) (by simp[hfn]) (by simp[hfn]<;>rfl) ?_; refine w_go 4000 ?_; simp[hfn])
  refine⟨by omega,?_⟩
  refine hp2 _ (k+1,ac++[tkW f.name,tkS 58]++[tkW f.of]) ⟨h2,hx⟩ (by simp; omega) ?_
  unfold bF
  have hrn:rnOk [(E.n0,E.n0+39937)]:=by simp[toB,eTk_w,eTk_s,hfn,hk1]
  refine Conv.sub [(E.n0,E.n0+39937)] hrn ?_ ?_ ?_ ?_ ?_<;>(try simp[toB,eTk_w,eTk_s,hfn,hk1])
  all_goals exact renL_pure rfl (pureL_append (pure_tks _) rfl)
 ·have hx:ac++[tkW f.name,tkS 58]++[tkS 91,tkW f.of,tkS 93]=acc++[tkW tType,tkW t.name,tkS 123]++(t.fields.take (k+1)).flatMap tkFd:=by
   rw[hfs,hac]; simp[tkFd,tkOf,hkd]
  unfold bF
  refine w_go 4000 ?_
  simp[toB,h,hli,ty_agg,h2,hlf,hfn,hkd]
  (refine w_call hP rfl (hW f.name _) (by simp[hfn,hkd]) (by simp[hfn,hkd]<;>rfl) ?_; refine w_go 4000 ?_; simp[hfn,hkd])
  (refine w_call hP rfl (hS 58 _) (by simp[hfn,hkd]) (by simp[hfn,hkd]<;>rfl) ?_; refine w_go 4000 ?_; simp[hfn,hkd])
  refine⟨by omega,?_⟩
  (refine w_call hP rfl (hS 91 _) (by simp[hfn]) (by simp[hfn]<;>rfl) ?_; refine w_go 4000 ?_; simp[hfn])
  (refine w_call hP rfl (hW f.of _) (by simp[hfn]) (by simp[hfn]<;>rfl) ?_; refine w_go 4000 ?_; simp[hfn])
  (refine w_call hP rfl (hS 93 _) (by simp[hfn]) (by simp[hfn]<;>rfl) ?_; refine w_go 4000 ?_; simp[hfn])
  refine⟨by omega,?_⟩
  refine hp2 _ (k+1,ac++[tkW f.name,tkS 58]++[tkS 91,tkW f.of,tkS 93]) ⟨h2,hx⟩ (by simp; omega) ?_
  unfold bF
  have hrn:rnOk [(E.n0,E.n0+44033)]:=by simp[toB,eTk_w,eTk_s,hfn,hk1]
  refine Conv.sub [(E.n0,E.n0+44033)] hrn ?_ ?_ ?_ ?_ ?_<;>(try simp[toB,eTk_w,eTk_s,hfn,hk1])
  all_goals exact renL_pure rfl (pureL_append (pure_tks _) rfl)
end Go.Am
namespace Go.Am
set_option linter.all false
open Go Go.RowKit Go.Proofs
set_option maxRecDepth 100000
set_option linter.all false
theorem rWord_is(l:List Tk){n:Int}(i:Nat){b:Bool}(hb:isW (l.drop i)=b)(id:Nat)(hn:n=(i:Int)):FnOk Tryz.prog 57 [.sl (l.map eTk),.int .i64 n] [] id (.bool b) []:=by
 subst hn hb
 exact rWord_ok l i id
theorem rTok_is(l:List Tk){n:Int}(i:Nat)(c:UInt8){b:Bool}(hb:isS (l.drop i) c=b)(id:Nat)(hn:n=(i:Int)):FnOk Tryz.prog 58 [.sl (l.map eTk),.int .i64 n,.str [c]] [] id (.bool b) []:=by
 subst hn hb
 exact rTok_ok l i c id
theorem pFd_at(l:List Tk)(a:Nat):pFd (l.drop a)=if isW (l.drop a)=true∧isS (l.drop (a+1)) 58=true then (if isS (l.drop (a+2)) 91=true then (if isW (l.drop (a+3))=true∧isS (l.drop (a+4)) 93=true then some (⟨txt (l.drop a),4,txt (l.drop (a+3))⟩,l.drop (a+5)) else none)
  else if isW (l.drop (a+2))=true then some (fdOf (txt (l.drop a)) (txt (l.drop (a+2))),l.drop (a+3)) else none) else none:=by
 unfold pFd
 simp only[List.drop_drop]
theorem pTy_at(l:List Tk)(a:Nat):pTy (l.drop a)=if (isW (l.drop a)=true∧txt (l.drop a)=tType)∧isW (l.drop (a+1))=true∧isS (l.drop (a+2)) 123=true then (pFds ((l.drop a).length+1) [] (l.drop (a+3))).map fun p=>(⟨txt (l.drop (a+1)),p.1⟩,p.2) else none:=by
 unfold pTy
 simp only[List.drop_drop]
theorem isW_lt{l:List Tk}{i:Nat}(h:isW (l.drop i)=true):i<l.length:=by
 rcases Nat.lt_or_ge i l.length with h1|h1
 ·exact h1
 ·rw[List.drop_of_length_le h1] at h; cases h
theorem isS_lt{l:List Tk}{i:Nat}{c:UInt8}(h:isS (l.drop i) c=true):i<l.length:=by
 rcases Nat.lt_or_ge i l.length with h1|h1
 ·exact h1
 ·rw[List.drop_of_length_le h1] at h; cases h
theorem isW_no{l:List Tk}{c:UInt8}(h:isS l c=true):isW l=false:=by
 unfold isS at h
 split at h
 ·rename_i t r
  simp at h
  simp[isW,h.1]
 ·cases h
theorem txt_at{l:List Tk}{i:Nat}(h:i<l.length):∃t,l[i]?=some t∧l[i]=t∧t.text=txt (l.drop i):=by
 obtain⟨t,ht,hd⟩:=drop_cons h
 refine⟨t,ht,?_,?_⟩
 ·rw[List.getElem?_eq_getElem h] at ht
  injection ht
 ·rw[hd]; rfl
def IOk(l:List Tk)(R:Option (List Fd×List Tk))(q:Bool×Nat×List Fd):Prop :=
 q.2.1≤l.length∧q.2.2.length≤q.2.1∧if q.1=true∨isS (l.drop q.2.1) 125=false then ∃n,(l.drop q.2.1).length<n+1∧pFds (n+1) q.2.2 (l.drop q.2.1)=R else R=some (q.2.2,l.drop (q.2.1+1))
theorem IOk.fst{l:List Tk}{R:Option (List Fd×List Tk)}{b:Bool}{a:Nat}{acc:List Fd}(h:IOk l R (b,a,acc))(hb:b=true∨isS (l.drop a) 125=false):∃n,(l.drop a).length<n+1∧pFds (n+1) acc (l.drop a)=R:=by
 have:=h.2.2
 rwa [if_pos hb] at this
theorem IOk.lst{l:List Tk}{R:Option (List Fd×List Tk)}{a:Nat}{acc:List Fd}(h:IOk l R (false,a,acc))(hb:isS (l.drop a) 125=true):R=some (acc,l.drop (a+1)):=by
 have:=h.2.2
 rwa [if_neg (by simp[hb])] at this
theorem IOk.bad{l:List Tk}{R:Option (List Fd×List Tk)}{b:Bool}{a:Nat}{acc:List Fd}(h:IOk l R (b,a,acc))(hb:b=true∨isS (l.drop a) 125=false)(hp:pFd (l.drop a)=none):R=none:=by
 obtain⟨n,_,h2⟩:=h.fst hb
 rw[←h2]
 simp only[pFds,hp]
theorem IOk.next{l:List Tk}{R:Option (List Fd×List Tk)}{b:Bool}{a:Nat}{acc:List Fd}(h:IOk l R (b,a,acc))(hb:b=true∨isS (l.drop a) 125=false){f:Fd}{a':Nat}(hp:pFd (l.drop a)=some (f,l.drop a'))(h1:a<a')(h2:a'≤l.length):IOk l R (false,a',acc++[f]):=by
 obtain⟨n,h3,h4⟩:=h.fst hb
 have hl:=h.2.1
 simp only[pFds,hp] at h4
 simp only[List.length_drop] at h3
 have ha:=h.1
 simp only at ha hl
 refine⟨h2,by simp; omega,?_⟩
 simp only
 split at h4
 ·rename_i h5
  rw[if_neg (by simp[h5]),←h4,List.drop_drop]
 ·rename_i h5
  rw[if_pos (by simpa using h5)]
  obtain⟨m,rfl⟩:∃m,n=m+1:=⟨n - 1,by omega⟩
  exact⟨m,by simp only[List.length_drop]; omega,h4⟩
def OOk(l:List Tk)(q:Bool×Nat×List Ty):Prop :=
 q.2.1≤l.length∧q.2.2.length≤q.2.1∧if q.1=true∨q.2.1<l.length then ∃n,(l.drop q.2.1).length<n+1∧pTys (n+1) q.2.2 (l.drop q.2.1)=tysOf l else tysOf l=some q.2.2
theorem OOk.zero(l:List Tk):OOk l (true,0,[]):=⟨by simp,by simp,by rw[if_pos (.inl rfl)]; exact⟨l.length,by simp,by simp[tysOf]⟩⟩
theorem OOk.bad{l:List Tk}{b:Bool}{a:Nat}{acc:List Ty}(h:OOk l (b,a,acc))(hb:b=true∨a<l.length)(hp:pTy (l.drop a)=none):tysOf l=none:=by
 have:=h.2.2
 rw[if_pos hb] at this
 obtain⟨n,_,h2⟩:=this
 rw[←h2]
 simp only[pTys,hp]
theorem OOk.lst{l:List Tk}{a:Nat}{acc:List Ty}(h:OOk l (false,a,acc))(hb:¬a<l.length):tysOf l=some acc:=by
 have:=h.2.2
 rwa [if_neg (by simpa using hb)] at this
theorem OOk.next{l:List Tk}{b:Bool}{a:Nat}{acc:List Ty}(h:OOk l (b,a,acc))(hb:b=true∨a<l.length){t:Ty}{a':Nat}(hp:pTy (l.drop a)=some (t,l.drop a'))(h1:a<a')(h2:a'≤l.length):OOk l (false,a',acc++[t]):=by
 have:=h.2.2
 rw[if_pos hb] at this
 obtain⟨n,h3,h4⟩:=this
 have hl:=h.2.1
 have ha:=h.1
 simp only[pTys,hp] at h4
 simp only[List.length_drop] at h3
 simp only at ha hl
 refine⟨h2,by simp; omega,?_⟩
 simp only
 split at h4
 ·rename_i h5
  have h5:l.length≤a':=by simpa using h5
  rw[if_neg (by simp; omega),←h4]
 ·rename_i h5
  have h5:a'<l.length:=by simp at h5; omega
  rw[if_pos (.inr h5)]
  obtain⟨m,rfl⟩:∃m,n=m+1:=⟨n - 1,by omega⟩
  exact⟨m,by simp only[List.length_drop]; omega,h4⟩
theorem IOk.zero{l:List Tk}{a:Nat}(h:isS (l.drop (a+2)) 123=true):IOk l (pFds ((l.drop a).length+1) [] (l.drop (a+3))) (true,a+3,[]):=by
 have:=isS_lt h
 exact⟨by simp only; omega,by simp,by rw[if_pos (.inl rfl)]; exact⟨(l.drop a).length,by simp only[List.length_drop]; omega,rfl⟩⟩
end Go.Am
