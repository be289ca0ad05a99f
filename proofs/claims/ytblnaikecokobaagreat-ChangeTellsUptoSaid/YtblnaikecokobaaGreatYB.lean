/- Parts of the proof: an abstract machine for Go functions, and what functions of the program give back (Rr4, Rr5). No condition. -/
import Derived.Test.YtblnaikecokobaaGreatYA
namespace Go.Am
set_option linter.all false
open Go Go.RowKit Go.Proofs
set_option maxRecDepth 100000
set_option linter.all false
set_option pp.maxSteps 200000
theorem pureL_rep{x:AV}(h:x.pureB=true):∀n:Nat,pureL (List.replicate n x)=true
 | 0=>rfl
 | n+1=>by simp[List.replicate_succ,pureL,h,pureL_rep h n]
def insL(S:List AV)(x:AV)(k:Nat):List AV:=S.take k++x::S.drop k
theorem insL_len{S:List AV}{x:AV}{k:Nat}(h:k≤S.length):(insL S x k).length=S.length+1:=by simp[insL]; omega
theorem insL_at{S:List AV}{x:AV}{k:Nat}(h:k≤S.length):(insL S x k)[k]?=some x:=by
 unfold insL
 rw[List.getElem?_append_right (by simp; omega)]
 simp[Nat.min_eq_left h]
theorem insL_lt{S:List AV}{x:AV}{j k:Nat}(hj:j<k)(h:k≤S.length):(insL S x k)[j]?=S[j]?:=by
 unfold insL
 rw[List.getElem?_append_left (by simp; omega),List.getElem?_take,if_pos hj]
theorem insL_step{S:List AV}{x y:AV}{j:Nat}(h:S[j]?=some y):((insL S x (j+1)).set (j+1) y).set j x=insL S x j:=by
 have hj:=(List.getElem?_eq_some_iff.1 h).1
 apply List.ext_getElem?
 intro m
 simp only[List.getElem?_set,List.length_set]
 rw[insL_len (by omega)]
 by_cases h1:j=m
 ·subst h1
  rw[if_pos rfl,if_pos (by omega),insL_at (by omega)]
 rw[if_neg h1]
 by_cases h2:j+1=m
 ·subst h2
  rw[if_pos rfl,if_pos (by omega)]
  unfold insL
  rw[List.getElem?_append_right (by simp; omega)]
  simp only[List.length_take,Nat.min_eq_left (Nat.le_of_lt hj)]
  rw[show j+1 - j=1 by omega]
  simp[h]
 rw[if_neg h2]
 unfold insL
 by_cases h3:m<j
 ·rw[List.getElem?_append_left (by simp; omega),List.getElem?_append_left (by simp; omega),List.getElem?_take,List.getElem?_take,if_pos (by omega),if_pos h3]
 ·rw[List.getElem?_append_right (by simp; omega),List.getElem?_append_right (by simp; omega)]
  simp only[List.length_take,Nat.min_eq_left (Nat.le_of_lt hj),Nat.min_eq_left (show j+1≤S.length by omega)]
  rw[show m - (j+1)=(m - (j+1) - 1)+1 by omega,show m - j=(m - (j+1) - 1+1)+1 by omega,List.getElem?_cons_succ,List.getElem?_cons_succ,List.getElem?_drop,List.getElem?_drop]
  congr 1; omega
theorem insL_end{S:List AV}{x:AV}{n:Nat}(h:n=S.length):insL S x n=S++[x]:=by subst h; simp[insL]
theorem pure_insL{S:List AV}{x:AV}{k:Nat}(h:pureL S=true)(hx:x.pureB=true):pureL (insL S x k)=true:=by
 have hp:∀l:List AV,pureL l=true↔∀y∈l,y.pureB=true:=fun l=>by
  induction l with
  | nil=>simp[pureL]
  | cons a l ih=>simp[pureL,ih]
 rw[hp] at h ⊢
 intro y hy
 rcases List.mem_append.1 hy with hy|hy
 ·exact h y (List.mem_of_mem_take hy)
 ·rcases List.mem_cons.1 hy with rfl|hy
  ·exact hx
  ·exact h y (List.mem_of_mem_drop hy)
set_option maxHeartbeats 2000000 in
theorem DoOf_1c(s:Sta)(q:Nat)(i fd n:Int)(tx:List UInt8)(id:Nat)(ty:Ty)(hty:s.types[q]?=some ty)(hf:fForm ⟨1,q,i,fd,n,tx⟩=0)(hi:1≤i∧i≤999)(h12:s.things.length≤1000)(a:Int)(hta:tgAt s.things q i=a)(ha:a<0)(h:s.things.length≠12)(h6:ty.fields.length≤1000)(K:Nat)(hK:∀k,k≤s.things.length→(∀t∈s.things.drop k,aheadB q i t.type t.id=true)→(∀t,0<k→s.things[k - 1]?=some t→aheadB q i t.type t.id=false)→k=K):FnOk Tryz.prog 32 [eSta s,eEv ⟨1,q,i,fd,n,tx⟩] [] id (.tup [.agg [.sl (s.types.map eTy),.sl (insL (s.things.map eTg) (.agg [.int .i64 q,.int .i64 i,.sl (List.replicate ty.fields.length (.agg [.int .i64 0,.str [],.nils]))]) K)],.int .i64 0]) []:=by
 have hwq:¬((s.types.length:Int)≤(q:Int)):=by have:=(List.getElem?_eq_some_iff.1 hty).1; omega
 have hq:=(List.getElem?_eq_some_iff.1 hty).1
 have hCE:=fun id=>rCheckEvent_ok ⟨1,q,i,fd,n,tx⟩ id
 rw[hf] at hCE
 have hTA:=fun id=>ThingAt_ok s q i id (by omega)
 rw[hta] at hTA
 unfold eSta eEv at *
 refine fn_okc Tryz.func32 hcc32 (by decide) hcr32 (by simp[Tryz.ntmps32]) fun E hP hR hl hid=>?_
 simp only[cr32] at hR
 refine w_go 4000 ?_
 simp[cc32]
 (refine w_call hP rfl (hCE _) (by simp) (by simp<;>rfl) ?_; refine w_go 4000 ?_; simp)
 refine goc_false (by simp; omega) ?_
 simp
 (refine w_callg hP (by simp) rfl (fun hc=>⟨between_ok _ _ _ _,by revert hc; simp; try grind,by simp⟩) ?_; refine w_go 4000 ?_; simp)
 refine goc_false (by simp; omega) ?_
 simp
 (refine w_call hP rfl (hTA _) (by simp[hty,eTy]) (by simp[hty,eTy]<;>rfl) ?_; refine w_go 4000 ?_; simp[hty,eTy])
 (repeat (refine And.intro (by first|assumption|omega|(simp; omega)|(simp_all; done)) ?_))
 have hw1:IntKind.i64.wrap (((s.things.length:Int)+1) - 1)=(s.things.length:Int):=by rw[wrap64 (by omega)]; omega
 refine goc_false (by simp; omega) ?_
 simp
 refine goc_false (by simp; omega) ?_
 simp
 refine⟨⟨fun a _=>⟨rfl,fun y hy=>?_⟩,by omega,by omega⟩,⟨by omega,by omega⟩,⟨by omega,by omega⟩,?_⟩
 ·simp[eTg] at hy
  rcases hy with rfl|rfl|rfl<;>rfl
 have hw2:IntKind.i64.wrap (s.things.length:Int)=(s.things.length:Int):=wrap64 (by omega)
 generalize hN:AV.agg [.int .i64 (q:Int),.int .i64 i,.sl (List.replicate ty.fields.length (.agg [.int .i64 0,.str [],.nils]))]=N at *
 have hNp:N.pureB=true:=by rw[←hN]; simp[pureL_rep]
 have hNr:∀R S,RenR R S N N:=fun R S=>renR_pure rfl hNp
 have hNn:∀S,namesIn S N:=fun S=>namesIn_pure _ hNp
 refine w_loop (X:=Nat) (fun k=>⟨[(2,true,.ptr E.n0 0 0),(4,true,.ptr (E.n0+1) 0 0),(9,true,.bsl (E.n0+2) 0 (s.things.length+1)),(10,true,.int .i64 k)],
  [(E.n0,some ⟨[.agg [.sl (s.types.map eTy),.sl (s.things.map eTg)]],.agg [.sl (s.types.map eTy),.sl (s.things.map eTg)],false,false⟩),(E.n0+1,some ⟨[.agg [.nils,.nils]],.agg [.nils,.nils],false,false⟩),(E.n0+2,some ⟨insL (s.things.map eTg) N k,.agg [.int .i64 0,.int .i64 0,.nils],false,false⟩)],3⟩)
  (fun k=>k≤s.things.length∧∀t∈s.things.drop k,aheadB q i t.type t.id=true) (fun k=>k) s.things.length ?_ ⟨by omega,by simp⟩ ?_
 ·have hie:insL (s.things.map eTg) N s.things.length=s.things.map eTg++[N]:=insL_end (by simp)
  have hrn:rnOk [(E.n0,E.n0),(E.n0+1,E.n0+2048),(E.n0+2,E.n0+70656)]:=by simp[hw2,hie,hNr,hNn]
  refine Conv.sub [(E.n0,E.n0),(E.n0+1,E.n0+2048),(E.n0+2,E.n0+70656)] hrn ?_ ?_ ?_ ?_ ?_<;>(try simp[hw2,hie,hNr,hNn])
  exact renL_pure rfl (by rw[←hie]; exact pure_insL (pure_tgs _) hNp)
 ·rintro k ⟨hk,hf⟩ p hp
  cases k with
  | zero =>
   refine w_go 4000 ?_
   simp
   refine w_split .nili (by simp) (fun hc=>by simp at hc) (fun _=>?_)
   refine w_go 4000 ?_
   simp
   have h0:0=K:=hK 0 (by omega) hf fun t h=>by omega
   subst h0
   have hpi:pureL (insL (s.things.map eTg) N 0)=true:=pure_insL (pure_tgs _) hNp
   have hle:(insL (s.things.map eTg) N 0).length=s.things.length+1:=by rw[insL_len (by omega)]; simp
   have htk:List.take (s.things.length+1) (insL (s.things.map eTg) N 0)=insL (s.things.map eTg) N 0:=List.take_of_length_le (by omega)
   have hrn:rnOk []:=by simp[htk,hpi,hle,idO hid]
   rw[hR]
   refine rt_endR (by simp<;>rfl) (by simp[htk,hpi,hle,idO hid]<;>exact⟨rfl,rfl⟩) [] hrn ⟨?_,?_,?_,?_,?_,?_⟩<;>(try simp[htk,hpi,hle,idO hid])
   exact namesL_pure _ hpi
  | succ j =>
   have hjl:j<s.things.length:=by omega
   obtain⟨t1,ht1⟩:∃t1,s.things[j]?=some t1:=⟨_,List.getElem?_eq_getElem hjl⟩
   have hg1:(insL (s.things.map eTg) N (j+1))[j+1]?=some (.agg [.int .i64 (q:Int),.int .i64 i,.sl (List.replicate ty.fields.length (.agg [.int .i64 0,.str [],.nils]))]):=by rw[hN]; exact insL_at (by simp; omega)
   have hg2:(insL (s.things.map eTg) N (j+1))[j]?=some (.agg [.int .i64 t1.type,.int .i64 t1.id,.sl (t1.cells.map eCl)]):=by rw[insL_lt (by omega) (by simp; omega),List.getElem?_map,ht1]; rfl
   have hle:(insL (s.things.map eTg) N (j+1)).length=s.things.length+1:=by rw[insL_len (by simp; omega)]; simp
   have hw4:IntKind.i64.wrap (j:Int)=(j:Int):=wrap64 (by omega)
   have hw5:((j:Int)+1).toNat=j+1:=by omega
   have hw6:(0:Int)<(j:Int)+1:=by omega
   have hw7:(0:Int)≤(j:Int)+1:=by omega
   refine w_go 4000 ?_
   simp[hg1,hg2,hle,hw4,hw5,hw6,hw7]
   refine⟨hjl,by omega,by omega,?_⟩
   (refine w_callg hP (by simp) rfl (fun hc=>⟨isAhead_ok q i t1.type t1.id _ _ _,by revert hc; simp; try grind,by simp⟩) ?_; refine w_go 4000 ?_; simp)
   refine goc (fun g=>?_) (fun g=>?_)
   ·have hg3:∀y,((insL (s.things.map eTg) N (j+1)).set (j+1) y)[j]?=some (.agg [.int .i64 t1.type,.int .i64 t1.id,.sl (t1.cells.map eCl)]):=fun y=>by rw[List.getElem?_set_ne (by omega)]; exact hg2
    have hst:((insL (s.things.map eTg) N (j+1)).set (j+1) (.agg [.int .i64 t1.type,.int .i64 t1.id,.sl (t1.cells.map eCl)])).set j (.agg [.int .i64 (q:Int),.int .i64 i,.sl (List.replicate ty.fields.length (.agg [.int .i64 0,.str [],.nils]))])=insL (s.things.map eTg) N j:=by
     rw[hN]
     exact insL_step (by rw[List.getElem?_map,ht1]; rfl)
    simp[hg1,hg2,hg3,hle,hw4,hw5,hw6,hw7,hst]
    (repeat (refine And.intro (by first|assumption|omega|(simp; omega)|(simp_all; done)) ?_))
    refine hp _ j ⟨by omega,fun t ht=>?_⟩ (by omega) ?_
    ·obtain⟨m,hm1,hm2⟩:=mem_drop_get ht
     rcases Nat.lt_or_ge j m with hjm|hjm
     ·exact hf t (List.mem_of_getElem? (i:=m - (j+1)) (by rw[List.getElem?_drop,show j+1+(m - (j+1))=m by omega]; exact hm2))
     ·obtain rfl:m=j:=by omega
      rw[ht1] at hm2; injection hm2 with hm2; subst hm2; exact g
    ·have hrn:rnOk [(E.n0,E.n0),(E.n0+1,E.n0+1),(E.n0+2,E.n0+2)]:=by simp[hw4,hNr,hNn]
     refine Conv.sub [(E.n0,E.n0),(E.n0+1,E.n0+1),(E.n0+2,E.n0+2)] hrn ?_ ?_ ?_ ?_ ?_<;>(try simp[hw4,hNr,hNn])
     exact renL_pure rfl (pure_insL (pure_tgs _) hNp)
   ·simp
    have h0:j+1=K:=hK (j+1) (by omega) hf fun t h ht=>by
     rw[Nat.add_sub_cancel,ht1] at ht; injection ht with ht; subst ht; exact g
    subst h0
    have hpi:pureL (insL (s.things.map eTg) N (j+1))=true:=pure_insL (pure_tgs _) hNp
    have htk:List.take (s.things.length+1) (insL (s.things.map eTg) N (j+1))=insL (s.things.map eTg) N (j+1):=List.take_of_length_le (by omega)
    have hrn:rnOk []:=by simp[htk,hpi,hle,idO hid]
    rw[hR]
    refine rt_endR (by simp<;>rfl) (by simp[htk,hpi,hle,idO hid]<;>exact⟨rfl,rfl⟩) [] hrn ⟨?_,?_,?_,?_,?_,?_⟩<;>(try simp[htk,hpi,hle,idO hid])
    exact namesL_pure _ hpi
end Go.Am
namespace Go.Am
set_option linter.all false
open Go Go.RowKit Go.Proofs
set_option maxRecDepth 100000
set_option linter.all false
set_option maxHeartbeats 2000000 in
theorem DoOf_2n(s:Sta)(q:Nat)(i fd n:Int)(tx:List UInt8)(id:Nat)(ty:Ty)(hty:s.types[q]?=some ty)(hf:fForm ⟨2,q,i,fd,n,tx⟩=0)(hi:1≤i∧i≤999)(h12:s.things.length≤1000)(a:Int)(hta:tgAt s.things q i=a)(ha:a<0):FnOk Tryz.prog 32 [eSta s,eEv ⟨2,q,i,fd,n,tx⟩] [] id (.tup [eS0,.int .i64 5]) []:=by
 have hwq:¬((s.types.length:Int)≤(q:Int)):=by have:=(List.getElem?_eq_some_iff.1 hty).1; omega
 have hq:=(List.getElem?_eq_some_iff.1 hty).1
 have hCE:=fun id=>rCheckEvent_ok ⟨2,q,i,fd,n,tx⟩ id
 rw[hf] at hCE
 have hTA:=fun id=>ThingAt_ok s q i id (by omega)
 rw[hta] at hTA
 unfold eSta eEv at *
 refine fn_okc Tryz.func32 hcc32 (by decide) hcr32 (by simp[Tryz.ntmps32]) fun E hP hR hl hid=>?_
 simp only[cr32] at hR
 refine w_go 4000 ?_
 simp[cc32]
 (refine w_call hP rfl (hCE _) (by simp) (by simp<;>rfl) ?_; refine w_go 4000 ?_; simp)
 refine goc_false (by simp; omega) ?_
 simp
 (refine w_callg hP (by simp) rfl (fun hc=>⟨between_ok _ _ _ _,by revert hc; simp; try grind,by simp⟩) ?_; refine w_go 4000 ?_; simp)
 refine goc_false (by simp; omega) ?_
 simp
 (refine w_call hP rfl (hTA _) (by simp[hty,eTy]) (by simp[hty,eTy]<;>rfl) ?_; refine w_go 4000 ?_; simp[hty,eTy])
 (repeat (refine And.intro (by first|assumption|omega|(simp; omega)|(simp_all; done)) ?_))
 unfold eS0 at hR
 refine goc_true (by simp; omega) ?_
 simp
 rw[hR]; exact rt_end (by simp<;>rfl) [] trivial (end_pure (by simp) (by simp) (by simp))
set_option maxHeartbeats 2000000 in
theorem DoOf_3n(s:Sta)(q:Nat)(i fd n:Int)(tx:List UInt8)(id:Nat)(ty:Ty)(hty:s.types[q]?=some ty)(hf:fForm ⟨3,q,i,fd,n,tx⟩=0)(hi:1≤i∧i≤999)(h12:s.things.length≤1000)(a:Int)(hta:tgAt s.things q i=a)(ha:a<0):FnOk Tryz.prog 32 [eSta s,eEv ⟨3,q,i,fd,n,tx⟩] [] id (.tup [eS0,.int .i64 5]) []:=by
 have hwq:¬((s.types.length:Int)≤(q:Int)):=by have:=(List.getElem?_eq_some_iff.1 hty).1; omega
 have hq:=(List.getElem?_eq_some_iff.1 hty).1
 have hCE:=fun id=>rCheckEvent_ok ⟨3,q,i,fd,n,tx⟩ id
 rw[hf] at hCE
 have hTA:=fun id=>ThingAt_ok s q i id (by omega)
 rw[hta] at hTA
 unfold eSta eEv at *
 refine fn_okc Tryz.func32 hcc32 (by decide) hcr32 (by simp[Tryz.ntmps32]) fun E hP hR hl hid=>?_
 simp only[cr32] at hR
 refine w_go 4000 ?_
 simp[cc32]
 (refine w_call hP rfl (hCE _) (by simp) (by simp<;>rfl) ?_; refine w_go 4000 ?_; simp)
 refine goc_false (by simp; omega) ?_
 simp
 (refine w_callg hP (by simp) rfl (fun hc=>⟨between_ok _ _ _ _,by revert hc; simp; try grind,by simp⟩) ?_; refine w_go 4000 ?_; simp)
 refine goc_false (by simp; omega) ?_
 simp
 (refine w_call hP rfl (hTA _) (by simp[hty,eTy]) (by simp[hty,eTy]<;>rfl) ?_; refine w_go 4000 ?_; simp[hty,eTy])
 (repeat (refine And.intro (by first|assumption|omega|(simp; omega)|(simp_all; done)) ?_))
 unfold eS0 at hR
 refine goc_true (by simp; omega) ?_
 simp
 rw[hR]; exact rt_end (by simp<;>rfl) [] trivial (end_pure (by simp) (by simp) (by simp))
set_option maxHeartbeats 2000000 in
theorem DoOf_4n(s:Sta)(q:Nat)(i fd n:Int)(tx:List UInt8)(id:Nat)(ty:Ty)(hty:s.types[q]?=some ty)(hf:fForm ⟨4,q,i,fd,n,tx⟩=0)(hi:1≤i∧i≤999)(h12:s.things.length≤1000)(a:Int)(hta:tgAt s.things q i=a)(ha:a<0):FnOk Tryz.prog 32 [eSta s,eEv ⟨4,q,i,fd,n,tx⟩] [] id (.tup [eS0,.int .i64 5]) []:=by
 have hwq:¬((s.types.length:Int)≤(q:Int)):=by have:=(List.getElem?_eq_some_iff.1 hty).1; omega
 have hq:=(List.getElem?_eq_some_iff.1 hty).1
 have hCE:=fun id=>rCheckEvent_ok ⟨4,q,i,fd,n,tx⟩ id
 rw[hf] at hCE
 have hTA:=fun id=>ThingAt_ok s q i id (by omega)
 rw[hta] at hTA
 unfold eSta eEv at *
 refine fn_okc Tryz.func32 hcc32 (by decide) hcr32 (by simp[Tryz.ntmps32]) fun E hP hR hl hid=>?_
 simp only[cr32] at hR
 refine w_go 4000 ?_
 simp[cc32]
 (refine w_call hP rfl (hCE _) (by simp) (by simp<;>rfl) ?_; refine w_go 4000 ?_; simp)
 refine goc_false (by simp; omega) ?_
 simp
 (refine w_callg hP (by simp) rfl (fun hc=>⟨between_ok _ _ _ _,by revert hc; simp; try grind,by simp⟩) ?_; refine w_go 4000 ?_; simp)
 refine goc_false (by simp; omega) ?_
 simp
 (refine w_call hP rfl (hTA _) (by simp[hty,eTy]) (by simp[hty,eTy]<;>rfl) ?_; refine w_go 4000 ?_; simp[hty,eTy])
 (repeat (refine And.intro (by first|assumption|omega|(simp; omega)|(simp_all; done)) ?_))
 unfold eS0 at hR
 refine goc_true (by simp; omega) ?_
 simp
 rw[hR]; exact rt_end (by simp<;>rfl) [] trivial (end_pure (by simp) (by simp) (by simp))
set_option maxHeartbeats 2000000 in
theorem DoOf_5n(s:Sta)(q:Nat)(i fd n:Int)(tx:List UInt8)(id:Nat)(ty:Ty)(hty:s.types[q]?=some ty)(hf:fForm ⟨5,q,i,fd,n,tx⟩=0)(hi:1≤i∧i≤999)(h12:s.things.length≤1000)(a:Int)(hta:tgAt s.things q i=a)(ha:a<0):FnOk Tryz.prog 32 [eSta s,eEv ⟨5,q,i,fd,n,tx⟩] [] id (.tup [eS0,.int .i64 5]) []:=by
 have hwq:¬((s.types.length:Int)≤(q:Int)):=by have:=(List.getElem?_eq_some_iff.1 hty).1; omega
 have hq:=(List.getElem?_eq_some_iff.1 hty).1
 have hCE:=fun id=>rCheckEvent_ok ⟨5,q,i,fd,n,tx⟩ id
 rw[hf] at hCE
 have hTA:=fun id=>ThingAt_ok s q i id (by omega)
 rw[hta] at hTA
 unfold eSta eEv at *
 refine fn_okc Tryz.func32 hcc32 (by decide) hcr32 (by simp[Tryz.ntmps32]) fun E hP hR hl hid=>?_
 simp only[cr32] at hR
 refine w_go 4000 ?_
 simp[cc32]
 (refine w_call hP rfl (hCE _) (by simp) (by simp<;>rfl) ?_; refine w_go 4000 ?_; simp)
 refine goc_false (by simp; omega) ?_
 simp
 (refine w_callg hP (by simp) rfl (fun hc=>⟨between_ok _ _ _ _,by revert hc; simp; try grind,by simp⟩) ?_; refine w_go 4000 ?_; simp)
 refine goc_false (by simp; omega) ?_
 simp
 (refine w_call hP rfl (hTA _) (by simp[hty,eTy]) (by simp[hty,eTy]<;>rfl) ?_; refine w_go 4000 ?_; simp[hty,eTy])
 (repeat (refine And.intro (by first|assumption|omega|(simp; omega)|(simp_all; done)) ?_))
 unfold eS0 at hR
 refine goc_true (by simp; omega) ?_
 simp
 rw[hR]; exact rt_end (by simp<;>rfl) [] trivial (end_pure (by simp) (by simp) (by simp))
set_option maxHeartbeats 2000000 in
theorem DoOf_6n(s:Sta)(q:Nat)(i fd n:Int)(tx:List UInt8)(id:Nat)(ty:Ty)(hty:s.types[q]?=some ty)(hf:fForm ⟨6,q,i,fd,n,tx⟩=0)(hi:1≤i∧i≤999)(h12:s.things.length≤1000)(a:Int)(hta:tgAt s.things q i=a)(ha:a<0):FnOk Tryz.prog 32 [eSta s,eEv ⟨6,q,i,fd,n,tx⟩] [] id (.tup [eS0,.int .i64 5]) []:=by
 have hwq:¬((s.types.length:Int)≤(q:Int)):=by have:=(List.getElem?_eq_some_iff.1 hty).1; omega
 have hq:=(List.getElem?_eq_some_iff.1 hty).1
 have hCE:=fun id=>rCheckEvent_ok ⟨6,q,i,fd,n,tx⟩ id
 rw[hf] at hCE
 have hTA:=fun id=>ThingAt_ok s q i id (by omega)
 rw[hta] at hTA
 unfold eSta eEv at *
 refine fn_okc Tryz.func32 hcc32 (by decide) hcr32 (by simp[Tryz.ntmps32]) fun E hP hR hl hid=>?_
 simp only[cr32] at hR
 refine w_go 4000 ?_
 simp[cc32]
 (refine w_call hP rfl (hCE _) (by simp) (by simp<;>rfl) ?_; refine w_go 4000 ?_; simp)
 refine goc_false (by simp; omega) ?_
 simp
 (refine w_callg hP (by simp) rfl (fun hc=>⟨between_ok _ _ _ _,by revert hc; simp; try grind,by simp⟩) ?_; refine w_go 4000 ?_; simp)
 refine goc_false (by simp; omega) ?_
 simp
 (refine w_call hP rfl (hTA _) (by simp[hty,eTy]) (by simp[hty,eTy]<;>rfl) ?_; refine w_go 4000 ?_; simp[hty,eTy])
 (repeat (refine And.intro (by first|assumption|omega|(simp; omega)|(simp_all; done)) ?_))
 unfold eS0 at hR
 refine goc_true (by simp; omega) ?_
 simp
 rw[hR]; exact rt_end (by simp<;>rfl) [] trivial (end_pure (by simp) (by simp) (by simp))
set_option maxHeartbeats 2000000 in
theorem DoOf_2m(s:Sta)(q:Nat)(i fd n:Int)(tx:List UInt8)(id:Nat)(ty:Ty)(hty:s.types[q]?=some ty)(hf:fForm ⟨2,q,i,fd,n,tx⟩=0)(hi:1≤i∧i≤999)(h12:s.things.length≤1000)(a:Int)(hta:tgAt s.things q i=a)(j:Nat)(hj:a=j)(m:Bool)(hM:∀id,FnOk Tryz.prog 63 [eSta s,.int .i64 q,.int .i64 i] [] id (.bool m) [])(hm:m=true):FnOk Tryz.prog 32 [eSta s,eEv ⟨2,q,i,fd,n,tx⟩] [] id (.tup [eS0,.int .i64 4]) []:=by
 have hwq:¬((s.types.length:Int)≤(q:Int)):=by have:=(List.getElem?_eq_some_iff.1 hty).1; omega
 have hq:=(List.getElem?_eq_some_iff.1 hty).1
 have hCE:=fun id=>rCheckEvent_ok ⟨2,q,i,fd,n,tx⟩ id
 rw[hf] at hCE
 have hTA:=fun id=>ThingAt_ok s q i id (by omega)
 rw[hta] at hTA
 unfold eSta eEv at *
 refine fn_okc Tryz.func32 hcc32 (by decide) hcr32 (by simp[Tryz.ntmps32]) fun E hP hR hl hid=>?_
 simp only[cr32] at hR
 refine w_go 4000 ?_
 simp[cc32]
 (refine w_call hP rfl (hCE _) (by simp) (by simp<;>rfl) ?_; refine w_go 4000 ?_; simp)
 refine goc_false (by simp; omega) ?_
 simp
 (refine w_callg hP (by simp) rfl (fun hc=>⟨between_ok _ _ _ _,by revert hc; simp; try grind,by simp⟩) ?_; refine w_go 4000 ?_; simp)
 refine goc_false (by simp; omega) ?_
 simp
 (refine w_call hP rfl (hTA _) (by simp[hty,eTy]) (by simp[hty,eTy]<;>rfl) ?_; refine w_go 4000 ?_; simp[hty,eTy])
 (repeat (refine And.intro (by first|assumption|omega|(simp; omega)|(simp_all; done)) ?_))
 subst hj
 refine goc_false (by simp) ?_
 simp
 (refine w_call hP rfl (hM _) (by simp) (by simp<;>rfl) ?_; refine w_go 4000 ?_; simp)
 unfold eS0 at hR
 refine goc_true hm ?_
 simp
 rw[hR]; exact rt_end (by simp<;>rfl) [] trivial (end_pure (by simp) (by simp) (by simp))
set_option maxHeartbeats 2000000 in
theorem DoOf_2d(s:Sta)(q:Nat)(i fd n:Int)(tx:List UInt8)(id:Nat)(ty:Ty)(hty:s.types[q]?=some ty)(hf:fForm ⟨2,q,i,fd,n,tx⟩=0)(hi:1≤i∧i≤999)(h12:s.things.length≤1000)(a:Int)(hta:tgAt s.things q i=a)(j:Nat)(hj:a=j)(m:Bool)(hM:∀id,FnOk Tryz.prog 63 [eSta s,.int .i64 q,.int .i64 i] [] id (.bool m) [])(hm:m=false)(hjl:j<s.things.length):FnOk Tryz.prog 32 [eSta s,eEv ⟨2,q,i,fd,n,tx⟩] [] id (.tup [.agg [.sl (s.types.map eTy),.sl ((s.things.map eTg).take j++(s.things.map eTg).drop (j+1))],.int .i64 0]) []:=by
 have hwq:¬((s.types.length:Int)≤(q:Int)):=by have:=(List.getElem?_eq_some_iff.1 hty).1; omega
 have hq:=(List.getElem?_eq_some_iff.1 hty).1
 have hCE:=fun id=>rCheckEvent_ok ⟨2,q,i,fd,n,tx⟩ id
 rw[hf] at hCE
 have hTA:=fun id=>ThingAt_ok s q i id (by omega)
 rw[hta] at hTA
 unfold eSta eEv at *
 refine fn_okc Tryz.func32 hcc32 (by decide) hcr32 (by simp[Tryz.ntmps32]) fun E hP hR hl hid=>?_
 simp only[cr32] at hR
 refine w_go 4000 ?_
 simp[cc32]
 (refine w_call hP rfl (hCE _) (by simp) (by simp<;>rfl) ?_; refine w_go 4000 ?_; simp)
 refine goc_false (by simp; omega) ?_
 simp
 (refine w_callg hP (by simp) rfl (fun hc=>⟨between_ok _ _ _ _,by revert hc; simp; try grind,by simp⟩) ?_; refine w_go 4000 ?_; simp)
 refine goc_false (by simp; omega) ?_
 simp
 (refine w_call hP rfl (hTA _) (by simp[hty,eTy]) (by simp[hty,eTy]<;>rfl) ?_; refine w_go 4000 ?_; simp[hty,eTy])
 (repeat (refine And.intro (by first|assumption|omega|(simp; omega)|(simp_all; done)) ?_))
 subst hj
 refine goc_false (by simp) ?_
 simp
 (refine w_call hP rfl (hM _) (by simp) (by simp<;>rfl) ?_; refine w_go 4000 ?_; simp)
 refine goc_false hm ?_
 have hw1:IntKind.i64.wrap ((j:Int)+1)=((j+1:Nat):Int):=wrap64 (by omega)
 have hmn:min j s.things.length=j:=Nat.min_eq_left (by omega)
 simp[hw1,hmn]
 have hT:∀e∈s.things.map eTg,e.cells.length=3∧∀x∈e.cells,AV.one x=true:=fun e he=>by
  obtain⟨a,_,rfl⟩:=List.mem_map.1 he
  exact⟨rfl,fun y hy=>by simp[eTg,AV.cells] at hy; rcases hy with rfl|rfl|rfl<;>rfl⟩
 refine⟨⟨fun a _=>rfl,by omega⟩,⟨fun e he=>hT e (List.mem_of_mem_take he),by omega,by omega⟩,⟨fun a _=>rfl,by omega,by omega⟩,⟨fun e he=>hT e (List.mem_of_mem_drop he),by omega,by omega⟩,?_⟩
 have htk:List.take (j+(s.things.length - (j+1))) (List.take j (s.things.map eTg)++List.drop (j+1) (s.things.map eTg))=List.take j (s.things.map eTg)++List.drop (j+1) (s.things.map eTg):=List.take_of_length_le (by simp; omega)
 have hp:pureL (List.take j (s.things.map eTg)++List.drop (j+1) (s.things.map eTg))=true:=by
  rw[←List.map_take,←List.map_drop]
  exact pureL_append (pure_tgs _) (pure_tgs _)
 have hrn:rnOk []:=by simp[htk,hp,hmn,idO hid]
 rw[hR]
 refine rt_endR (by simp<;>rfl) (by simp[htk,hp,hmn,idO hid]<;>exact⟨rfl,rfl⟩) [] hrn ⟨?_,?_,?_,?_,?_,?_⟩<;>(try simp[htk,hp,hmn,idO hid])
 exact namesL_pure _ hp
end Go.Am
