/- Parts of the proof: an abstract machine for Go functions, and what functions of the program give back (Ex15, Ex16, Ex20). No condition. -/
import Derived.Test.YthghjjancoopoaaDoorYC
namespace Go.Am
set_option linter.all false
open Go Go.RowKit Go.Proofs
set_option maxRecDepth 100000
set_option linter.all false
def Out.kind:Out→Int | .mk k _ _ _ _=>k
def Out.n:Out→Int | .mk _ n _ _ _=>n
def Out.text:Out→List UInt8 | .mk _ _ t _ _=>t
def Out.keys:Out→List (List UInt8) | .mk _ _ _ k _=>k
def Out.kids:Out→List Out | .mk _ _ _ _ l=>l
theorem eO_of(o:Out):eO o = .agg [.int .i64 o.kind,.int .i64 o.n,.str o.text,.sl (o.keys.map .str),.sl (o.kids.map eO)]:=by cases o; exact eO_eq ..
mutual
def Out.sz:Out→Nat
 | .mk _ _ _ ks l=>1+ks.length+szOL l
def szOL:List Out→Nat
 | []=>0
 | s::r=>s.sz+szOL r
end
theorem szO_eq(s:Out):s.sz=1+s.keys.length+szOL s.kids:=by cases s; rfl
theorem szOL_len(l:List Out):l.length≤szOL l:=by
 induction l with
 | nil=>simp[szOL]
 | cons s r ih=>have:=szO_eq s; simp only[szOL,List.length_cons]; omega
theorem szOL_mem{l:List Out}{s:Out}(h:s∈l):s.sz≤szOL l:=by
 induction l with
 | nil=>cases h
 | cons x r ih =>
  simp only[szOL]
  rcases List.mem_cons.1 h with rfl|h
  ·omega
  ·have:=ih h; omega
theorem szOL_kids{l:List Out}{s:Out}(h:s∈l):szOL s.kids<szOL l:=by
 have h1:=szOL_mem h
 have h2:=szO_eq s
 omega
def manyO:Nat→List Out→Nat
 | 0,l=>l.length
 | m+1,l=>l.length+(l.map fun s=>manyO m s.kids).sum
def deepO:Nat→List Out→Nat
 | 0,l=>min l.length 1
 | m+1,l=>l.foldl (fun d s=>max d (deepO m s.kids+1)) (min l.length 1)
def manyQ(m:Nat)(l:List Out)(i:Nat):Nat:=l.length+((l.take i).map fun s=>manyO m s.kids).sum
def deepQ(m:Nat)(l:List Out)(i:Nat):Nat:=(l.take i).foldl (fun d s=>max d (deepO m s.kids+1)) (min l.length 1)
theorem manyQ_zero(m:Nat)(l:List Out):manyQ m l 0=l.length:=by simp[manyQ]
theorem deepQ_zero(m:Nat)(l:List Out):deepQ m l 0=min l.length 1:=by simp[deepQ]
theorem manyQ_succ{m:Nat}{l:List Out}{i:Nat}{x:Out}(hx:l[i]?=some x):manyQ m l (i+1)=manyQ m l i+manyO m x.kids:=by
 simp[manyQ,take_snoc hx]; omega
theorem deepQ_succ{m:Nat}{l:List Out}{i:Nat}{x:Out}(hx:l[i]?=some x):deepQ m l (i+1)=max (deepQ m l i) (deepO m x.kids+1):=by
 simp[deepQ,take_snoc hx]
theorem manyQ_end{m:Nat}{l:List Out}{i:Nat}(h:l.length≤i):manyQ m l i=manyO (m+1) l:=by simp[manyQ,manyO,List.take_of_length_le h]
theorem deepQ_end{m:Nat}{l:List Out}{i:Nat}(h:l.length≤i):deepQ m l i=deepO (m+1) l:=by simp[deepQ,deepO,List.take_of_length_le h]
theorem manyO_sum{m:Nat}(h:∀l,manyO m l≤szOL l):∀l:List Out,l.length+(l.map fun s=>manyO m s.kids).sum≤szOL l
 | []=>by simp
 | s::r=>by
  have h1:=manyO_sum h r
  have h2:=h s.kids
  have h3:=szO_eq s
  simp only[szOL,List.length_cons,List.map_cons,List.sum_cons]
  omega
theorem manyO_le:∀(m:Nat) (l:List Out),manyO m l≤szOL l
 | 0,l=>szOL_len l
 | m+1,l=>manyO_sum (manyO_le m) l
theorem manyQ_le(m:Nat)(l:List Out)(i:Nat):manyQ m l i≤szOL l:=by
 have h1:=manyO_sum (manyO_le m) l
 have h2:((l.take i).map fun s=>manyO m s.kids).sum+((l.drop i).map fun s=>manyO m s.kids).sum=(l.map fun s=>manyO m s.kids).sum:=by
  rw[←List.sum_append,←List.map_append,List.take_append_drop]
 unfold manyQ
 omega
theorem deepO_fold{m k:Nat}(h:∀l,deepO m l≤k):∀(l:List Out) (a:Nat),a≤k+1→l.foldl (fun d s=>max d (deepO m s.kids+1)) a≤k+1
 | [],a,ha=>ha
 | s::r,a,ha=>by
  simp only[List.foldl_cons]
  exact deepO_fold h r _ (by have:=h s.kids; omega)
theorem deepO_le:∀(m:Nat) (l:List Out),deepO m l≤m+1
 | 0,l=>by simp only[deepO]; omega
 | m+1,l=>deepO_fold (deepO_le m) l _ (by omega)
set_option maxHeartbeats 1000000 in
theorem oSize_ok:∀(m:Nat) (l:List Out) (id:Nat),m≤1000→szOL l≤1099511627776→FnOk Tryd.prog 30 [.sl (l.map eO),.int .i64 m] [] id (.tup [.int .i64 (manyO m l),.int .i64 (deepO m l)]) []
 | 0,l,id,hm,hl=>by
  have hlen:=szOL_len l
  refine fn_okc Tryd.func30 hcc30 (by decide) hcr30 (by simp[Tryd.ntmps30]) fun E hP hR hl hid=>?_
  simp only[cr30] at hR
  refine w_go 4000 ?_
  simp[cc30]
  refine w_loop (X:=Unit) (fun _=>⟨[(0,true,.sl (l.map eO)),(1,true,.int .i64 0),(6,true,.int .i64 l.length),(7,true,.int .i64 (deepO 0 l)),(17,true,.sl (l.map eO)),(18,true,.int .i64 l.length),(19,true,.int .i64 0)],[],0⟩) (fun _=>True) (fun _=>0) () ?_ trivial ?_
  ·have hrn:rnOk []:=by simp[deepO]
   refine Conv.sub [] hrn ?_ ?_ ?_ ?_ ?_<;>(try simp[deepO])
   all_goals omega
  ·rintro i - p hp
   refine w_go 4000 ?_
   simp
   refine goc (fun h=>?_) (fun h=>?_)
   ·have h:=of_decide_eq_true h
    obtain⟨x,hx,hd⟩:=drop_cons (l:=l) (i:=0) (by omega)
    simp[hx,eO_of x]
    refine⟨by omega,?_⟩
    rw[hR]; exact rt_end (by simp<;>rfl) [] trivial (end_pure (by simp; simp[manyO]) (by simp) (by simp))
   ·simp
    rw[hR]; exact rt_end (by simp<;>rfl) [] trivial (end_pure (by simp; simp[manyO]) (by simp) (by simp))
 | m+1,l,id,hm,hl=>by
  have hlen:=szOL_len l
  refine fn_okc Tryd.func30 hcc30 (by decide) hcr30 (by simp[Tryd.ntmps30]) fun E hP hR hl hid=>?_
  simp only[cr30] at hR
  refine w_go 4000 ?_
  simp[cc30]
  refine w_loop (X:=Nat) (fun i=>⟨[(0,true,.sl (l.map eO)),(1,true,.int .i64 (m+1)),(6,true,.int .i64 (manyQ m l i)),(7,true,.int .i64 (deepQ m l i)),(17,true,.sl (l.map eO)),(18,true,.int .i64 l.length),(19,true,.int .i64 i)],[],0⟩) (fun i=>i≤l.length) (fun i=>l.length - i) 0 ?_ (by omega) ?_
  ·have hrn:rnOk []:=by simp[manyQ_zero,deepQ_zero]
   refine Conv.sub [] hrn ?_ ?_ ?_ ?_ ?_<;>(try simp[manyQ_zero,deepQ_zero])
   all_goals omega
  ·rintro i hi p hp
   refine w_go 4000 ?_
   simp
   refine goc (fun h=>?_) (fun h=>?_)
   ·have h:=of_decide_eq_true h
    obtain⟨x,hx,hd⟩:=drop_cons h
    have hi1:IntKind.i64.wrap ((i:Int)+1)=((i+1:Nat):Int):=wrap64 (by omega)
    have hxm:x∈l:=List.mem_of_getElem? hx
    have ih:=oSize_ok m x.kids
    simp[hx,eO_of x]
    refine⟨h,goc_false (by simp; omega) ?_⟩
    have hm1:IntKind.i64.wrap (m:Int)=(m:Int):=wrap64 (by omega)
    have hsz:=szOL_kids hxm
    have hs:=manyQ_succ (m:=m) hx
    have hsd:=deepQ_succ (m:=m) hx
    have hs1:IntKind.i64.wrap ((manyQ m l i:Int)+manyO m x.kids)=((manyQ m l (i+1):Nat):Int):=by rw[hs,wrap64 (by have:=manyQ_le m l (i+1); omega)]; omega
    have hs2:IntKind.i64.wrap ((deepO m x.kids:Int)+1)=((deepO m x.kids+1:Nat):Int):=wrap64 (by have:=deepO_le m x.kids; omega)
    simp[hm1]
    (refine w_call hP rfl (ih _ (by omega) (by omega)) (by simp[hs1,hs2]) (by simp[hs1,hs2]<;>rfl) ?_; refine w_go 4000 ?_; simp[hs1,hs2])
    refine hp _ (i+1) (by omega) (by omega) ?_
    have hrn:rnOk []:=by simp[hi1,hsd]
    refine Conv.sub [] hrn ?_ ?_ ?_ ?_ ?_<;>(try simp[hi1,hsd])
    all_goals omega
   ·have h:=of_decide_eq_false h
    simp
    rw[hR]; exact rt_end (by simp<;>rfl) [] trivial (end_pure (by simp; rw[manyQ_end (by omega),deepQ_end (by omega)]; exact⟨rfl,rfl⟩) (by simp) (by simp))
end Go.Am
namespace Go.Am
set_option linter.all false
open Go Go.RowKit Go.Proofs
set_option maxRecDepth 100000
set_option linter.all false
noncomputable instance:DecidableEq Out:=fun _ _=>Classical.propDecidable _
theorem out_ext{a b:Out}(h1:a.kind=b.kind)(h2:a.n=b.n)(h3:a.text=b.text)(h4:a.keys=b.keys)(h5:a.kids=b.kids):a=b:=by
 cases a; cases b; simp only[Out.kind,Out.n,Out.text,Out.keys,Out.kids] at *; subst h1 h2 h3 h4 h5; rfl
theorem take_step{α:Type}{l r:List α}{i:Nat}{x y:α}(h:l.take i=r.take i)(hx:l[i]?=some x)(hy:r[i]?=some y)(he:x=y):l.take (i+1)=r.take (i+1):=by
 rw[List.take_succ,List.take_succ,h,hx,hy,he]
set_option maxHeartbeats 2000000 in
theorem Same_ok:∀(m:Nat) (a b:Out) (id:Nat),a.sz<m→a.sz≤1099511627776→FnOk Tryd.prog 9 [eO a,eO b] [] id (.bool (decide (a=b))) []
 | 0,a,b,id,hm,_=>by omega
 | m+1,a,b,id,hm,h8=>by
  have hsz:=szO_eq a
  have hlen:=szOL_len a.kids
  rw[eO_of a,eO_of b]
  refine fn_okc Tryd.func9 hcc9 (by decide) hcr9 (by simp[Tryd.ntmps9]) fun E hP hR hl hid=>?_
  simp only[cr9] at hR
  refine w_go 4000 ?_
  simp[cc9]
  refine goc (fun h=>?_) (fun h=>?_)
  ·simp
   have hne:decide (a=b)=false:=decide_eq_false fun he=>by subst he; simp at h
   rw[hne] at hR
   rw[hR]; exact rt_end (by simp<;>rfl) [] trivial (end_pure (by simp) (by simp) (by simp))
  obtain⟨h1,h2,h3,h4,h5⟩:a.kind=b.kind∧a.n=b.n∧a.text=b.text∧a.keys.length=b.keys.length∧a.kids.length=b.kids.length:=by
   simp at h
   exact⟨h.1.1.1.1,h.1.1.1.2,h.1.1.2,by omega,by omega⟩
  simp
  refine w_loop (X:=Nat) (fun i=>⟨[(2,true,.ptr E.n0 0 0),(3,true,.ptr (E.n0+1) 0 0),(5,true,.int .i64 i)],
   [(E.n0,some ⟨[.agg [.int .i64 a.kind,.int .i64 a.n,.str a.text,.sl (a.keys.map .str),.sl (a.kids.map eO)]],.agg [.int .i64 a.kind,.int .i64 a.n,.str a.text,.sl (a.keys.map .str),.sl (a.kids.map eO)],false,false⟩),(E.n0+1,some ⟨[.agg [.int .i64 b.kind,.int .i64 b.n,.str b.text,.sl (b.keys.map .str),.sl (b.kids.map eO)]],.agg [.int .i64 b.kind,.int .i64 b.n,.str b.text,.sl (b.keys.map .str),.sl (b.kids.map eO)],false,false⟩)],2⟩) (fun i=>i≤a.keys.length∧a.keys.take i=b.keys.take i) (fun i=>a.keys.length - i) 0 ?_ ⟨by omega,rfl⟩ ?_
  ·have hrn:rnOk [(E.n0,E.n0),(E.n0+1,E.n0+1024)]:=by simp
   refine Conv.sub [(E.n0,E.n0),(E.n0+1,E.n0+1024)] hrn ?_ ?_ ?_ ?_ ?_<;>(try simp)
  rintro i ⟨hi,ht⟩ p hp
  refine w_go 4000 ?_
  simp
  refine goc (fun h=>?_) (fun h=>?_)
  ·have h:=of_decide_eq_true h
   obtain⟨x,hx⟩:∃x,a.keys[i]?=some x:=⟨_,List.getElem?_eq_getElem h⟩
   obtain⟨y,hy⟩:∃y,b.keys[i]?=some y:=⟨_,List.getElem?_eq_getElem (by omega)⟩
   have hi1:IntKind.i64.wrap ((i:Int)+1)=((i+1:Nat):Int):=wrap64 (by omega)
   simp[hx,hy]
   refine⟨h,by omega,?_⟩
   refine goc (fun g=>?_) (fun g=>?_)
   ·simp
    have hne:decide (a=b)=false:=decide_eq_false fun he=>by subst he; rw[hx] at hy; injection hy with hy; subst hy; simp at g
    rw[hne] at hR
    rw[hR]; exact rt_end (by simp<;>rfl) [] trivial (end_pure (by simp) (by simp) (by simp))
   ·simp
    refine hp _ (i+1) ⟨h,take_step ht hx hy (by simpa using g)⟩ (by omega) ?_
    have hrn:rnOk [(E.n0,E.n0),(E.n0+1,E.n0+1)]:=by simp[hi1]
    refine Conv.sub [(E.n0,E.n0),(E.n0+1,E.n0+1)] hrn ?_ ?_ ?_ ?_ ?_<;>(try simp[hi1])
  ·have h:=of_decide_eq_false h
   simp
   have hke:a.keys=b.keys:=by
    rw[List.take_of_length_le (by omega),List.take_of_length_le (by omega)] at ht; exact ht
   refine w_loop (X:=Nat) (fun i=>⟨[(2,true,.ptr E.n0 0 0),(3,true,.ptr (E.n0+1) 0 0),(6,true,.int .i64 i)],
    [(E.n0,some ⟨[.agg [.int .i64 a.kind,.int .i64 a.n,.str a.text,.sl (a.keys.map .str),.sl (a.kids.map eO)]],.agg [.int .i64 a.kind,.int .i64 a.n,.str a.text,.sl (a.keys.map .str),.sl (a.kids.map eO)],false,false⟩),(E.n0+1,some ⟨[.agg [.int .i64 b.kind,.int .i64 b.n,.str b.text,.sl (b.keys.map .str),.sl (b.kids.map eO)]],.agg [.int .i64 b.kind,.int .i64 b.n,.str b.text,.sl (b.keys.map .str),.sl (b.kids.map eO)],false,false⟩)],2⟩) (fun i=>i≤a.kids.length∧a.kids.take i=b.kids.take i) (fun i=>a.kids.length - i) 0 ?_ ⟨by omega,rfl⟩ ?_
   ·have hrn:rnOk [(E.n0,E.n0),(E.n0+1,E.n0+1)]:=by simp
    refine Conv.sub [(E.n0,E.n0),(E.n0+1,E.n0+1)] hrn ?_ ?_ ?_ ?_ ?_<;>(try simp)
   clear hp p
   rintro i ⟨hi,ht⟩ p hp
   refine w_go 4000 ?_
   simp
   refine goc (fun h=>?_) (fun h=>?_)
   ·have h:=of_decide_eq_true h
    obtain⟨x,hx⟩:∃x,a.kids[i]?=some x:=⟨_,List.getElem?_eq_getElem h⟩
    obtain⟨y,hy⟩:∃y,b.kids[i]?=some y:=⟨_,List.getElem?_eq_getElem (by omega)⟩
    have hi1:IntKind.i64.wrap ((i:Int)+1)=((i+1:Nat):Int):=wrap64 (by omega)
    have hxm:=szOL_mem (List.mem_of_getElem? hx)
    have ih:=fun id=>Same_ok m x y id (by omega) (by omega)
    rw[eO_of x,eO_of y] at ih
    simp[hx,hy,eO_of x,eO_of y]
    refine⟨h,by omega,?_⟩
    (refine w_call hP rfl (ih _) (by simp) (by simp<;>rfl) ?_; refine w_go 4000 ?_; simp)
    refine goc (fun g=>?_) (fun g=>?_)
    ·simp
     have hne:decide (a=b)=false:=decide_eq_false fun he=>by subst he; rw[hx] at hy; injection hy with hy; subst hy; simp at g
     rw[hne] at hR
     rw[hR]; exact rt_end (by simp<;>rfl) [] trivial (end_pure (by simp) (by simp) (by simp))
    ·simp
     refine hp _ (i+1) ⟨h,take_step ht hx hy (by simpa using g)⟩ (by omega) ?_
     have hrn:rnOk [(E.n0,E.n0),(E.n0+1,E.n0+1)]:=by simp[hi1]
     refine Conv.sub [(E.n0,E.n0),(E.n0+1,E.n0+1)] hrn ?_ ?_ ?_ ?_ ?_<;>(try simp[hi1])
   ·have h:=of_decide_eq_false h
    have hki:a.kids=b.kids:=by
     rw[List.take_of_length_le (by omega),List.take_of_length_le (by omega)] at ht; exact ht
    simp
    rw[decide_eq_true (out_ext h1 h2 h3 hke hki)] at hR
    rw[hR]; exact rt_end (by simp<;>rfl) [] trivial (end_pure (by simp) (by simp) (by simp))
end Go.Am
namespace Go.Am
set_option linter.all false
open Go Go.RowKit Go.Proofs
set_option maxRecDepth 100000
set_option linter.all false
theorem deepO_nil(m:Nat):deepO m []=0:=by cases m<;>rfl
def mostOK(m d:Nat)(l:List Out):Nat:=if l=[] then 0 else deepO m l+d
def mostOV(m d:Nat)(l:List Out)(i:Nat):Nat:=if i=0 then 0 else deepQ m l i+d
def mostO0(i:Nat):Nat:=if i=0 then 0 else 12
theorem deepQ_pos{m:Nat}{l:List Out}{i:Nat}(h:l≠[]):1≤deepQ m l i:=by
 have hl:=List.length_pos_iff.2 h
 have key:∀(q:List Out) (a:Nat),1≤a→1≤q.foldl (fun d s=>max d (deepO m s.kids+1)) a:=by
  intro q
  induction q with
  | nil=>intro a ha; exact ha
  | cons x r ih=>intro a ha; simp only[List.foldl_cons]; exact ih _ (by omega)
 exact key _ _ (by omega)
set_option maxHeartbeats 2000000 in
theorem oCount_ok:∀(m d:Nat) (l:List Out) (id:Nat),m+d=11→szOL l≤1099511627776→FnOk Tryd.prog 20 [.sl (l.map eO),.int .i64 ((d+1:Nat):Int),.int .i64 11] [] id (.tup [.int .i64 (manyO m l),.int .i64 (mostOK m d l)]) []
 | 0,d,l,id,hm,hl=>by
  obtain rfl:d=11:=by omega
  have hlen:=szOL_len l
  refine fn_okc Tryd.func20 hcc20 (by decide) hcr20 (by simp[Tryd.ntmps20]) fun E hP hR hl hid=>?_
  simp only[cr20] at hR
  refine w_go 4000 ?_
  simp[cc20]
  refine w_loop (X:=Nat) (fun i=>⟨[(0,true,.sl (l.map eO)),(1,true,.int .i64 12),(8,true,.int .i64 l.length),(9,true,.int .i64 (mostO0 i)),(10,true,.int .i64 i),(2,true,.int .i64 11)],[],0⟩) (fun i=>i≤l.length) (fun i=>l.length - i) 0 ?_ (by omega) ?_
  ·have hrn:rnOk []:=by simp[mostO0]
   refine Conv.sub [] hrn ?_ ?_ ?_ ?_ ?_<;>(try simp[mostO0])
  ·rintro i hi p hp
   have hi1:i<l.length→IntKind.i64.wrap ((i:Int)+1)=((i+1:Nat):Int):=fun _=>wrap64 (by omega)
   by_cases hi0:i=0
   ·subst hi0
    refine w_go 4000 ?_
    simp[mostO0]
    refine goc (fun h=>?_) (fun h=>?_)
    ·have h:=of_decide_eq_true h
     simp
     refine hp _ 1 (by omega) (by omega) ?_
     have hrn:rnOk []:=by simp[mostO0,show IntKind.i64.wrap (1:Int)=1 from by decide]
     refine Conv.sub [] hrn ?_ ?_ ?_ ?_ ?_<;>(try simp[mostO0,show IntKind.i64.wrap (1:Int)=1 from by decide])
    ·have h:=of_decide_eq_false h
     simp
     rw[hR]; exact rt_end (by simp<;>rfl) [] trivial (end_pure (by simp; have hl:l=[]:=(by simpa using h); subst hl; simp[manyO,mostOK]) (by simp) (by simp))
   ·refine w_go 4000 ?_
    simp[mostO0,hi0]
    refine goc (fun h=>?_) (fun h=>?_)
    ·have h:=of_decide_eq_true h
     simp
     refine hp _ (i+1) (by omega) (by omega) ?_
     have hrn:rnOk []:=by simp[mostO0,hi1 h]
     refine Conv.sub [] hrn ?_ ?_ ?_ ?_ ?_<;>(try simp[mostO0,hi1 h])
    ·have h:=of_decide_eq_false h
     simp
     have hne:l≠[]:=by rintro rfl; simp at hi; omega
     have hlp:=List.length_pos_iff.2 hne
     rw[hR]; exact rt_end (by simp<;>rfl) [] trivial (end_pure (by simp; simp[manyO,mostOK,hne,deepO]; omega) (by simp) (by simp))
 | m+1,d,l,id,hm,hl=>by
  have hlen:=szOL_len l
  have e6:mostOV m d l 0=0:=rfl
  refine fn_okc Tryd.func20 hcc20 (by decide) hcr20 (by simp[Tryd.ntmps20]) fun E hP hR hl hid=>?_
  simp only[cr20] at hR
  refine w_go 4000 ?_
  simp[cc20]
  refine w_loop (X:=Nat) (fun i=>⟨[(0,true,.sl (l.map eO)),(1,true,.int .i64 ((d+1:Nat):Int)),(8,true,.int .i64 (manyQ m l i)),(9,true,.int .i64 (mostOV m d l i)),(10,true,.int .i64 i),(2,true,.int .i64 11)],[],0⟩) (fun i=>i≤l.length) (fun i=>l.length - i) 0 ?_ (by omega) ?_
  ·have hrn:rnOk []:=by simp[manyQ_zero,e6]
   refine Conv.sub [] hrn ?_ ?_ ?_ ?_ ?_<;>(try simp[manyQ_zero,e6])
  ·rintro i hi p hp
   refine w_go 4000 ?_
   simp
   refine goc (fun h=>?_) (fun h=>?_)
   ·have h:=of_decide_eq_true h
    obtain⟨x,hx,hdd⟩:=drop_cons h
    have hi1:IntKind.i64.wrap ((i:Int)+1)=((i+1:Nat):Int):=wrap64 (by omega)
    have hxm:x∈l:=List.mem_of_getElem? hx
    have hne:l≠[]:=by rintro rfl; simp at hxm
    have hd1:IntKind.i64.wrap ((d:Int)+1+1)=((d+1+1:Nat):Int):=by rw[wrap64 (by omega)]; omega
    have hsz:=szOL_kids hxm
    have hs:=manyQ_succ (m:=m) hx
    have hsd:=deepQ_succ (m:=m) hx
    have hpp:=deepQ_pos (m:=m) (i:=i) hne
    have hs1:IntKind.i64.wrap ((manyQ m l i:Int)+manyO m x.kids)=((manyQ m l (i+1):Nat):Int):=by rw[hs,wrap64 (by have:=manyQ_le m l (i+1); omega)]; omega
    have ih:=oCount_ok m (d+1) x.kids
    simp
    by_cases hi0:i=0
    ·have e9:mostOV m d l i=0:=by unfold mostOV; rw[if_pos hi0]
     have e10:deepQ m l i=1:=by rw[hi0,deepQ_zero]; have:=List.length_pos_iff.2 hne; omega
     refine goc_true (by simp[e9]; try omega) ?_
     simp
     refine goc_false (by simp; omega) ?_
     simp[hx,eO_of x,hd1]
     refine⟨h,?_⟩
     (refine w_call hP rfl (ih _ (by omega) (by omega)) (by simp[hs1]) (by simp[hs1]<;>rfl) ?_; refine w_go 4000 ?_; simp[hs1])
     refine goc (fun h2=>?_) (fun h2=>?_)<;>simp
     ·have e7:mostOK m (d+1) x.kids=mostOV m d l (i+1):=by
       have h2:=of_decide_eq_true h2
       unfold mostOV; rw[if_neg (by omega),hsd]; unfold mostOK at h2 ⊢; split at h2
       ·omega
       ·rename_i hk; rw[if_neg hk]; omega
      refine hp _ (i+1) (by omega) (by omega) ?_
      have hrn:rnOk []:=by simp[hi1,e7]
      refine Conv.sub [] hrn ?_ ?_ ?_ ?_ ?_<;>(try simp[hi1,e7])
     ·have e7:d+1=mostOV m d l (i+1):=by
       have h2:=of_decide_eq_false h2
       skip
       unfold mostOV; rw[if_neg (by omega),hsd]; unfold mostOK at h2; split at h2
       ·rename_i hk; rw[hk,deepO_nil]; omega
       ·omega
      have e7':(d:Int)+(1:Int)=(mostOV m d l (i+1):Int):=by omega
      refine hp _ (i+1) (by omega) (by omega) ?_
      have hrn:rnOk []:=by simp[hi1,e7']
      refine Conv.sub [] hrn ?_ ?_ ?_ ?_ ?_<;>(try simp[hi1,e7'])
    ·have e9:mostOV m d l i=deepQ m l i+d:=by unfold mostOV; rw[if_neg hi0]
     refine goc_false (by simp[e9]; try omega) ?_
     simp
     refine goc_false (by simp; omega) ?_
     simp[hx,eO_of x,hd1]
     refine⟨h,?_⟩
     (refine w_call hP rfl (ih _ (by omega) (by omega)) (by simp[hs1]) (by simp[hs1]<;>rfl) ?_; refine w_go 4000 ?_; simp[hs1])
     refine goc (fun h2=>?_) (fun h2=>?_)<;>simp
     ·have e7:mostOK m (d+1) x.kids=mostOV m d l (i+1):=by
       have h2:=of_decide_eq_true h2
       unfold mostOV; rw[if_neg (by omega),hsd]; unfold mostOK at h2 ⊢; split at h2
       ·omega
       ·rename_i hk; rw[if_neg hk]; omega
      refine hp _ (i+1) (by omega) (by omega) ?_
      have hrn:rnOk []:=by simp[hi1,e7]
      refine Conv.sub [] hrn ?_ ?_ ?_ ?_ ?_<;>(try simp[hi1,e7])
     ·have e7:mostOV m d l i=mostOV m d l (i+1):=by
       have h2:=of_decide_eq_false h2
       rw[e9] at h2 ⊢
       unfold mostOV; rw[if_neg (by omega),hsd]; unfold mostOK at h2; split at h2
       ·rename_i hk; rw[hk,deepO_nil]; omega
       ·omega
      have e7':((mostOV m d l i:Nat):Int)=(mostOV m d l (i+1):Int):=by omega
      refine hp _ (i+1) (by omega) (by omega) ?_
      have hrn:rnOk []:=by simp[hi1,e7']
      refine Conv.sub [] hrn ?_ ?_ ?_ ?_ ?_<;>(try simp[hi1,e7'])
   ·have h:=of_decide_eq_false h
    simp
    have e8:mostOV m d l i=mostOK (m+1) d l:=by
     unfold mostOV mostOK
     by_cases hl0:l=[]
     ·subst hl0; simp at hi; rw[if_pos hi,if_pos rfl]
     ·have:=List.length_pos_iff.2 hl0
      rw[if_neg (by omega),if_neg hl0,deepQ_end (by omega)]
    rw[hR]; exact rt_end (by simp<;>rfl) [] trivial (end_pure (by simp; rw[manyQ_end (by omega),e8]; exact⟨rfl,rfl⟩) (by simp) (by simp))
end Go.Am
