/- Parts of the proof: an abstract machine for Go functions, and what functions of the program give back (Vl7, Vl8, Vl9). No condition. -/
import Derived.Test.YtbjmmndeeeoloaaGreatDoorXI
import Derived.Test.YtbjmmndeeeoloaaGreatDoorXD
namespace Go.Am
set_option linter.all false
open Go Go.RowKit Go.Proofs
set_option maxRecDepth 100000
set_option linter.all false
theorem CalledOf_ok(s:Sel)(id:Nat):FnOk Tryz.prog 33 [eSel s] [] id (.str (called s)) []:=by
 rw[eSel_eq]
 refine fn_okc Tryz.func33 hcc33 (by decide) hcr33 (by simp[Tryz.ntmps33]) fun E hP hR hl hid=>?_
 simp only[cr33] at hR
 refine w_go 4000 ?_
 simp[cc33]
 refine goc (fun h=>?_) (fun h=>?_)<;>simp
 ·have h:¬s.alias≠[]:=by simpa using h
  rw[hR]; exact rt_end (by simp<;>rfl) [] trivial (end_pure (by simp; unfold called; rw[if_neg h]) (by simp) (by simp))
 ·have h:s.alias≠[]:=by simpa using h
  rw[hR]; exact rt_end (by simp<;>rfl) [] trivial (end_pure (by simp; unfold called; rw[if_pos h]) (by simp) (by simp))
theorem deepL_nil(m:Nat):deepL m []=0:=by cases m<;>rfl
def mostK(m d:Nat)(l:List Sel):Nat:=if l=[] then 0 else deepL m l+d
def mostV(m d:Nat)(l:List Sel)(i:Nat):Nat:=if i=0 then 0 else deepP m l i+d
def most0(i:Nat):Nat:=if i=0 then 0 else 6
theorem deepP_pos{m:Nat}{l:List Sel}{i:Nat}(h:l≠[]):1≤deepP m l i:=by
 have hl:=List.length_pos_iff.2 h
 have key:∀(q:List Sel) (a:Nat),1≤a→1≤q.foldl (fun d s=>max d (deepL m s.kids+1)) a:=by
  intro q
  induction q with
  | nil=>intro a ha; exact ha
  | cons x r ih=>intro a ha; simp only[List.foldl_cons]; exact ih _ (by omega)
 exact key _ _ (by omega)
set_option maxHeartbeats 2000000 in
theorem count_ok:∀(m d:Nat) (l:List Sel) (id:Nat),m+d=5→szL l≤1099511627776→FnOk Tryz.prog 60 [.sl (l.map eSel),.int .i64 ((d+1:Nat):Int)] [] id (.tup [.int .i64 (manyL m l),.int .i64 (mostK m d l)]) []
 | 0,d,l,id,hm,hl=>by
  obtain rfl:d=5:=by omega
  have hlen:=szL_len l
  refine fn_okc Tryz.func60 hcc60 (by decide) hcr60 (by simp[Tryz.ntmps60]) fun E hP hR hl hid=>?_
  simp only[cr60] at hR
  refine w_go 4000 ?_
  simp[cc60]
  refine w_loop (X:=Nat) (fun i=>⟨[(0,true,.sl (l.map eSel)),(1,true,.int .i64 6),(6,true,.int .i64 l.length),(7,true,.int .i64 (most0 i)),(8,true,.int .i64 i)],[],0⟩) (fun i=>i≤l.length) (fun i=>l.length - i) 0 ?_ (by omega) ?_
  ·have hrn:rnOk []:=by simp[most0]
   refine Conv.sub [] hrn ?_ ?_ ?_ ?_ ?_<;>(try simp[most0])
  ·rintro i hi p hp
   have hi1:i<l.length→IntKind.i64.wrap ((i:Int)+1)=((i+1:Nat):Int):=fun _=>wrap64 (by omega)
   by_cases hi0:i=0
   ·subst hi0
    refine w_go 4000 ?_
    simp[most0]
    refine goc (fun h=>?_) (fun h=>?_)
    ·have h:=of_decide_eq_true h
     simp
     refine hp _ 1 (by omega) (by omega) ?_
     have hrn:rnOk []:=by simp[most0,show IntKind.i64.wrap (1:Int)=1 from by decide]
     refine Conv.sub [] hrn ?_ ?_ ?_ ?_ ?_<;>(try simp[most0,show IntKind.i64.wrap (1:Int)=1 from by decide])
    ·have h:=of_decide_eq_false h
     simp
     rw[hR]; exact rt_end (by simp<;>rfl) [] trivial (end_pure (by simp; have hl:l=[]:=(by simpa using h); subst hl; simp[manyL,mostK]) (by simp) (by simp))
   ·refine w_go 4000 ?_
    simp[most0,hi0]
    refine goc (fun h=>?_) (fun h=>?_)
    ·have h:=of_decide_eq_true h
     simp
     refine hp _ (i+1) (by omega) (by omega) ?_
     have hrn:rnOk []:=by simp[most0,hi1 h]
     refine Conv.sub [] hrn ?_ ?_ ?_ ?_ ?_<;>(try simp[most0,hi1 h])
    ·have h:=of_decide_eq_false h
     simp
     have hne:l≠[]:=by rintro rfl; simp at hi; omega
     have hlp:=List.length_pos_iff.2 hne
     rw[hR]; exact rt_end (by simp<;>rfl) [] trivial (end_pure (by simp; simp[manyL,mostK,hne,deepL]; omega) (by simp) (by simp))
 | m+1,d,l,id,hm,hl=>by
  have hlen:=szL_len l
  have e6:mostV m d l 0=0:=rfl
  refine fn_okc Tryz.func60 hcc60 (by decide) hcr60 (by simp[Tryz.ntmps60]) fun E hP hR hl hid=>?_
  simp only[cr60] at hR
  refine w_go 4000 ?_
  simp[cc60]
  refine w_loop (X:=Nat) (fun i=>⟨[(0,true,.sl (l.map eSel)),(1,true,.int .i64 ((d+1:Nat):Int)),(6,true,.int .i64 (manyP m l i)),(7,true,.int .i64 (mostV m d l i)),(8,true,.int .i64 i)],[],0⟩) (fun i=>i≤l.length) (fun i=>l.length - i) 0 ?_ (by omega) ?_
  ·have hrn:rnOk []:=by simp[manyP_zero,e6]
   refine Conv.sub [] hrn ?_ ?_ ?_ ?_ ?_<;>(try simp[manyP_zero,e6])
  ·rintro i hi p hp
   refine w_go 4000 ?_
   simp
   refine goc (fun h=>?_) (fun h=>?_)
   ·have h:=of_decide_eq_true h
    obtain⟨x,hx,hdd⟩:=drop_cons h
    have hi1:IntKind.i64.wrap ((i:Int)+1)=((i+1:Nat):Int):=wrap64 (by omega)
    have hxm:x∈l:=List.mem_of_getElem? hx
    have hne:l≠[]:=by rintro rfl; simp at hxm
    have hd1:IntKind.i64.wrap ((d:Int)+1+1)=((d+1+1:Nat):Int):=by rw[wrap64 (by omega)]; omega
    have hsz:=szL_kids hxm
    have hs:=manyP_succ (m:=m) hx
    have hsd:=deepP_succ (m:=m) hx
    have hpp:=deepP_pos (m:=m) (i:=i) hne
    have hs1:IntKind.i64.wrap ((manyP m l i:Int)+manyL m x.kids)=((manyP m l (i+1):Nat):Int):=by rw[hs,wrap64 (by have:=manyP_le m l (i+1); omega)]; omega
    have ih:=count_ok m (d+1) x.kids
    simp
    by_cases hi0:i=0
    ·have e9:mostV m d l i=0:=by unfold mostV; rw[if_pos hi0]
     have e10:deepP m l i=1:=by rw[hi0,deepP_zero]; have:=List.length_pos_iff.2 hne; omega
     refine goc_true (by simp[e9]; try omega) ?_
     simp
     refine goc_false (by simp; omega) ?_
     simp[hx,eSel_eq x,hd1]
     refine⟨h,?_⟩
     (refine w_call hP rfl (ih _ (by omega) (by omega)) (by simp[hs1]) (by simp[hs1]<;>rfl) ?_; refine w_go 4000 ?_; simp[hs1])
     refine goc (fun h2=>?_) (fun h2=>?_)<;>simp
     ·have e7:mostK m (d+1) x.kids=mostV m d l (i+1):=by
       have h2:=of_decide_eq_true h2
       unfold mostV; rw[if_neg (by omega),hsd]; unfold mostK at h2 ⊢; split at h2
       ·omega
       ·rename_i hk; rw[if_neg hk]; omega
      refine hp _ (i+1) (by omega) (by omega) ?_
      have hrn:rnOk []:=by simp[hi1,e7]
      refine Conv.sub [] hrn ?_ ?_ ?_ ?_ ?_<;>(try simp[hi1,e7])
     ·have e7:d+1=mostV m d l (i+1):=by
       have h2:=of_decide_eq_false h2
       skip
       unfold mostV; rw[if_neg (by omega),hsd]; unfold mostK at h2; split at h2
       ·rename_i hk; rw[hk,deepL_nil]; omega
       ·omega
      have e7':(d:Int)+(1:Int)=(mostV m d l (i+1):Int):=by omega
      refine hp _ (i+1) (by omega) (by omega) ?_
      have hrn:rnOk []:=by simp[hi1,e7']
      refine Conv.sub [] hrn ?_ ?_ ?_ ?_ ?_<;>(try simp[hi1,e7'])
    ·have e9:mostV m d l i=deepP m l i+d:=by unfold mostV; rw[if_neg hi0]
     refine goc_false (by simp[e9]; try omega) ?_
     simp
     refine goc_false (by simp; omega) ?_
     simp[hx,eSel_eq x,hd1]
     refine⟨h,?_⟩
     (refine w_call hP rfl (ih _ (by omega) (by omega)) (by simp[hs1]) (by simp[hs1]<;>rfl) ?_; refine w_go 4000 ?_; simp[hs1])
     refine goc (fun h2=>?_) (fun h2=>?_)<;>simp
     ·have e7:mostK m (d+1) x.kids=mostV m d l (i+1):=by
       have h2:=of_decide_eq_true h2
       unfold mostV; rw[if_neg (by omega),hsd]; unfold mostK at h2 ⊢; split at h2
       ·omega
       ·rename_i hk; rw[if_neg hk]; omega
      refine hp _ (i+1) (by omega) (by omega) ?_
      have hrn:rnOk []:=by simp[hi1,e7]
      refine Conv.sub [] hrn ?_ ?_ ?_ ?_ ?_<;>(try simp[hi1,e7])
     ·have e7:mostV m d l i=mostV m d l (i+1):=by
       have h2:=of_decide_eq_false h2
       rw[e9] at h2 ⊢
       unfold mostV; rw[if_neg (by omega),hsd]; unfold mostK at h2; split at h2
       ·rename_i hk; rw[hk,deepL_nil]; omega
       ·omega
      have e7':((mostV m d l i:Nat):Int)=(mostV m d l (i+1):Int):=by omega
      refine hp _ (i+1) (by omega) (by omega) ?_
      have hrn:rnOk []:=by simp[hi1,e7']
      refine Conv.sub [] hrn ?_ ?_ ?_ ?_ ?_<;>(try simp[hi1,e7'])
   ·have h:=of_decide_eq_false h
    simp
    have e8:mostV m d l i=mostK (m+1) d l:=by
     unfold mostV mostK
     by_cases hl0:l=[]
     ·subst hl0; simp at hi; rw[if_pos hi,if_pos rfl]
     ·have:=List.length_pos_iff.2 hl0
      rw[if_neg (by omega),if_neg hl0,deepP_end (by omega)]
    rw[hR]; exact rt_end (by simp<;>rfl) [] trivial (end_pure (by simp; rw[manyP_end (by omega),e8]; exact⟨rfl,rfl⟩) (by simp) (by simp))
end Go.Am
namespace Go.Am
set_option linter.all false
open Go Go.RowKit Go.Proofs
set_option maxRecDepth 100000
set_option linter.all false
def fDup(e:Int)(b:Bool):Int:=if e≠0 then e else if b=true then 6 else 0
theorem any_take_succ{α:Type}{p:α→Bool}{l:List α}{h:Nat}{x:α}(hx:l[h]?=some x):(l.take (h+1)).any p=((l.take h).any p||p x):=by rw[take_snoc hx]; simp
theorem any_take_mono{α:Type}{p:α→Bool}{l:List α}{h k:Nat}(hk:h≤k)(ht:(l.take h).any p=true):(l.take k).any p=true:=by
 obtain⟨y,hy,hp⟩:=List.any_eq_true.1 ht
 exact List.any_eq_true.2 ⟨y,(List.take_prefix_take_left hk).subset hy,hp⟩
theorem fDup_end{α:Type}{p:α→Bool}{l:List α}{e:Int}{h k:Nat}(hk:h≤k)(hx:¬(h<k∧fDup e ((l.take h).any p)=0)):fDup e ((l.take h).any p)=fDup e ((l.take k).any p):=by
 by_cases hh:h=k
 ·rw[hh]
 have hne:fDup e ((l.take h).any p)≠0:=fun h0=>hx ⟨by omega,h0⟩
 unfold fDup at hne ⊢
 by_cases he:e≠0
 ·rw[if_pos he,if_pos he]
 ·rw[if_neg he] at hne ⊢
  rw[if_neg he]
  split at hne
  ·rename_i h1; rw[if_pos h1,if_pos (any_take_mono hk h1)]
  ·exact (hne rfl).elim
theorem fDup_zero{e:Int}{b:Bool}(h:fDup e b=0):e=0∧b=false:=by
 unfold fDup at h
 split at h
 ·rename_i h1; exact (h1 h).elim
 ·split at h
  ·simp at h
  ·rename_i h1 h2; exact⟨Classical.byContradiction h1,by simpa using h2⟩
theorem fArg1_dup(a:Ag)(ah:List Ag):fArg1 a ah=if fDup (fName a.name) (hasA ah a.name)≠0 then fDup (fName a.name) (hasA ah a.name) else fArg a:=by
 unfold fArg1 fDup
 repeat' split
 all_goals simp_all
theorem stage_len{a:Int}{n:Nat}(h:(if a≠0 then a else if 5<n then 2 else 0)=0):n≤5:=by
 split at h
 ·omega
 ·split at h
  ·omega
  ·omega
def fHd(s:Sel):Int:=if fNm s≠0 then fNm s else fArgs s.args
theorem fSel1_dup(s:Sel)(ah:List Sel):fSel1 s ah=fDup (fHd s) (ah.any fun x=>called x==called s):=by
 rw[fSel1_nm]
 unfold fDup fHd
 repeat' split
 all_goals simp_all
set_option maxHeartbeats 4000000 in
theorem checkSelects_ok:∀(n:Nat) (l:List Sel) (id:Nat),szL l<n→szL l≤1099511627776→FnOk Tryz.prog 61 [.sl (l.map eSel)] [] id (.int .i64 (fChkL l [])) []
 | 0,l,id,hn,hl=>by omega
 | n+1,l,id,hn,hl=>by
  have ih:=checkSelects_ok n
  have hlen:=szL_len l
  refine fn_okc Tryz.func61 hcc61 (by decide) hcr61 (by simp[Tryz.ntmps61]) fun E hP hR hl hid=>?_
  simp only[cr61] at hR
  refine w_go 4000 ?_
  simp[cc61]
  refine w_loop (X:=Nat) (fun i=>⟨[(0,true,.sl (l.map eSel)),(3,true,.int .i64 i)],[],0⟩) (fun i=>i≤l.length∧fChkL (l.drop i) (l.take i)=fChkL l []) (fun i=>l.length - i) 0 ?_ ⟨by omega,rfl⟩ ?_
  ·have hrn:rnOk []:=by simp
   refine Conv.sub [] hrn ?_ ?_ ?_ ?_ ?_<;>(try simp)
  ·rintro i ⟨hi,hf⟩ p hp
   refine w_go 4000 ?_
   simp
   refine goc (fun h=>?_) (fun h=>?_)
   ·have h:=of_decide_eq_true h
    obtain⟨x,hx,hd⟩:=drop_cons h
    rw[hd] at hf
    simp only[fChkL] at hf
    rw[←take_snoc hx] at hf
    have hi1:IntKind.i64.wrap ((i:Int)+1)=((i+1:Nat):Int):=wrap64 (by omega)
    have hxm:x∈l:=List.mem_of_getElem? hx
    have hsz:=szL_kids hxm
    have hsx:=szL_mem hxm
    have hse:=sz_eq x
    simp[hx,eSel_eq x]
    refine⟨h,?_⟩
    refine w_call hP rfl (CheckName_ok x.name _) (by simp) (by simp<;>rfl) ?_
    refine w_cutS (X:=Int) (fun e=>⟨[(0,true,.sl (l.map eSel)),(3,true,.int .i64 i),(4,true,.ptr E.n0 0 0),(5,true,.int .i64 e)],[(E.n0,some ⟨[.agg [.str x.alias,.str x.name,.sl (x.args.map eAg),.sl (x.kids.map eSel)]],.agg [.str [],.str [],.nils,.nils],false,false⟩)],1⟩) (fun e=>e=fNm x) (fun q hq=>?_) (fun e he=>?_)
    ·refine w_go 4000 ?_
     simp
     refine goc (fun h1=>?_) (fun h1=>?_)<;>simp
     ·simp at h1
      (refine w_call hP rfl (CheckName_ok x.alias _) (by simp) (by simp<;>rfl) ?_; refine w_go 4000 ?_; simp)
      refine hq _ (fName x.alias) (by unfold fNm; rw[if_neg (by simp[h1.1]),if_pos h1.2]) ?_
      have hrn:rnOk [(E.n0,E.n0+8192)]:=by simp
      refine Conv.sub [(E.n0,E.n0+8192)] hrn ?_ ?_ ?_ ?_ ?_<;>(try simp)
     ·simp at h1
      refine hq _ (fName x.name) (by
       unfold fNm
       split
       ·rfl
       ·rename_i h0
        have h0:fName x.name=0:=by simpa using h0
        rw[if_neg (by simp[h1 h0]),h0]) ?_
      have hrn:rnOk [(E.n0,E.n0+8192)]:=by simp
      refine Conv.sub [(E.n0,E.n0+8192)] hrn ?_ ?_ ?_ ?_ ?_<;>(try simp)
    subst he
    refine w_seq (w_cut (X:=Int) (fun e=>⟨[(0,true,.sl (l.map eSel)),(3,true,.int .i64 i),(4,true,.ptr E.n0 0 0),(5,true,.int .i64 e)],[(E.n0,some ⟨[.agg [.str x.alias,.str x.name,.sl (x.args.map eAg),.sl (x.kids.map eSel)]],.agg [.str [],.str [],.nils,.nils],false,false⟩)],1⟩) (fun e=>e=if fNm x≠0 then fNm x else if 5<x.args.length then 2 else 0) (fun q hq=>?_) (fun e he=>?_))
    ·refine w_go 4000 ?_
     simp
     refine goc (fun h1=>?_) (fun h1=>?_)<;>simp
     ·simp at h1
      refine hq _ 2 (by rw[if_neg (by simp[h1.1]),if_pos (by omega)]) ?_
      have hrn:rnOk [(E.n0,E.n0)]:=by simp
      refine Conv.sub [(E.n0,E.n0)] hrn ?_ ?_ ?_ ?_ ?_<;>(try simp)
     ·simp at h1
      refine hq _ (fNm x) (by
       split
       ·rfl
       ·rename_i h0
        have h0:fNm x=0:=by simpa using h0
        rw[if_neg (by have:=h1 h0; omega),h0]) ?_
      have hrn:rnOk [(E.n0,E.n0)]:=by simp
      refine Conv.sub [(E.n0,E.n0)] hrn ?_ ?_ ?_ ?_ ?_<;>(try simp)
    refine w_seq (w_cut (X:=Int) (fun e=>⟨[(0,true,.sl (l.map eSel)),(3,true,.int .i64 i),(4,true,.ptr E.n0 0 0),(5,true,.int .i64 e)],[(E.n0,some ⟨[.agg [.str x.alias,.str x.name,.sl (x.args.map eAg),.sl (x.kids.map eSel)]],.agg [.str [],.str [],.nils,.nils],false,false⟩)],1⟩) (fun e=>e=fHd x) (fun q hq=>?_) (fun e he=>?_))
    ·have h5:e=0→x.args.length≤5:=fun h0=>stage_len (he▸h0)
     have hhd:fHd x=if e≠0 then e else firstIx (fun k a=>fArg1 a (x.args.take k)) x.args 0:=by
      rw[he]; unfold fHd fArgs
      by_cases g1:fNm x≠0
      ·rw[if_pos g1,if_pos g1,if_pos g1]
      ·rw[if_neg g1,if_neg g1]
       split
       ·simp
       ·simp
     refine w_go 4000 ?_
     simp
     refine w_loop (X:=Nat×Int) (fun z=>⟨[(0,true,.sl (l.map eSel)),(3,true,.int .i64 i),(4,true,.ptr E.n0 0 0),(5,true,.int .i64 z.2),(6,true,.int .i64 z.1)],[(E.n0,some ⟨[.agg [.str x.alias,.str x.name,.sl (x.args.map eAg),.sl (x.kids.map eSel)]],.agg [.str [],.str [],.nils,.nils],false,false⟩)],1⟩) (fun z=>z.1≤x.args.length∧(z.2=0→x.args.length≤5)∧(if z.2≠0 then z.2 else firstIx (fun k a=>fArg1 a (x.args.take k)) (x.args.drop z.1) z.1)=fHd x) (fun z=>x.args.length - z.1) (0,e) ?_ ⟨by simp,h5,by rw[hhd]; rfl⟩ ?_
     ·have hrn:rnOk [(E.n0,E.n0)]:=by simp
      refine Conv.sub [(E.n0,E.n0)] hrn ?_ ?_ ?_ ?_ ?_<;>(try simp)
     ·rintro⟨k,e⟩ ⟨hk,h5,he⟩ q2 hq2
      simp only at hk h5 he hq2
      refine w_go 4000 ?_
      simp
      refine goc (fun h1=>?_) (fun h1=>?_)
      ·simp at h1
       obtain⟨h7,h8⟩:=h1
       subst h8
       obtain⟨a,hy,hd2⟩:=drop_cons h7
       rw[if_neg (by simp),hd2] at he
       simp only[firstIx] at he
       have hk1:IntKind.i64.wrap ((k:Int)+1)=((k+1:Nat):Int):=wrap64 (by have:=h5 rfl; omega)
       have hv:∀v,fArg1 a (x.args.take k)=v→k+1≤x.args.length∧(v=0→x.args.length≤5)∧(if v≠0 then v else firstIx (fun k a=>fArg1 a (x.args.take k)) (x.args.drop (k+1)) (k+1))=fHd x:=fun v hv=>⟨h7,fun _=>h5 rfl,by rw[←hv]; exact he⟩
       simp[hy,eAg_eq a]
       refine⟨h7,?_⟩
       refine w_call hP rfl (CheckName_ok a.name _) (by simp) (by simp<;>rfl) ?_
       refine w_cutS (X:=Int) (fun e=>⟨[(0,true,.sl (l.map eSel)),(3,true,.int .i64 i),(4,true,.ptr E.n0 0 0),(5,true,.int .i64 e),(6,true,.int .i64 k),(7,true,.ptr (E.n0+1) 0 0)],[(E.n0,some ⟨[.agg [.str x.alias,.str x.name,.sl (x.args.map eAg),.sl (x.kids.map eSel)]],.agg [.str [],.str [],.nils,.nils],false,false⟩),(E.n0+1,some ⟨[.agg [.str a.name,.bool a.isText,.str a.text,.int .i64 a.n]],.agg [.str [],.bool false,.str [],.int .i64 0],false,false⟩)],2⟩) (fun e=>e=fDup (fName a.name) (hasA (x.args.take k) a.name)) (fun q3 hq3=>?_) (fun e he=>?_)
       ·refine w_go 4000 ?_
        simp
        refine w_loop (X:=Nat) (fun h=>⟨[(0,true,.sl (l.map eSel)),(3,true,.int .i64 i),(4,true,.ptr E.n0 0 0),(5,true,.int .i64 (fDup (fName a.name) (hasA (x.args.take h) a.name))),(6,true,.int .i64 k),(7,true,.ptr (E.n0+1) 0 0),(8,true,.int .i64 h)],[(E.n0,some ⟨[.agg [.str x.alias,.str x.name,.sl (x.args.map eAg),.sl (x.kids.map eSel)]],.agg [.str [],.str [],.nils,.nils],false,false⟩),(E.n0+1,some ⟨[.agg [.str a.name,.bool a.isText,.str a.text,.int .i64 a.n]],.agg [.str [],.bool false,.str [],.int .i64 0],false,false⟩)],2⟩) (fun h=>h≤k) (fun h=>k - h) 0 ?_ (by omega) ?_
        ·have hrn:rnOk [(E.n0,E.n0),(E.n0+1,E.n0+14337)]:=by simp[fDup,hasA]
         refine Conv.sub [(E.n0,E.n0),(E.n0+1,E.n0+14337)] hrn ?_ ?_ ?_ ?_ ?_<;>(try simp[fDup,hasA])
         all_goals (by_cases h0:fName a.name=0<;>simp[h0])
        ·intro h hh q4 hq4
         refine w_go 4000 ?_
         simp
         refine goc (fun h1=>?_) (fun h1=>?_)
         ·simp at h1
          obtain⟨h1,h2⟩:=h1
          obtain⟨h3,h4⟩:=fDup_zero h2
          obtain⟨y,hy,-⟩:=drop_cons (l:=x.args) (i:=h) (by omega)
          have ha:hasA (x.args.take (h+1)) a.name=(hasA (x.args.take h) a.name||y.name==a.name):=any_take_succ hy
          have hh1:IntKind.i64.wrap ((h:Int)+1)=((h+1:Nat):Int):=wrap64 (by have:=h5 rfl; omega)
          simp[hy,eAg_eq y]
          refine⟨by omega,?_⟩
          refine goc (fun h5=>?_) (fun h5=>?_)<;>simp
          ·refine hq4 _ (h+1) (by omega) (by omega) ?_
           have e1:fDup (fName a.name) (hasA (x.args.take (h+1)) a.name)=6:=by
            rw[ha]; unfold fDup; rw[if_neg (by simp[h3]),if_pos (by simp[h5])]
           have hrn:rnOk [(E.n0,E.n0),(E.n0+1,E.n0+1)]:=by simp[hh1,e1]
           refine Conv.sub [(E.n0,E.n0),(E.n0+1,E.n0+1)] hrn ?_ ?_ ?_ ?_ ?_<;>(try simp[hh1,e1])
          ·refine hq4 _ (h+1) (by omega) (by omega) ?_
           have e1:fDup (fName a.name) (hasA (x.args.take (h+1)) a.name)=0:=by
            rw[ha]; unfold fDup; rw[if_neg (by simp[h3]),if_neg (by rw[h4,h5]; decide)]
           have hrn:rnOk [(E.n0,E.n0),(E.n0+1,E.n0+1)]:=by simp[hh1,e1,h2]
           refine Conv.sub [(E.n0,E.n0),(E.n0+1,E.n0+1)] hrn ?_ ?_ ?_ ?_ ?_<;>(try simp[hh1,e1,h2])
         ·simp at h1
          simp
          have e1:=fDup_end (p:=fun y:Ag=>y.name==a.name) (l:=x.args) (e:=fName a.name) hh (fun z=>h1 z.1 z.2)
          refine hq3 _ (fDup (fName a.name) (hasA (x.args.take h) a.name)) e1 ?_
          have hrn:rnOk [(E.n0,E.n0),(E.n0+1,E.n0+1)]:=by simp
          refine Conv.sub [(E.n0,E.n0),(E.n0+1,E.n0+1)] hrn ?_ ?_ ?_ ?_ ?_<;>(try simp)
       ·refine w_go 4000 ?_
        simp
        refine goc (fun h1=>?_) (fun h1=>?_)<;>simp
        ·refine hq2 _ (k+1,e) (hv _ (by rw[fArg1_dup,←he]; rw[if_pos (by simpa using h1)])) (by simp only; omega) ?_
         have hrn:rnOk [(E.n0,E.n0)]:=by simp[hk1]
         refine Conv.sub [(E.n0,E.n0)] hrn ?_ ?_ ?_ ?_ ?_<;>(try simp[hk1])
        have h1z:e=0:=by simpa using h1
        refine goc (fun h2=>?_) (fun h2=>?_)<;>simp
        ·refine goc_true h2 ?_
         simp
         simp at h2
         refine hq2 _ (k+1,1) (hv _ (by rw[fArg1_dup,←he,if_neg (by simp[h1z])]; unfold fArg; rw[if_pos (.inl h2)])) (by simp only; omega) ?_
         have hrn:rnOk [(E.n0,E.n0)]:=by simp[hk1]
         refine Conv.sub [(E.n0,E.n0)] hrn ?_ ?_ ?_ ?_ ?_<;>(try simp[hk1])
        refine goc (fun h3=>?_) (fun h3=>?_)<;>simp
        ·simp at h3
         refine hq2 _ (k+1,1) (hv _ (by rw[fArg1_dup,←he,if_neg (by simp[h1z])]; unfold fArg; rw[if_pos (.inr h3)])) (by simp only; omega) ?_
         have hrn:rnOk [(E.n0,E.n0)]:=by simp[hk1]
         refine Conv.sub [(E.n0,E.n0)] hrn ?_ ?_ ?_ ?_ ?_<;>(try simp[hk1])
        have g1:¬((a.isText=true∧a.n≠0)∨(a.isText=false∧a.text≠[])):=by
         rintro (g|g)
         ·simp[g.1,g.2] at h2
         ·simp[g.1,g.2] at h3
        refine goc (fun h4=>?_) (fun h4=>?_)<;>simp
        ·refine hq2 _ (k+1,2) (hv _ (by rw[fArg1_dup,←he,if_neg (by simp[h1z])]; unfold fArg; simp at h4; rw[if_neg g1,if_pos (by omega)])) (by simp only; omega) ?_
         have hrn:rnOk [(E.n0,E.n0)]:=by simp[hk1]
         refine Conv.sub [(E.n0,E.n0)] hrn ?_ ?_ ?_ ?_ ?_<;>(try simp[hk1])
        (refine w_call hP rfl (rIsInt_ok _ _) (by simp) (by simp<;>rfl) ?_; refine w_go 4000 ?_; simp)
        refine goc (fun h5=>?_) (fun h5=>?_)<;>simp
        ·refine hq2 _ (k+1,3) (hv _ (by rw[fArg1_dup,←he,if_neg (by simp[h1z])]; unfold fArg; simp at h4 h5; rw[if_neg g1,if_neg (by omega),if_pos (by omega)])) (by simp only; omega) ?_
         have hrn:rnOk [(E.n0,E.n0)]:=by simp[hk1]
         refine Conv.sub [(E.n0,E.n0)] hrn ?_ ?_ ?_ ?_ ?_<;>(try simp[hk1])
        ·refine hq2 _ (k+1,0) (hv _ (by rw[fArg1_dup,←he,if_neg (by simp[h1z])]; unfold fArg; simp at h4 h5; rw[if_neg g1,if_neg (by omega),if_neg (by omega)])) (by simp only; omega) ?_
         have hrn:rnOk [(E.n0,E.n0)]:=by simp[hk1,h1z]
         refine Conv.sub [(E.n0,E.n0)] hrn ?_ ?_ ?_ ?_ ?_<;>(try simp[hk1,h1z])
      ·simp at h1
       simp
       refine hq _ e (by
        by_cases h0:e=0
        ·rw[if_neg (by simp[h0]),List.drop_of_length_le (by have:=fun h2=>h1 h2 h0; omega)] at he
         rw[h0,←he]; rfl
        ·rw[if_pos h0] at he; exact he) ?_
       have hrn:rnOk [(E.n0,E.n0)]:=by simp
       refine Conv.sub [(E.n0,E.n0)] hrn ?_ ?_ ?_ ?_ ?_<;>(try simp)
    subst he
    rw[fSel1_dup] at hf
    refine w_seq (w_cut (X:=Int) (fun e=>⟨[(0,true,.sl (l.map eSel)),(3,true,.int .i64 i),(4,true,.ptr E.n0 0 0),(5,true,.int .i64 e)],[(E.n0,some ⟨[.agg [.str x.alias,.str x.name,.sl (x.args.map eAg),.sl (x.kids.map eSel)]],.agg [.str [],.str [],.nils,.nils],false,false⟩)],1⟩) (fun e=>e=fDup (fHd x) ((l.take i).any fun y=>called y==called x)) (fun q hq=>?_) (fun e he=>?_))
    ·refine w_go 4000 ?_
     simp
     refine w_loop (X:=Nat) (fun k=>⟨[(0,true,.sl (l.map eSel)),(3,true,.int .i64 i),(4,true,.ptr E.n0 0 0),(5,true,.int .i64 (fDup (fHd x) ((l.take k).any fun y=>called y==called x))),(9,true,.int .i64 k)],[(E.n0,some ⟨[.agg [.str x.alias,.str x.name,.sl (x.args.map eAg),.sl (x.kids.map eSel)]],.agg [.str [],.str [],.nils,.nils],false,false⟩)],1⟩) (fun k=>k≤i) (fun k=>i - k) 0 ?_ (by omega) ?_
     ·have hrn:rnOk [(E.n0,E.n0)]:=by simp[fDup]
      refine Conv.sub [(E.n0,E.n0)] hrn ?_ ?_ ?_ ?_ ?_<;>(try simp[fDup])
      all_goals (by_cases h0:fHd x=0<;>simp[h0])
     ·intro k hk q2 hq2
      refine w_go 4000 ?_
      simp
      refine goc (fun h1=>?_) (fun h1=>?_)
      ·simp at h1
       obtain⟨h1,h2⟩:=h1
       obtain⟨h3,h4⟩:=fDup_zero h2
       obtain⟨y,hy,-⟩:=drop_cons (l:=l) (i:=k) (by omega)
       have ha:=any_take_succ (p:=fun y=>called y==called x) hy
       have hk1:IntKind.i64.wrap ((k:Int)+1)=((k+1:Nat):Int):=wrap64 (by omega)
       have hc1:=CalledOf_ok y
       have hc2:=CalledOf_ok x
       rw[eSel_eq] at hc1 hc2
       simp[hy,eSel_eq y]
       refine⟨by omega,?_⟩
       (refine w_call hP rfl (hc1 _) (by simp) (by simp<;>rfl) ?_; refine w_go 4000 ?_; simp)
       (refine w_call hP rfl (hc2 _) (by simp) (by simp<;>rfl) ?_; refine w_go 4000 ?_; simp)
       refine goc (fun h5=>?_) (fun h5=>?_)<;>simp
       ·refine hq2 _ (k+1) (by omega) (by omega) ?_
        have e1:fDup (fHd x) ((l.take (k+1)).any fun y=>called y==called x)=6:=by
         rw[ha]; unfold fDup; rw[if_neg (by simp[h3]),if_pos (by simp[h5])]
        have hrn:rnOk [(E.n0,E.n0)]:=by simp[hk1,e1]
        refine Conv.sub [(E.n0,E.n0)] hrn ?_ ?_ ?_ ?_ ?_<;>(try simp[hk1,e1])
       ·refine hq2 _ (k+1) (by omega) (by omega) ?_
        have e1:fDup (fHd x) ((l.take (k+1)).any fun y=>called y==called x)=0:=by
         rw[ha]; unfold fDup; rw[if_neg (by simp[h3]),if_neg (by rw[h4,h5]; decide)]
        have hrn:rnOk [(E.n0,E.n0)]:=by simp[hk1,e1,h2]
        refine Conv.sub [(E.n0,E.n0)] hrn ?_ ?_ ?_ ?_ ?_<;>(try simp[hk1,e1,h2])
      ·simp at h1
       simp
       have e1:=fDup_end (p:=fun y=>called y==called x) (l:=l) (e:=fHd x) hk (fun hh=>h1 hh.1 hh.2)
       refine hq _ _ e1 ?_
       have hrn:rnOk [(E.n0,E.n0)]:=by simp
       refine Conv.sub [(E.n0,E.n0)] hrn ?_ ?_ ?_ ?_ ?_<;>(try simp)
    subst he
    generalize fDup (fHd x) ((l.take i).any fun y=>called y==called x)=e at hf ⊢
    refine w_go 4000 ?_
    simp
    refine goc (fun h2=>?_) (fun h2=>?_)<;>simp
    ·have h2:e=0:=by simpa using h2
     subst h2
     rw[fChkK_eq] at hf
     simp only[ne_eq,not_true_eq_false,if_false] at hf
     (refine w_call hP rfl (ih x.kids _ (by omega) (by omega)) (by simp) (by simp<;>rfl) ?_; refine w_go 4000 ?_; simp)
     refine goc (fun h5=>?_) (fun h5=>?_)<;>simp
     ·rw[if_pos (by simpa using h5)] at hf
      rw[hR]; exact rt_end (by simp<;>rfl) [] trivial (end_pure (by simp; exact hf) (by simp) (by simp))
     ·rw[if_neg (by simpa using h5)] at hf
      refine hp _ (i+1) ⟨h,hf⟩ (by omega) ?_
      have hrn:rnOk []:=by simp[hi1]
      refine Conv.sub [] hrn ?_ ?_ ?_ ?_ ?_<;>(try simp[hi1])
    ·have h2:e≠0:=by simpa using h2
     rw[if_pos h2] at hf
     refine goc_true (by simpa using h2) ?_
     simp
     rw[hR]; exact rt_end (by simp<;>rfl) [] trivial (end_pure (by simp; exact hf) (by simp) (by simp))
   ·have h:=of_decide_eq_false h
    simp
    rw[List.drop_of_length_le (by omega)] at hf
    rw[hR]; exact rt_end (by simp<;>rfl) [] trivial (end_pure (by simp; exact hf) (by simp) (by simp))
theorem count5_ok(l:List Sel)(id:Nat)(h:szL l≤1099511627776):FnOk Tryz.prog 60 [.sl (l.map eSel),.int .i64 1] [] id (.tup [.int .i64 (manyL 5 l),.int .i64 (mostK 5 0 l)]) []:=count_ok 5 0 l id rfl h
theorem CheckQuery_ok(l:List Sel)(id:Nat)(h:szL l≤1099511627776):FnOk Tryz.prog 29 [.sl (l.map eSel)] [] id (.int .i64 (fQuery l)) []:=by
 refine fn_okc Tryz.func29 hcc29 (by decide) hcr29 (by simp[Tryz.ntmps29]) fun E hP hR hl hid=>?_
 simp only[cr29] at hR
 refine w_go 4000 ?_
 simp[cc29]
 refine goc (fun h1=>?_) (fun h1=>?_)<;>simp
 ·rw[hR]; exact rt_end (by simp<;>rfl) [] trivial (end_pure (by simp; simp at h1; unfold fQuery; rw[if_pos h1]) (by simp) (by simp))
 have h1:¬l=[]:=by simpa using h1
 have hk:mostK 5 0 l=deepL 5 l:=by unfold mostK; rw[if_neg h1]; rfl
 (refine w_call hP rfl (count5_ok l _ h) (by simp[hk]) (by simp[hk]<;>rfl) ?_; refine w_go 4000 ?_; simp[hk])
 refine goc (fun h2=>?_) (fun h2=>?_)<;>simp
 ·rw[hR]; exact rt_end (by simp<;>rfl) [] trivial (end_pure (by simp; simp at h2; unfold fQuery; rw[if_neg h1,if_pos (by omega)]) (by simp) (by simp))
 ·have h2:¬(40<manyL 5 l∨5<deepL 5 l):=by simp at h2; omega
  (refine w_call hP rfl (checkSelects_ok (szL l+1) l _ (by omega) h) (by simp) (by simp<;>rfl) ?_; refine w_go 4000 ?_; simp)
  rw[hR]; exact rt_end (by simp<;>rfl) [] trivial (end_pure (by simp; unfold fQuery; rw[if_neg h1,if_neg h2]) (by simp) (by simp))
end Go.Am
namespace Go.Am
set_option linter.all false
open Go Go.RowKit Go.Proofs
set_option maxRecDepth 100000
set_option linter.all false
theorem bool_ne{a b:Bool}(h:(!a==b)=true):a≠b:=by cases a<;>cases b<;>simp_all
theorem bool_nn{a b:Bool}(h:(!a==b)=false):¬a≠b:=by cases a<;>cases b<;>simp_all
theorem chk_mem:∀{q ah:List Sel},fChkL q ah=0→∀x∈q,fArgs x.args=0∧fNm x=0∧fChkL x.kids []=0
 | [],ah,h,x,hx=>by cases hx
 | s::r,ah,h,x,hx=>by
  simp only[fChkL] at h
  have h1:fSel1 s ah=0:=Classical.byContradiction fun h0=>by rw[if_pos h0] at h; exact h0 h
  rw[if_neg (by simp[h1])] at h
  have h2:fChkK s=0:=Classical.byContradiction fun h0=>by rw[if_pos h0] at h; exact h0 h
  rw[if_neg (by simp[h2])] at h
  rcases List.mem_cons.1 hx with rfl|hx
  ·rw[fSel1_nm] at h1
   refine⟨?_,?_,by rw[←fChkK_eq]; exact h2⟩
   ·split at h1
    ·rename_i h0; exact (h0 h1).elim
    ·split at h1
     ·rename_i h0; exact (h0 h1).elim
     ·rename_i h0; exact Classical.byContradiction h0
   ·split at h1
    ·rename_i h0; exact (h0 h1).elim
    ·rename_i h0; exact Classical.byContradiction h0
  ·exact chk_mem h x hx
theorem args_int{l:List Ag}(h:fArgs l=0):∀a∈l,-999999999≤a.n∧a.n≤999999999:=fun a ha=>by
 obtain⟨k,hk⟩:=List.mem_iff_getElem?.1 ha
 unfold fArgs at h
 split at h
 ·simp at h
 have h0:=firstIx_zero _ _ _ h k a hk
 simp only[fArg1] at h0
 repeat' split at h0
 all_goals first|omega|skip
 all_goals try (simp_all; done)
 all_goals (unfold fArg at h0; repeat' split at h0)
 all_goals first|omega|(simp_all; done)|(rename_i g; omega)
theorem fKid_id(l:List Ty)(t:Ty){s:Sel}(hn:s.name=tId):fKid l t s=if fArgsV s.args tFirst false 0 999999999≠0 then fArgsV s.args tFirst false 0 999999999 else if s.kids=[] then 0 else 4:=by
 rw[fKid_eq,fieldAt,if_pos hn]
 simp only[show ((1:Int)==4)=false from rfl,show ((1:Int)==3)=false from rfl,Bool.or_false]
 split
 ·rfl
 ·cases hk:s.kids<;>simp
theorem fKid_none(l:List Ty)(t:Ty){s:Sel}(hn:¬s.name=tId)(h:t.fields.find? (fun y=>y.name==s.name)=none):fKid l t s=5:=by
 rw[fKid_eq,fieldAt,if_neg hn,h]
theorem fKid_fd(l:List Ty)(t:Ty){s:Sel}{f:Fd}(hn:¬s.name=tId)(h:t.fields.find? (fun y=>y.name==s.name)=some f)(hf:1≤f.kind∧f.kind≤4){t':Ty}(ht:¬f.kind<3→typeAt l f.of=some t'):
  fKid l t s=if fArgsV s.args tFirst (f.kind==4) 0 999999999≠0 then fArgsV s.args tFirst (f.kind==4) 0 999999999 else if decide (f.kind<3)≠s.kids.isEmpty then 4 else if f.kind<3 then 0 else fKids l t' s.kids:=by
 rw[fKid_eq,fieldAt,if_neg hn,h]
 simp only
 by_cases h3:f.kind<3
 ·have e:(f.kind==3||f.kind==4)=false:=by simp; omega
  rw[e]
  simp only[h3,decide_true,if_true]
  split
  ·rfl
  ·cases hk:s.kids<;>simp
 ·have e:(f.kind==3||f.kind==4)=true:=by simp; omega
  rw[e,ht h3]
  simp only[h3,decide_false,if_false]
  split
  ·rfl
  ·cases hk:s.kids<;>simp
set_option maxHeartbeats 4000000 in
theorem rfits_ok(l:List Ty)(hS:SchOk l):∀(n:Nat) (q:List Sel) (kd:Nat) (t:Ty) (id:Nat),szL q<n→szL q≤1099511627776→l[kd]?=some t→fChkL q []=0 →
  FnOk Tryz.prog 30 [.sl (l.map eTy),.int .i64 (kd:Nat),.sl (q.map eSel)] [] id (.int .i64 (fKids l t q)) []
 | 0,q,kd,t,id,hn,hq8,hk,hc=>by omega
 | n+1,q,kd,t,id,hn,hq8,hkt,hc=>by
  have ih:=rfits_ok l hS n
  have hlen:=szL_len q
  have htm:=List.mem_of_getElem? hkt
  have hkl:=(List.getElem?_eq_some_iff.1 hkt).1
  have hl5:=hS.len
  have hf6:=hS.fields t htm
  have hk0:decide ((kd:Int)<0)=false:=by simp
  refine fn_okc Tryz.func30 hcc30 (by decide) hcr30 (by simp[Tryz.ntmps30]) fun E hP hR hl hid=>?_
  simp only[cr30] at hR
  refine w_go 4000 ?_
  simp[cc30]
  refine w_loop (X:=Nat) (fun i=>⟨[(0,true,.sl (l.map eTy)),(1,true,.int .i64 kd),(2,true,.sl (q.map eSel)),(7,true,.int .i64 i)],[],0⟩) (fun i=>i≤q.length∧fKids l t (q.drop i)=fKids l t q) (fun i=>q.length - i) 0 ?_ ⟨by omega,rfl⟩ ?_
  ·have hrn:rnOk []:=by simp
   refine Conv.sub [] hrn ?_ ?_ ?_ ?_ ?_<;>(try simp)
  ·rintro i ⟨hi,hf⟩ p hp
   refine w_go 4000 ?_
   simp
   refine goc (fun h=>?_) (fun h=>?_)
   ·have h:=of_decide_eq_true h
    obtain⟨x,hx,hd⟩:=drop_cons h
    have hxm:x∈q:=List.mem_of_getElem? hx
    have hsz:=szL_kids hxm
    have hsx:=szL_mem hxm
    have hse:=sz_eq x
    obtain⟨hc1,-,hc2⟩:=chk_mem hc x hxm
    have hints:=args_int hc1
    rw[hd] at hf
    simp only[fKids] at hf
    have hi1:IntKind.i64.wrap ((i:Int)+1)=((i+1:Nat):Int):=wrap64 (by omega)
    by_cases hn:x.name=tId
    ·have hkid:=fKid_id l t hn
     have hn':x.name=[105,100]:=hn
     simp[hx,eSel_eq x,hn',hk0]
     refine⟨h,?_⟩
     refine w_loop (X:=Nat) (fun k=>⟨[(0,true,.sl (l.map eTy)),(1,true,.int .i64 kd),(2,true,.sl (q.map eSel)),(7,true,.int .i64 i),(8,true,.ptr E.n0 0 0),(9,true,.int .i64 (-1)),(10,true,.bool false),(11,true,.bool true),(14,true,.int .i64 k)],[(E.n0,some ⟨[.agg [.str x.alias,.str [105,100],.sl (x.args.map eAg),.sl (x.kids.map eSel)]],.agg [.str [],.str [],.nils,.nils],false,false⟩)],1⟩) (fun k=>k=0) (fun k=>1) 0 ?_ rfl ?_
     ·have hrn:rnOk [(E.n0,E.n0+8192)]:=by simp
      refine Conv.sub [(E.n0,E.n0+8192)] hrn ?_ ?_ ?_ ?_ ?_<;>(try simp)
     ·rintro k rfl p2 hp2
      refine w_go 4000 ?_
      simp
      refine goc (fun h1=>?_) (fun h1=>?_)
      ·have h1:=of_decide_eq_true h1
       obtain⟨a,hy,hd2⟩:=drop_cons (l:=x.args) (i:=0) (by omega)
       have hA:fArgsV x.args tFirst false 0 999999999=5:=by
        rw[List.drop_zero] at hd2
        rw[fArgsV,hd2]
        simp[firstE,fArgV]
       have hv:fKid l t x=5:=by rw[hkid,hA]; rfl
       rw[hv,if_pos (by decide)] at hf
       simp[hy,eAg_eq a,hk0]
       refine⟨by omega,?_⟩
       rw[hR]; exact rt_end (by simp<;>rfl) [] trivial (end_pure (by simp; exact hf) (by simp) (by simp))
      ·have h1:=of_decide_eq_false h1
       have hnil:x.args=[]:=List.eq_nil_of_length_eq_zero (by omega)
       have hA:fArgsV x.args tFirst false 0 999999999=0:=by rw[hnil]; rfl
       simp
       refine goc (fun h2=>?_) (fun h2=>?_)
       ·simp
        have hk0:x.kids≠[]:=by simpa using h2
        have hv:fKid l t x=4:=by rw[hkid,hA,if_neg (by decide),if_neg hk0]
        rw[hv,if_pos (by decide)] at hf
        rw[hR]; exact rt_end (by simp<;>rfl) [] trivial (end_pure (by simp; exact hf) (by simp) (by simp))
       ·simp
        have hk0:x.kids=[]:=by simpa using h2
        have hv:fKid l t x=0:=by rw[hkid,hA,if_neg (by decide),if_pos hk0]
        rw[hv,if_neg (by decide)] at hf
        refine hp _ (i+1) ⟨by omega,hf⟩ (by omega) ?_
        have hrn:rnOk []:=by simp[hi1]
        refine Conv.sub [] hrn ?_ ?_ ?_ ?_ ?_<;>(try simp[hi1])
    ·rcases findJ_spec (fun y=>y.name==x.name) t.fields 0 with⟨q1,q2⟩|⟨m,f,q1,q2,q3⟩
     ·have hv:=fKid_none l t hn q1
      rw[hv,if_pos (by decide)] at hf
      have hF:=FieldAt_ok t.fields x.name
      rw[q2] at hF
      simp[hx,eSel_eq x,hk0]
      refine⟨h,?_⟩
      refine goc_false (by simpa [tId] using hn) ?_
      simp[hkt,eTy]
      refine⟨hkl,?_⟩
      (refine w_call hP rfl (hF _ (by omega)) (by simp) (by simp<;>rfl) ?_; refine w_go 4000 ?_; simp)
      rw[hR]; exact rt_end (by simp<;>rfl) [] trivial (end_pure (by simp; exact hf) (by simp) (by simp))
     ·have hF:=FieldAt_ok t.fields x.name
      rw[q2,Nat.zero_add] at hF
      have hfm:=List.mem_of_getElem? q1
      have hfk:=hS.kinds t htm f hfm
      have hml:=(List.getElem?_eq_some_iff.1 q1).1
      obtain⟨t',ht'⟩:∃t',¬f.kind<3→typeAt l f.of=some t'∧∃m2:Nat,l[m2]?=some t'∧findJ (fun y=>y.name==f.of) l 0=(m2:Int):=by
       by_cases h3:f.kind<3
       ·exact⟨t,fun h=>(h h3).elim⟩
       ·have hof:=hS.linked t htm f hfm (by omega)
        rcases findJ_spec (fun y=>y.name==f.of) l 0 with⟨r1,r2⟩|⟨k2,t',r1,r2,r3⟩
        ·exact absurd hof (by rw[←findT_lt,r2]; decide)
        ·exact⟨t',fun _=>⟨r3,k2,r1,by rw[r2]; simp⟩⟩
      have hkid:=fKid_fd l t hn q3 hfk (fun h3=>(ht' h3).1)
      have hX:=TypeAt_ok l f.of
      generalize findJ (fun y=>y.name==f.of) l 0=nx at hX ht'
      simp[hx,eSel_eq x,hk0]
      refine⟨h,?_⟩
      refine goc_false (by simpa [tId] using hn) ?_
      simp[hkt,eTy]
      refine⟨hkl,?_⟩
      (refine w_call hP rfl (hF _ (by omega)) (by simp) (by simp<;>rfl) ?_; refine w_go 4000 ?_; simp)
      refine goc_false (by simp) ?_
      simp[hkt,q1,eTy,eFd]
      refine⟨hkl,hml,?_⟩
      (refine w_call hP rfl (hX _ (by omega)) (by simp) (by simp<;>rfl) ?_; refine w_go 4000 ?_; simp)
      refine w_loop (X:=Nat) (fun k=>⟨[(0,true,.sl (l.map eTy)),(1,true,.int .i64 kd),(2,true,.sl (q.map eSel)),(7,true,.int .i64 i),(8,true,.ptr E.n0 0 0),(9,true,.int .i64 nx),(10,true,.bool (f.kind==4)),(11,true,.bool (decide (f.kind<3))),(14,true,.int .i64 k)],[(E.n0,some ⟨[.agg [.str x.alias,.str x.name,.sl (x.args.map eAg),.sl (x.kids.map eSel)]],.agg [.str [],.str [],.nils,.nils],false,false⟩)],1⟩) (fun k=>k≤x.args.length∧firstE (fArgV tFirst (f.kind==4) 0 999999999) (x.args.drop k)=firstE (fArgV tFirst (f.kind==4) 0 999999999) x.args) (fun k=>x.args.length - k) 0 ?_ ⟨by omega,rfl⟩ ?_
      ·have hrn:rnOk [(E.n0,E.n0+8192)]:=by simp
       refine Conv.sub [(E.n0,E.n0+8192)] hrn ?_ ?_ ?_ ?_ ?_<;>(try simp)
      ·rintro k ⟨hk,hg⟩ p2 hp2
       refine w_go 4000 ?_
       simp
       refine goc (fun h1=>?_) (fun h1=>?_)
       ·have h1:=of_decide_eq_true h1
        obtain⟨a,hy,hd2⟩:=drop_cons h1
        rw[hd2] at hg
        simp only[firstE] at hg
        have ha:=hints a (List.mem_of_getElem? hy)
        have hk1:IntKind.i64.wrap ((k:Int)+1)=((k+1:Nat):Int):=wrap64 (by omega)
        simp[hy,eAg_eq a,hk0]
        refine⟨h1,?_⟩
        skip
        refine goc (fun h2=>?_) (fun h2=>?_)<;>simp[hk0]
        ·have hv:fArgV tFirst (f.kind==4) 0 999999999 a=5:=by simp at h2; unfold fArgV; rw[if_pos (by simpa [tFirst] using h2)]
         rw[hv,if_pos (by decide)] at hg
         have hA:fArgsV x.args tFirst (f.kind==4) 0 999999999=5:=hg.symm
         have hv:fKid l t x=5:=by rw[hkid,hA,if_pos (by decide)]
         rw[hv,if_pos (by decide)] at hf
         rw[hR]; exact rt_end (by simp<;>rfl) [] trivial (end_pure (by simp; exact hf) (by simp) (by simp))
        refine goc (fun h3=>?_) (fun h3=>?_)<;>simp[hk0]
        ·have hv:fArgV tFirst (f.kind==4) 0 999999999 a=7:=by simp at h2; unfold fArgV; rw[if_neg (by simpa [tFirst] using h2),if_pos h3]
         rw[hv,if_pos (by decide)] at hg
         have hA:fArgsV x.args tFirst (f.kind==4) 0 999999999=7:=hg.symm
         have hv:fKid l t x=7:=by rw[hkid,hA,if_pos (by decide)]
         rw[hv,if_pos (by decide)] at hf
         rw[hR]; exact rt_end (by simp<;>rfl) [] trivial (end_pure (by simp; exact hf) (by simp) (by simp))
        skip
        refine w_split (.bool false) (by simp) (fun hg=>by simp[hk0] at hg) (fun _=>?_)
        refine w_go 4000 ?_
        simp[hk0]
        refine goc (fun h4=>?_) (fun h4=>?_)<;>simp
        ·have hv:fArgV tFirst (f.kind==4) 0 999999999 a=3:=by simp at h2 h4; unfold fArgV; rw[if_neg (by simpa [tFirst] using h2),if_neg (by simp[h3]),if_pos (by omega)]
         rw[hv,if_pos (by decide)] at hg
         have hA:fArgsV x.args tFirst (f.kind==4) 0 999999999=3:=hg.symm
         have hv:fKid l t x=3:=by rw[hkid,hA,if_pos (by decide)]
         rw[hv,if_pos (by decide)] at hf
         rw[hR]; exact rt_end (by simp<;>rfl) [] trivial (end_pure (by simp; exact hf) (by simp) (by simp))
        ·have hv:fArgV tFirst (f.kind==4) 0 999999999 a=0:=by simp at h2 h4; unfold fArgV; rw[if_neg (by simpa [tFirst] using h2),if_neg (by simp[h3]),if_neg (by omega)]
         rw[hv,if_neg (by decide)] at hg
         refine hp2 _ (k+1) ⟨h1,hg⟩ (by omega) ?_
         have hrn:rnOk [(E.n0,E.n0)]:=by simp[hk1]
         refine Conv.sub [(E.n0,E.n0)] hrn ?_ ?_ ?_ ?_ ?_<;>(try simp[hk1])
       ·have h1:=of_decide_eq_false h1
        rw[List.drop_of_length_le (by omega)] at hg
        simp only[firstE] at hg
        simp
        have hA:fArgsV x.args tFirst (f.kind==4) 0 999999999=0:=hg.symm
        rw[hA,if_neg (by decide)] at hkid
        have hlk:((x.kids.length:Int)==0)=x.kids.isEmpty:=by rw[Bool.eq_iff_iff]; simp
        rw[hlk]
        refine goc (fun h2=>?_) (fun h2=>?_)
        ·try simp
         have hv:fKid l t x=4:=by rw[hkid,if_pos (bool_ne h2)]
         rw[hv,if_pos (by decide)] at hf
         rw[hR]; exact rt_end (by simp<;>rfl) [] trivial (end_pure (by simp; exact hf) (by simp) (by simp))
        ·try simp
         rw[if_neg (bool_nn h2)] at hkid
         refine goc (fun h4=>?_) (fun h4=>?_)
         ·try simp
          have h4:¬f.kind<3:=by simpa using h4
          obtain⟨-,m2,r1,r2⟩:=ht' h4
          rw[if_neg h4] at hkid
          rw[hkid] at hf
          subst r2
          (refine w_call hP rfl (ih x.kids m2 t' _ (by omega) (by omega) r1 hc2) (by simp) (by simp<;>rfl) ?_; refine w_go 4000 ?_; simp)
          refine goc (fun h5=>?_) (fun h5=>?_)<;>simp
          ·rw[if_pos (by simpa using h5)] at hf
           rw[hR]; exact rt_end (by simp<;>rfl) [] trivial (end_pure (by simp; exact hf) (by simp) (by simp))
          ·rw[if_neg (by simpa using h5)] at hf
           refine hp _ (i+1) ⟨h,hf⟩ (by omega) ?_
           have hrn:rnOk []:=by simp[hi1]
           refine Conv.sub [] hrn ?_ ?_ ?_ ?_ ?_<;>(try simp[hi1])
         ·try simp
          have h4:f.kind<3:=by simpa using h4
          rw[if_pos h4] at hkid
          rw[hkid,if_neg (by decide)] at hf
          refine hp _ (i+1) ⟨h,hf⟩ (by omega) ?_
          have hrn:rnOk []:=by simp[hi1]
          refine Conv.sub [] hrn ?_ ?_ ?_ ?_ ?_<;>(try simp[hi1])
   ·have h:=of_decide_eq_false h
    simp
    rw[List.drop_of_length_le (by omega)] at hf
    rw[←hf] at hR
    rw[hR]; exact rt_end (by simp<;>rfl) [] trivial (end_pure (by simp; rfl) (by simp) (by simp))
set_option maxHeartbeats 4000000 in
theorem rroot_ok(l:List Ty)(hS:SchOk l)(q:List Sel)(id:Nat)(hq8:szL q≤1099511627776)(hc:fChkL q []=0):
  FnOk Tryz.prog 30 [.sl (l.map eTy),.int .i64 (-1),.sl (q.map eSel)] [] id (.int .i64 (fFits l q)) []:=by
 have hlen:=szL_len q
 have hl5:=hS.len
 refine fn_okc Tryz.func30 hcc30 (by decide) hcr30 (by simp[Tryz.ntmps30]) fun E hP hR hl hid=>?_
 simp only[cr30] at hR
 refine w_go 4000 ?_
 simp[cc30]
 refine w_loop (X:=Nat) (fun i=>⟨[(0,true,.sl (l.map eTy)),(1,true,.int .i64 (-1)),(2,true,.sl (q.map eSel)),(7,true,.int .i64 i)],[],0⟩) (fun i=>i≤q.length∧fFits l (q.drop i)=fFits l q) (fun i=>q.length - i) 0 ?_ ⟨by omega,rfl⟩ ?_
 ·have hrn:rnOk []:=by simp
  refine Conv.sub [] hrn ?_ ?_ ?_ ?_ ?_<;>(try simp)
 ·rintro i ⟨hi,hf⟩ p hp
  refine w_go 4000 ?_
  simp
  refine goc (fun h=>?_) (fun h=>?_)
  ·have h:=of_decide_eq_true h
   obtain⟨x,hx,hd⟩:=drop_cons h
   have hxm:x∈q:=List.mem_of_getElem? hx
   have hsz:=szL_kids hxm
   have hsx:=szL_mem hxm
   have hse:=sz_eq x
   obtain⟨hc1,-,hc2⟩:=chk_mem hc x hxm
   have hints:=args_int hc1
   rw[hd] at hf
   simp only[fFits,firstE] at hf
   have hi1:IntKind.i64.wrap ((i:Int)+1)=((i+1:Nat):Int):=wrap64 (by omega)
   rcases findJ_spec (fun y=>y.name==x.name) l 0 with⟨q1,q2⟩|⟨m2,t',q1,q2,q3⟩
   ·have hv:fRoot l x=5:=by rw[fRoot,typeAt,q1]
    rw[hv,if_pos (by decide)] at hf
    have hX:=TypeAt_ok l x.name
    rw[q2] at hX
    simp[hx,eSel_eq x]
    refine⟨h,?_⟩
    (refine w_call hP rfl (hX _ (by omega)) (by simp) (by simp<;>rfl) ?_; refine w_go 4000 ?_; simp)
    rw[hR]; exact rt_end (by simp<;>rfl) [] trivial (end_pure (by simp; exact hf) (by simp) (by simp))
   ·have hkid:fRoot l x=if fArgsV x.args tId true 1 999≠0 then fArgsV x.args tId true 1 999 else if x.kids=[] then 4 else fKids l t' x.kids:=by rw[fRoot,typeAt,q3]
    have hX:=TypeAt_ok l x.name
    rw[q2,Nat.zero_add] at hX
    have hK:=fun id=>rfits_ok l hS (szL x.kids+1) x.kids m2 t' id (by omega) (by omega) q1 hc2
    simp[hx,eSel_eq x]
    refine⟨h,?_⟩
    (refine w_call hP rfl (hX _ (by omega)) (by simp) (by simp<;>rfl) ?_; refine w_go 4000 ?_; simp)
    refine goc_false (by simp) ?_
    simp
    refine w_loop (X:=Nat) (fun k=>⟨[(0,true,.sl (l.map eTy)),(1,true,.int .i64 (-1)),(2,true,.sl (q.map eSel)),(7,true,.int .i64 i),(8,true,.ptr E.n0 0 0),(9,true,.int .i64 m2),(10,true,.bool false),(11,true,.bool false),(14,true,.int .i64 k)],[(E.n0,some ⟨[.agg [.str x.alias,.str x.name,.sl (x.args.map eAg),.sl (x.kids.map eSel)]],.agg [.str [],.str [],.nils,.nils],false,false⟩)],1⟩) (fun k=>k≤x.args.length∧firstE (fArgV tId true 1 999) (x.args.drop k)=firstE (fArgV tId true 1 999) x.args) (fun k=>x.args.length - k) 0 ?_ ⟨by omega,rfl⟩ ?_
    ·have hrn:rnOk [(E.n0,E.n0+8192)]:=by simp
     refine Conv.sub [(E.n0,E.n0+8192)] hrn ?_ ?_ ?_ ?_ ?_<;>(try simp)
    ·rintro k ⟨hk,hg⟩ p2 hp2
     refine w_go 4000 ?_
     simp
     refine goc (fun h1=>?_) (fun h1=>?_)
     ·have h1:=of_decide_eq_true h1
      obtain⟨a,hy,hd2⟩:=drop_cons h1
      rw[hd2] at hg
      simp only[firstE] at hg
      have ha:=hints a (List.mem_of_getElem? hy)
      have hk1:IntKind.i64.wrap ((k:Int)+1)=((k+1:Nat):Int):=wrap64 (by omega)
      simp[hy,eAg_eq a]
      refine⟨h1,?_⟩
      refine goc (fun h2=>?_) (fun h2=>?_)<;>simp
      ·have hv:fArgV tId true 1 999 a=5:=by simp at h2; unfold fArgV; rw[if_pos (by simpa [tId] using h2)]
       rw[hv,if_pos (by decide)] at hg
       have hA:fArgsV x.args tId true 1 999=5:=hg.symm
       have hv:fRoot l x=5:=by rw[hkid,hA,if_pos (by decide)]
       rw[hv,if_pos (by decide)] at hf
       rw[hR]; exact rt_end (by simp<;>rfl) [] trivial (end_pure (by simp; exact hf) (by simp) (by simp))
      refine goc (fun h3=>?_) (fun h3=>?_)<;>simp
      ·have hv:fArgV tId true 1 999 a=7:=by simp at h2; unfold fArgV; rw[if_neg (by simpa [tId] using h2),if_pos h3]
       rw[hv,if_pos (by decide)] at hg
       have hA:fArgsV x.args tId true 1 999=7:=hg.symm
       have hv:fRoot l x=7:=by rw[hkid,hA,if_pos (by decide)]
       rw[hv,if_pos (by decide)] at hf
       rw[hR]; exact rt_end (by simp<;>rfl) [] trivial (end_pure (by simp; exact hf) (by simp) (by simp))
      (refine w_callg hP (by simp) rfl (fun hc=>⟨between_ok _ _ _ _,by revert hc; simp; try grind,by simp⟩) ?_; refine w_go 4000 ?_; simp)
      refine goc (fun h4=>?_) (fun h4=>?_)<;>simp
      ·have hv:fArgV tId true 1 999 a=3:=by simp at h2 h4; unfold fArgV; rw[if_neg (by simpa [tId] using h2),if_neg (by simp[h3]),if_pos (by omega)]
       rw[hv,if_pos (by decide)] at hg
       have hA:fArgsV x.args tId true 1 999=3:=hg.symm
       have hv:fRoot l x=3:=by rw[hkid,hA,if_pos (by decide)]
       rw[hv,if_pos (by decide)] at hf
       rw[hR]; exact rt_end (by simp<;>rfl) [] trivial (end_pure (by simp; exact hf) (by simp) (by simp))
      ·have hv:fArgV tId true 1 999 a=0:=by simp at h2 h4; unfold fArgV; rw[if_neg (by simpa [tId] using h2),if_neg (by simp[h3]),if_neg (by omega)]
       rw[hv,if_neg (by decide)] at hg
       refine hp2 _ (k+1) ⟨h1,hg⟩ (by omega) ?_
       have hrn:rnOk [(E.n0,E.n0)]:=by simp[hk1]
       refine Conv.sub [(E.n0,E.n0)] hrn ?_ ?_ ?_ ?_ ?_<;>(try simp[hk1])
     ·have h1:=of_decide_eq_false h1
      rw[List.drop_of_length_le (by omega)] at hg
      simp only[firstE] at hg
      simp
      have hA:fArgsV x.args tId true 1 999=0:=hg.symm
      rw[hA,if_neg (by decide)] at hkid
      refine goc (fun h2=>?_) (fun h2=>?_)
      ·simp
       have h2:x.kids=[]:=by simpa using h2
       have hv:fRoot l x=4:=by rw[hkid,if_pos h2]
       rw[hv,if_pos (by decide)] at hf
       rw[hR]; exact rt_end (by simp<;>rfl) [] trivial (end_pure (by simp; exact hf) (by simp) (by simp))
      ·simp
       have h2:¬x.kids=[]:=by simpa using h2
       rw[if_neg h2] at hkid
       rw[hkid] at hf
       (refine w_call hP rfl (hK _) (by simp) (by simp<;>rfl) ?_; refine w_go 4000 ?_; simp)
       refine goc (fun h5=>?_) (fun h5=>?_)<;>simp
       ·rw[if_pos (by simpa using h5)] at hf
        rw[hR]; exact rt_end (by simp<;>rfl) [] trivial (end_pure (by simp; exact hf) (by simp) (by simp))
       ·rw[if_neg (by simpa using h5)] at hf
        refine hp _ (i+1) ⟨h,hf⟩ (by omega) ?_
        have hrn:rnOk []:=by simp[hi1]
        refine Conv.sub [] hrn ?_ ?_ ?_ ?_ ?_<;>(try simp[hi1])
  ·have h:=of_decide_eq_false h
   simp
   rw[List.drop_of_length_le (by omega)] at hf
   rw[←hf] at hR
   rw[hR]; exact rt_end (by simp<;>rfl) [] trivial (end_pure (by simp; rfl) (by simp) (by simp))
theorem CheckFits_ok(l:List Ty)(q:List Sel)(id:Nat)(hq8:szL q≤1099511627776):
  FnOk Tryz.prog 12 [.sl (l.map eTy),.sl (q.map eSel)] [] id (.int .i64 (fValid l q)) []:=by
 refine fn_okc Tryz.func12 hcc12 (by decide) hcr12 (by simp[Tryz.ntmps12]) fun E hP hR hl hid=>?_
 simp only[cr12] at hR
 refine w_go 4000 ?_
 simp[cc12]
 (refine w_call hP rfl (CheckSchema_ok l _) (by simp) (by simp<;>rfl) ?_; refine w_go 4000 ?_; simp)
 refine goc (fun h1=>?_) (fun h1=>?_)<;>simp
 ·have h1:fCheckT l=0:=by simpa using h1
  have hs:=schOk h1
  (refine w_call hP rfl (CheckQuery_ok q _ hq8) (by simp) (by simp<;>rfl) ?_; refine w_go 4000 ?_; simp)
  refine goc (fun h2=>?_) (fun h2=>?_)<;>simp
  ·have h2:fQuery q=0:=by simpa using h2
   have h3:fChkL q []=0:=by
    unfold fQuery at h2
    split at h2
    ·simp at h2
    ·split at h2
     ·simp at h2
     ·exact h2
   (refine w_call hP rfl (rroot_ok l hs q _ hq8 h3) (by simp) (by simp<;>rfl) ?_; refine w_go 4000 ?_; simp)
   rw[hR]; exact rt_end (by simp<;>rfl) [] trivial (end_pure (by simp; unfold fValid; rw[if_neg (by simp[h1]),if_neg (by simp[h2])]) (by simp) (by simp))
  ·have h2:fQuery q≠0:=by simpa using h2
   rw[hR]; exact rt_end (by simp<;>rfl) [] trivial (end_pure (by simp; unfold fValid; rw[if_neg (by simp[h1]),if_pos h2]) (by simp) (by simp))
 ·have h1:fCheckT l≠0:=by simpa using h1
  refine goc_false (by simpa using h1) ?_
  simp
  rw[hR]; exact rt_end (by simp<;>rfl) [] trivial (end_pure (by simp; unfold fValid; rw[if_pos h1]) (by simp) (by simp))
end Go.Am
