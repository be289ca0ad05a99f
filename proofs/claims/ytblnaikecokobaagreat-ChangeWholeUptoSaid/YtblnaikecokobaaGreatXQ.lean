/- Parts of the proof: an abstract machine for Go functions, and what functions of the program give back (Do1, Do2, Do3, Do4, Do5, Do6, Do7). No condition. -/
import Derived.Test.YtblnaikecokobaaGreatXJ
import Derived.Test.YtblnaikecokobaaGreatCcB
import Derived.Test.YtblnaikecokobaaGreatXD
import Derived.Test.YtblnaikecokobaaGreatXO
import Derived.Test.YtblnaikecokobaaGreatXP
namespace Go.Am
set_option linter.all false
open Go Go.RowKit Go.Proofs
set_option maxRecDepth 100000
set_option linter.all false
theorem isNaN_ok(n:Int)(id:Nat):FnOk Tryz.prog 133 [.int .i64 n] [] id (.bool false) []:=by
 refine fn_okc Tryz.func133 hcc133 (by decide) hcr133 (by simp[Tryz.ntmps133]) fun E hP hR hl hid=>?_
 simp only[cr133] at hR
 refine w_go 4000 ?_
 simp[cc133]
 rw[hR]; exact rt_end (by simp<;>rfl) [] trivial (end_pure (by simp) (by simp) (by simp))
theorem isNaN2_ok(n:Int)(id:Nat):FnOk Tryz.prog 129 [.int .i64 n] [] id (.bool false) []:=by
 refine fn_okc Tryz.func129 hcc129 (by decide) hcr129 (by simp[Tryz.ntmps129]) fun E hP hR hl hid=>?_
 simp only[cr129] at hR
 refine w_go 4000 ?_
 simp[cc129]
 rw[hR]; exact rt_end (by simp<;>rfl) [] trivial (end_pure (by simp) (by simp) (by simp))
theorem Less_ok(a b:Int)(id:Nat):FnOk Tryz.prog 128 [.int .i64 a,.int .i64 b] [] id (.bool (decide (a<b))) []:=by
 refine fn_okc Tryz.func128 hcc128 (by decide) hcr128 (by simp[Tryz.ntmps128]) fun E hP hR hl hid=>?_
 simp only[cr128] at hR
 refine w_go 4000 ?_
 simp[cc128]
 (refine w_call hP rfl (isNaN_ok a _) (by simp) (by simp<;>rfl) ?_; refine w_go 4000 ?_; simp)
 (refine w_callg hP (by simp) rfl (fun hc=>⟨isNaN_ok b _,by revert hc; simp; try grind,by simp⟩) ?_; refine w_go 4000 ?_; simp)
 rw[hR]; exact rt_end (by simp<;>rfl) [] trivial (end_pure (by simp) (by simp) (by simp))
def fLt(l:List Int)(x:Int)(k:Nat):Int:=match l[k]? with
 | some y=>y - x
 | none=>0
def iFind(l:List Int)(x:Int):Nat:=bs (fLt l x) 0 l.length
def iFindB(l:List Int)(x:Int):Bool:=decide (iFind l x<l.length)&&decide (fLt l x (iFind l x)=0)
set_option maxHeartbeats 1000000 in
theorem BinInt_ok(l:List Int)(x:Int)(id:Nat)(hl:l.length<1000000):FnOk Tryz.prog 122 [.sl (l.map eI),.int .i64 x] [] id (.tup [.int .i64 (iFind l x),.bool (iFindB l x)]) []:=by
 refine fn_okc Tryz.func122 hcc122 (by decide) hcr122 (by simp[Tryz.ntmps122]) fun E hP hR hl hid=>?_
 simp only[cr122] at hR
 refine w_go 4000 ?_
 simp[cc122]
 refine w_loop (X:=Nat×Nat) (fun q=>⟨[(0,true,.sl (l.map eI)),(1,true,.int .i64 x),(6,true,.int .i64 l.length),(7,true,.int .i64 q.1),(8,true,.int .i64 q.2)],[],0⟩) (fun q=>q.1≤q.2∧q.2≤l.length∧bs (fLt l x) q.1 q.2=iFind l x) (fun q=>q.2 - q.1) (0,l.length) ?_ ⟨by simp,by simp,rfl⟩ ?_
 ·have hrn:rnOk []:=by simp
  refine Conv.sub [] hrn ?_ ?_ ?_ ?_ ?_<;>(try simp)
 ·rintro⟨i,j⟩ ⟨hij,hj,hf⟩ p hp
  simp only at hij hj hf
  refine w_go 4000 ?_
  simp
  refine goc (fun h=>?_) (fun h=>?_)
  ·have h:=of_decide_eq_true h
   have h':i<j:=by omega
   have hk:(i+j) / 2<l.length:=by omega
   obtain⟨t,ht⟩:∃t,l[(i+j) / 2]?=some t:=⟨_,List.getElem?_eq_getElem hk⟩
   have hh:=halfW (i:=i) (j:=j) (by omega) (by omega)
   have h64:(1:Int)≤↑IntKind.u64.bits:=by decide
   generalize hm:(i+j) / 2=m at hh hk ht
   simp[hh,ht,eI_eq]
   refine⟨h64,hk,?_⟩
   (refine w_call hP rfl (Less_ok _ _ _) (by simp) (by simp<;>rfl) ?_; refine w_go 4000 ?_; simp)
   have hfo:fLt l x m=t - x:=by simp only[fLt,ht]
   rw[bs,dif_pos h',hm,hfo] at hf
   refine goc (fun h1=>?_) (fun h1=>?_)
   ·have hm1:IntKind.i64.wrap ((m:Int)+1)=((m+1:Nat):Int):=wrap64 (by omega)
    simp at h1
    rw[if_pos (by omega)] at hf
    simp
    refine hp _ (m+1,j) ⟨by simp only; omega,hj,hf⟩ (by simp only; omega) ?_
    have hrn:rnOk []:=by simp[hm1]
    refine Conv.sub [] hrn ?_ ?_ ?_ ?_ ?_<;>(try simp[hm1])
   ·simp at h1
    rw[if_neg (by omega)] at hf
    simp
    refine hp _ (i,m) ⟨by simp only; omega,by simp only; omega,hf⟩ (by simp only; omega) ?_
    have hrn:rnOk []:=by simp
    refine Conv.sub [] hrn ?_ ?_ ?_ ?_ ?_<;>(try simp)
  ·have h:=of_decide_eq_false h
   have he:i=iFind l x:=by rw[←hf,bs,dif_neg (by omega)]
   simp
   by_cases hi:i<l.length
   ·obtain⟨t,ht⟩:∃t,l[i]?=some t:=⟨_,List.getElem?_eq_getElem hi⟩
    have hfo:fLt l x i=t - x:=by simp only[fLt,ht]
    have hg:l[i]=t:=by rw[List.getElem?_eq_getElem hi] at ht; injection ht
    simp[hi,hg,eI_eq]
    (refine w_callg hP (by simp) rfl (fun hc=>⟨isNaN2_ok _ _,by revert hc; simp; try grind,by simp⟩) ?_; refine w_go 4000 ?_; simp)
    (refine w_callg hP (by simp) rfl (fun hc=>⟨isNaN2_ok _ _,by revert hc; simp; try grind,by simp⟩) ?_; refine w_go 4000 ?_; simp)
    rw[hR]; exact rt_end (by simp<;>rfl) [] trivial (end_pure (by simp; rw[←he]; refine⟨rfl,?_⟩; unfold iFindB; rw[←he,hfo,Bool.eq_iff_iff]; simp[hi]; omega) (by simp) (by simp))
   ·have ht:l[i]?=none:=List.getElem?_eq_none (by omega)
    simp[hi,ht]
    refine w_split (.int .i64 0) (by simp) (fun hg=>by simp at hg) (fun _=>?_)
    refine w_go 4000 ?_
    simp
    (refine w_callg hP (by simp) rfl (fun hc=>⟨isNaN2_ok _ _,by revert hc; simp; try grind,by simp⟩) ?_; refine w_go 4000 ?_; simp)
    rw[hR]; exact rt_end (by simp<;>rfl) [] trivial (end_pure (by simp; rw[←he]; exact⟨rfl,by unfold iFindB; rw[←he]; simp[hi]⟩) (by simp) (by simp))
set_option maxHeartbeats 1000000 in
theorem IxInt_ok(l:List Int)(y:Int)(id:Nat)(hl8:l.length<9223372036854775807):FnOk Tryz.prog 126 [.sl (l.map eI),.int .i64 y] [] id (.int .i64 (findJ (fun x=>y==x) l 0)) []:=by
 refine fn_okc Tryz.func126 hcc126 (by decide) hcr126 (by simp[Tryz.ntmps126]) fun E hP hR hl hid=>?_
 simp only[cr126] at hR
 refine w_go 4000 ?_
 simp[cc126]
 refine w_loop (X:=Nat) (fun i=>⟨[(0,true,.sl (l.map eI)),(1,true,.int .i64 y),(7,true,.int .i64 l.length),(8,true,.int .i64 i)],[],0⟩) (fun i=>i≤l.length∧findJ (fun x=>y==x) (l.drop i) i=findJ (fun x=>y==x) l 0) (fun i=>l.length - i) 0 ?_ ⟨by omega,rfl⟩ ?_
 ·have hrn:rnOk []:=by simp
  refine Conv.sub [] hrn ?_ ?_ ?_ ?_ ?_<;>(try simp)
 ·rintro i ⟨hi,hf⟩ p hp
  refine w_go 4000 ?_
  simp
  refine goc (fun h=>?_) (fun h=>?_)
  ·have h:=of_decide_eq_true h
   obtain⟨x,hx,hd⟩:=drop_cons h
   rw[hd] at hf
   simp only[findJ] at hf
   have hi1:IntKind.i64.wrap ((i:Int)+1)=((i+1:Nat):Int):=wrap64 (by omega)
   simp[hx,eI]
   refine⟨h,?_⟩
   refine goc (fun h1=>?_) (fun h1=>?_)<;>simp
   ·rw[if_pos (by simpa using h1)] at hf
    rw[hR]; exact rt_end (by simp<;>rfl) [] trivial (end_pure (by simp; exact hf) (by simp) (by simp))
   ·rw[if_neg (by simpa using h1)] at hf
    refine hp _ (i+1) ⟨h,hf⟩ (by omega) ?_
    have hrn:rnOk []:=by simp[hi1]
    refine Conv.sub [] hrn ?_ ?_ ?_ ?_ ?_<;>(try simp[hi1])
  ·have h:=of_decide_eq_false h
   simp
   rw[List.drop_of_length_le (by omega)] at hf
   rw[hR]; exact rt_end (by simp<;>rfl) [] trivial (end_pure (by simp; exact hf) (by simp) (by simp))
def hasI(l:List Int)(y:Int):Bool:=l.any fun x=>y==x
theorem HasInt_ok(l:List Int)(y:Int)(id:Nat)(hl8:l.length<9223372036854775807):FnOk Tryz.prog 119 [.sl (l.map eI),.int .i64 y] [] id (.bool (hasI l y)) []:=by
 refine fn_okc Tryz.func119 hcc119 (by decide) hcr119 (by simp[Tryz.ntmps119]) fun E hP hR hl hid=>?_
 simp only[cr119] at hR
 refine w_go 4000 ?_
 simp[cc119]
 (refine w_call hP rfl (IxInt_ok l y _ hl8) (by simp) (by simp<;>rfl) ?_; refine w_go 4000 ?_; simp)
 rw[hR]; exact rt_end (by simp<;>rfl) [] trivial (end_pure (by simp; exact findJ_any _ _ _) (by simp) (by simp))
def eD(l:List Ty)(th:AV)(e:Ev)(i:Int):AV:=.agg [.sl (l.map eTy),th,.int .i64 e.kind,.int .i64 e.type,.int .i64 e.id,.int .i64 e.field,.int .i64 e.n,.str e.text,.int .i64 i]
def meantB(l:List Ty)(e:Ev)(f:Fd)(c:Cl):Bool:=(!isLink f.kind||!(kindOf l f.of==e.type))||!hasI c.ids e.id
set_option maxHeartbeats 1000000 in
theorem Meant1_ok(l:List Ty)(ts:List AV)(e:Ev)(i:Int)(f:Fd)(c:Cl)(j:Nat)(id:Nat)(h5:l.length≤1000)(hc:c.ids.length≤1000)(hp:pureL ts=true):
  FnOk Tryz.prog 118 [eFd f,.cptr [.int .i64 c.n,.str c.text,.sl (c.ids.map eI)],.ptr j 0 0] [(j,⟨[.cptr (eD l (.sl ts) e i).cells],.cptr (eD l (.sl ts) e i).cells,false,false⟩)] id (.bool (meantB l e f c)) []:=by
 have hrt:∀R S,RenL R S ts ts:=fun R S=>renL_pure rfl hp
 have hnt:∀S,namesL S ts:=fun S=>namesL_pure _ hp
 unfold eFd eD
 refine fn_okc Tryz.func118 hcc118 (by decide) hcr118 (by simp[Tryz.ntmps118]) fun E hP hR hl hid=>?_
 simp only[cr118] at hR
 refine w_go 4000 ?_
 simp[cc118]
 have hj:=hl (j,_) (List.mem_cons_self ..)
 simp only at hj
 have j1:=lf hj
 try simp[j1]
 (refine w_call hP rfl (Links_ok _ _) (by simp[j1]) (by simp[j1]<;>rfl) ?_; refine w_go 4000 ?_; simp[j1])
 (refine w_callg hP (by simp[j1,kindOf_eq]) rfl (fun hc=>⟨Find_ok l f.of _ (by omega),by revert hc; simp[j1,kindOf_eq]; try grind,by simp[j1,kindOf_eq]⟩) ?_; refine w_go 4000 ?_; simp[j1,kindOf_eq])
 (refine w_callg hP (by simp[j1]) rfl (fun hc=>⟨HasInt_ok c.ids e.id _ (by omega),by revert hc; simp[j1]; try grind,by simp[j1]⟩) ?_; refine w_go 4000 ?_; simp[j1])
 have hrn:rnOk []:=by simp[j1,hrt,hnt,meantB,idO hid]
 rw[hR]
 refine rt_end (by simp<;>rfl) [] hrn ⟨?_,?_,?_,?_,?_,?_⟩<;>(try simp[j1,hrt,hnt,meantB,idO hid])
 ·rfl
 ·exact namesL_pure _ (by simp[hp])
set_option maxHeartbeats 1000000 in
theorem Meant_ok(s:Sta)(e:Ev)(i:Int)(id:Nat)(h5:s.types.length≤1000)(h12:s.things.length≤1000000)
  (hok:∀t∈s.things,0≤t.type∧t.type.toNat<s.types.length∧t.cells.length=(fldsAt s.types t.type).length∧t.cells.length≤1000000∧∀c∈t.cells,c.ids.length≤6) :
  FnOk Tryz.prog 111 [.cptr (eD s.types (.sl (s.things.map eTg)) e i).cells] [] id (.bool (!eachB (meantB s.types e) s.types s.things)) []:=by
 have hE:=fun j id=>Each_ok s 118 j (.cptr (eD s.types (.sl (s.things.map eTg)) e i).cells) (meantB s.types e) (by simp[eD,AV.cells]) (fun f c id h6=>Meant1_ok s.types (s.things.map eTg) e i f c j id h5 (by omega) (by simp)) hok h12 id
 unfold eD eSta at *
 refine fn_okc Tryz.func111 hcc111 (by decide) hcr111 (by simp[Tryz.ntmps111]) fun E hP hR hl hid=>?_
 simp only[cr111] at hR
 refine w_go 4000 ?_
 simp[cc111]
 (refine w_call hP rfl (hE E.n0 _) (by simp) (by simp<;>rfl) ?_; refine w_go 4000 ?_; simp)
 rw[hR]; exact rt_end (by simp<;>rfl) [] trivial (end_pure (by simp) (by simp) (by simp))
end Go.Am
namespace Go.Am
set_option linter.all false
open Go Go.RowKit Go.Proofs
set_option maxRecDepth 100000
set_option linter.all false
structure OTg where
 t:Tg
 c:Nat
 is:List (Option Nat)
def eIds:Option Nat→Nat→AV
 | none,_=>.nils
 | some i,n=>.bsl i 0 n
def eCn(c:Cl)(i:Option Nat):AV:=.agg [.int .i64 c.n,.str c.text,eIds i c.ids.length]
def eTn(o:OTg):AV:=.agg [.int .i64 o.t.type,.int .i64 o.t.id,.bsl o.c 0 o.t.cells.length]
def idB:Cl→Option Nat→List (Nat×Bx)
 | c,some i=>[(i,iBx c)]
 | _,none=>[]
def cBn(o:OTg):Bx:=⟨o.t.cells.zipWith eCn o.is,zC,false,false⟩
def idsB:List Cl→List (Option Nat)→List (Nat×Bx)
 | c::cs,i::is=>idB c i++idsB cs is
 | _,_=>[]
def OTg.bxs(o:OTg):List (Nat×Bx):=(o.c,cBn o)::idsB o.t.cells o.is
def restB(S:List OTg):List (Nat×Bx):=S.flatMap OTg.bxs
def tBx(S:List OTg):Bx:=⟨S.map eTn,zT,false,false⟩
def stOf(l:List Ty)(S:List OTg):Sta:=⟨l,S.map OTg.t⟩
set_option maxHeartbeats 1000000 in
theorem BinSearchO_ok(S:List OTg)(T:Nat)(kind tid:Int)(id:Nat)(hl8:S.length<1000000):FnOk Tryz.prog 78 [.bsl T 0 S.length,.agg [.int .i64 kind,.int .i64 tid,.nils],.fn 48 []] [(T,tBx S)] id (.tup [.int .i64 (fFindI (S.map OTg.t) kind tid),.bool (fFindB (S.map OTg.t) kind tid)]) []:=by
 unfold tBx
 refine fn_okb Tryz.func78 hcc78 (by decide) hcr78 (by simp[Tryz.ntmps78]) fun E hP hR hl hid hB hu=>?_
 simp only[cr78] at hR
 refine w_go 4000 ?_
 simp[cc78]
 have hT:=hl (T,_) (List.mem_cons_self ..)
 simp only at hT
 have T1:=lf hT
 have hTn:∀x∈S.map eTn,namesIn E.G0.used x:=old_names hB (List.mem_cons_self ..)
 try simp[T1]
 refine w_loop (X:=Nat×Nat) (fun q=>⟨[(0,true,.bsl T 0 S.length),(2,true,.fn 48 []),(4,true,.ptr E.n0 0 0),(8,true,.int .i64 S.length),(9,true,.int .i64 q.1),(10,true,.int .i64 q.2)],[(T,some ⟨S.map eTn,zT,false,false⟩),(E.n0,some ⟨[.agg [.int .i64 kind,.int .i64 tid,.nils]],.agg [.int .i64 0,.int .i64 0,.nils],false,false⟩)],1⟩) (fun q=>q.1≤q.2∧q.2≤S.length∧bs (fOrdAt (S.map OTg.t) kind tid) q.1 q.2=fFindI (S.map OTg.t) kind tid) (fun q=>q.2 - q.1) (0,S.length) ?_ ⟨by simp,by simp,by unfold fFindI; rw[List.length_map]⟩ ?_
 ·have hrn:rnOk [(E.n0,E.n0)]:=by simp[T1]
  refine Conv.sub [(E.n0,E.n0)] hrn ?_ ?_ ?_ ?_ ?_<;>(try simp[T1])
  all_goals (first|exact renL_old hu (by intro z h1 h2; (try simp[lkN]); try omega) hTn|exact renL_old hu (by intro z h1 h2; rfl) hTn)
 ·rintro⟨i,j⟩ ⟨hij,hj,hf⟩ p hp
  simp only at hij hj hf
  refine w_go 4000 ?_
  simp
  refine goc (fun h=>?_) (fun h=>?_)
  ·have h:=of_decide_eq_true h
   have h':i<j:=by omega
   have hk:(i+j) / 2<S.length:=by omega
   obtain⟨o,ho⟩:∃o,S[(i+j) / 2]?=some o:=⟨_,List.getElem?_eq_getElem hk⟩
   have hh:=halfW (i:=i) (j:=j) (by omega) (by omega)
   have h64:(1:Int)≤↑IntKind.u64.bits:=by decide
   generalize hm:(i+j) / 2=m at hh hk ho
   simp[hh,ho,eTn,T1]
   refine⟨h64,⟨hk,rfl⟩,hk,?_⟩
   refine w_callv hP rfl rfl (order_ok o.t.type o.t.id kind tid (.bsl o.c 0 o.t.cells.length) .nils _) (by simp) (by simp<;>rfl) ?_
   refine w_go 4000 ?_
   have hfo:fOrdAt (S.map OTg.t) kind tid m=ordI o.t.type o.t.id kind tid:=by simp[fOrdAt,ho]
   rw[bs,dif_pos h',hm,hfo] at hf
   simp
   refine goc (fun h1=>?_) (fun h1=>?_)
   ·have hm1:IntKind.i64.wrap ((m:Int)+1)=((m+1:Nat):Int):=wrap64 (by omega)
    simp at h1
    rw[if_pos h1] at hf
    simp
    refine hp _ (m+1,j) ⟨by simp only; omega,hj,hf⟩ (by simp only; omega) ?_
    have hrn:rnOk [(E.n0,E.n0)]:=by simp[hm1,T1]
    refine Conv.sub [(E.n0,E.n0)] hrn ?_ ?_ ?_ ?_ ?_<;>(try simp[hm1,T1])
    all_goals (first|exact renL_old hu (by intro z h1 h2; (try simp[lkN]); try omega) hTn|exact renL_old hu (by intro z h1 h2; rfl) hTn)
   ·simp at h1
    rw[if_neg (by omega)] at hf
    simp
    refine hp _ (i,m) ⟨by simp only; omega,by simp only; omega,hf⟩ (by simp only; omega) ?_
    have hrn:rnOk [(E.n0,E.n0)]:=by simp[T1]
    refine Conv.sub [(E.n0,E.n0)] hrn ?_ ?_ ?_ ?_ ?_<;>(try simp[T1])
    all_goals (first|exact renL_old hu (by intro z h1 h2; (try simp[lkN]); try omega) hTn|exact renL_old hu (by intro z h1 h2; rfl) hTn)
  ·have h:=of_decide_eq_false h
   have he:i=fFindI (S.map OTg.t) kind tid:=by rw[←hf,bs,dif_neg (by omega)]
   simp
   by_cases hi:i<S.length
   ·obtain⟨o,ho⟩:∃o,S[i]?=some o:=⟨_,List.getElem?_eq_getElem hi⟩
    have hfo:fOrdAt (S.map OTg.t) kind tid i=ordI o.t.type o.t.id kind tid:=by simp[fOrdAt,ho]
    have hg:S[i]=o:=by rw[List.getElem?_eq_getElem hi] at ho; injection ho
    simp[hi,hg,eTn,T1]
    refine⟨rfl,?_⟩
    refine w_split (.int .i64 0) (by simp) (fun _=>?_) (fun hg=>by simp at hg)
    refine w_callv hP rfl rfl (order_ok o.t.type o.t.id kind tid (.bsl o.c 0 o.t.cells.length) .nils _) (by simp) (by simp<;>rfl) ?_
    refine w_go 4000 ?_
    simp
    have hg2:fFindI (S.map OTg.t) kind tid=i:=he.symm
    have hg3:fFindB (S.map OTg.t) kind tid=decide (ordI o.t.type o.t.id kind tid=0):=by unfold fFindB; rw[←he,hfo,Bool.eq_iff_iff]; simp[hi]
    rw[hg2,hg3] at hR
    have hrn:rnOk []:=by simp[T1,idO hid]
    rw[hR]
    refine rt_end (by simp<;>rfl) [] hrn ⟨?_,?_,?_,?_,?_,?_⟩<;>(try simp[T1,idO hid])
    ·rw[Bool.eq_iff_iff]; simp
    ·(first|exact renL_old hu (by intro z h1 h2; (try simp[lkN]); try omega) hTn|exact renL_old hu (by intro z h1 h2; rfl) hTn)
   ·have ht:S[i]?=none:=List.getElem?_eq_none (by omega)
    simp[hi,ht,T1]
    refine w_split (.int .i64 0) (by simp) (fun hg=>by simp at hg) (fun _=>?_)
    refine w_go 4000 ?_
    simp
    have hg2:fFindI (S.map OTg.t) kind tid=i:=he.symm
    have hg3:fFindB (S.map OTg.t) kind tid=false:=by unfold fFindB; rw[←he]; simp[hi]
    rw[hg2,hg3] at hR
    have hrn:rnOk []:=by simp[T1,idO hid]
    rw[hR]
    refine rt_end (by simp<;>rfl) [] hrn ⟨?_,?_,?_,?_,?_,?_⟩<;>(try simp[T1,idO hid])
    all_goals (first|exact renL_old hu (by intro z h1 h2; (try simp[lkN]); try omega) hTn|exact renL_old hu (by intro z h1 h2; rfl) hTn)
theorem FindO_ok(l:List Ty)(S:List OTg)(T:Nat)(kind tid:Int)(id:Nat)(hl8:S.length<1000000):FnOk Tryz.prog 52 [.agg [.sl (l.map eTy),.bsl T 0 S.length],.int .i64 kind,.int .i64 tid] [(T,tBx S)] id (.tup [.int .i64 (fFindI (S.map OTg.t) kind tid),.bool (fFindB (S.map OTg.t) kind tid)]) []:=by
 have hX:=fun id=>BinSearchO_ok S T kind tid id hl8
 unfold tBx at *
 refine fn_okb Tryz.func52 hcc52 (by decide) hcr52 (by simp[Tryz.ntmps52]) fun E hP hR hl hid hB hu=>?_
 simp only[cr52] at hR
 refine w_go 4000 ?_
 simp[cc52]
 have hT:=hl (T,_) (List.mem_cons_self ..)
 simp only at hT
 have T1:=lf hT
 have hTn:∀x∈S.map eTn,namesIn E.G0.used x:=old_names hB (List.mem_cons_self ..)
 (refine w_call hP rfl (hX _) (by simp[T1]) (by simp[T1]<;>rfl) ?_; refine w_go 4000 ?_; simp[T1])
 have hrn:rnOk []:=by simp[T1,idO hid]
 rw[hR]
 refine rt_end (by simp<;>rfl) [] hrn ⟨?_,?_,?_,?_,?_,?_⟩<;>(try simp[T1,idO hid])
 all_goals (first|exact renL_old hu (by intro z h1 h2; (try simp[lkN]); try omega) hTn|exact renL_old hu (by intro z h1 h2; rfl) hTn)
end Go.Am
namespace Go.Am
set_option linter.all false
open Go Go.RowKit Go.Proofs
set_option maxRecDepth 100000
set_option linter.all false
def kindFits(k:Int)(f:Fd):Bool:=if k=3 then decide (f.kind=1) else if k=4 then decide (f.kind=2) else isLink f.kind
def fieldR(ty:Ty)(e:Ev)(c:Nat):AV:=if e.field<0 then .tup [.agg [.str [],.int .i64 0,.str []],.nilp,.int .i64 5] else match ty.fields[e.field.toNat]? with
 | none=>.tup [.agg [.str [],.int .i64 0,.str []],.nilp,.int .i64 5]
 | some f=>if kindFits e.kind f=true then .tup [eFd f,.ptr c e.field.toNat 0,.int .i64 0] else .tup [eFd f,.nilp,.int .i64 7]
def dBx(l:List Ty)(th:AV)(e:Ev)(i:Int):Bx:=⟨[eD l th e i],eD [] .nils ⟨0,0,0,0,0,[]⟩ 0,false,false⟩
set_option maxHeartbeats 1000000 in
theorem dField_ok(l:List Ty)(S:List OTg)(e:Ev)(i:Nat)(o:OTg)(ty:Ty)(D T:Nat)(id:Nat)(hty:l[e.type.toNat]?=some ty)(h0:0≤e.type)(ho:S[i]?=some o)(hlen:o.t.cells.length=ty.fields.length)(his:o.is.length=o.t.cells.length)(hl8:ty.fields.length≤1000)(d1:D≠T)(d2:D≠o.c)(d3:T≠o.c):
  FnOk Tryz.prog 120 [.ptr D 0 0] [(D,dBx l (.bsl T 0 S.length) e i),(T,tBx S),(o.c,cBn o)] id (fieldR ty e o.c) []:=by
 unfold tBx dBx cBn eD
 generalize hoc:o.c=c at *
 refine fn_okb Tryz.func120 hcc120 (by decide) hcr120 (by simp[Tryz.ntmps120]) fun E hP hR hl hid hB hu=>?_
 simp only[cr120] at hR
 refine w_go 4000 ?_
 simp[cc120]
 have hD:=hl (D,_) (List.mem_cons_self ..)
 simp only at hD
 have D1:=lf hD
 have hT:=hl (T,_) (List.mem_cons_of_mem _ (List.mem_cons_self ..))
 simp only at hT
 have T1:=lf hT
 have hc:=hl (c,_) (List.mem_cons_of_mem _ (List.mem_cons_of_mem _ (List.mem_cons_self ..)))
 simp only at hc
 have c1:=lf hc
 have hTn:∀x∈S.map eTn,namesIn E.G0.used x:=old_names hB (List.mem_cons_of_mem _ (List.mem_cons_self ..))
 have hCn:∀x∈List.zipWith eCn o.t.cells o.is,namesIn E.G0.used x:=old_names hB (List.mem_cons_of_mem _ (List.mem_cons_of_mem _ (List.mem_cons_self ..)))
 try simp[D1,T1,c1,d1,d1.symm,d2,d2.symm,d3,d3.symm,hty,h0,eTy]
 have hiS:i<S.length:=(List.getElem?_eq_some_iff.1 ho).1
 have htl:e.type<l.length:=by have:=(List.getElem?_eq_some_iff.1 hty).1; omega
 refine⟨htl,?_⟩
 have hw:IntKind.i64.wrap ((ty.fields.length:Int) - 1)=(ty.fields.length:Int) - 1:=wrap64 (by omega)
 rw[hw]
 (refine w_call hP rfl (stWithin_ok _ _ _ _) (by simp[D1,T1,c1,d1,d1.symm,d2,d2.symm,d3,d3.symm]) (by simp[D1,T1,c1,d1,d1.symm,d2,d2.symm,d3,d3.symm]<;>rfl) ?_; refine w_go 4000 ?_; simp[D1,T1,c1,d1,d1.symm,d2,d2.symm,d3,d3.symm])
 refine goc (fun h=>?_) (fun h=>?_)<;>simp[D1,T1,c1,d1,d1.symm,d2,d2.symm,d3,d3.symm]
 ·have hr:fieldR ty e c = .tup [.agg [.str [],.int .i64 0,.str []],.nilp,.int .i64 5]:=by
   unfold fieldR
   split
   ·rfl
   ·rename_i h5
    rw[List.getElem?_eq_none (by simp at h; omega)]
  rw[hr] at hR
  have hrn:rnOk []:=by simp[D1,T1,c1,d1,d1.symm,d2,d2.symm,d3,d3.symm,idO hid]
  rw[hR]
  refine rt_end (by simp<;>rfl) [] hrn ⟨?_,?_,?_,?_,?_,?_⟩<;>(try simp[D1,T1,c1,d1,d1.symm,d2,d2.symm,d3,d3.symm,idO hid])
  ·exact⟨by (first|exact renL_old hu (by intro z h1 h2; (try simp[lkN]); try omega) hTn|exact renL_old hu (by intro z h1 h2; rfl) hTn),by (first|exact renL_old hu (by intro z h1 h2; (try simp[lkN]); try omega) hCn|exact renL_old hu (by intro z h1 h2; rfl) hCn)⟩
 have h:0≤e.field∧e.field≤ty.fields.length - 1:=by simpa using h
 obtain⟨f,hf⟩:∃f,ty.fields[e.field.toNat]?=some f:=⟨_,List.getElem?_eq_getElem (by omega)⟩
 have hr:fieldR ty e c=if kindFits e.kind f=true then .tup [eFd f,.ptr c e.field.toNat 0,.int .i64 0] else .tup [eFd f,.nilp,.int .i64 7]:=by
  unfold fieldR
  rw[if_neg (by omega),hf]
 simp[hf,eFd,D1,T1,c1,d1,d1.symm,d2,d2.symm,d3,d3.symm]
 refine⟨⟨h.1,by omega⟩,?_⟩
 (refine w_call hP rfl (Links_ok _ _) (by simp[D1,T1,c1,d1,d1.symm,d2,d2.symm,d3,d3.symm]) (by simp[D1,T1,c1,d1,d1.symm,d2,d2.symm,d3,d3.symm]<;>rfl) ?_; refine w_go 4000 ?_; simp[D1,T1,c1,d1,d1.symm,d2,d2.symm,d3,d3.symm])
 refine goc (fun h3=>?_) (fun h3=>?_)<;>simp[D1,T1,c1,d1,d1.symm,d2,d2.symm,d3,d3.symm]
 ·have k3:e.kind=3:=by simpa using h3
  have kf:kindFits e.kind f=decide (f.kind=1):=by unfold kindFits; rw[if_pos k3]
  refine goc (fun h5=>?_) (fun h5=>?_)<;>simp[D1,T1,c1,d1,d1.symm,d2,d2.symm,d3,d3.symm]
  ·rw[hr,if_neg (by rw[kf]; simpa using h5)] at hR
   have hrn:rnOk []:=by simp[eFd,D1,T1,c1,d1,d1.symm,d2,d2.symm,d3,d3.symm,idO hid]
   rw[hR]
   refine rt_end (by simp<;>rfl) [] hrn ⟨?_,?_,?_,?_,?_,?_⟩<;>(try simp[eFd,D1,T1,c1,d1,d1.symm,d2,d2.symm,d3,d3.symm,idO hid])
   ·exact⟨by (first|exact renL_old hu (by intro z h1 h2; (try simp[lkN]); try omega) hTn|exact renL_old hu (by intro z h1 h2; rfl) hTn),by (first|exact renL_old hu (by intro z h1 h2; (try simp[lkN]); try omega) hCn|exact renL_old hu (by intro z h1 h2; rfl) hCn)⟩
  ·rw[hr,if_pos (by rw[kf]; simpa using h5)] at hR
   simp[ho,eTn,D1,T1,c1,d1,d1.symm,d2,d2.symm,d3,d3.symm]
   refine⟨⟨hiS,rfl⟩,hiS,?_⟩
   simp[hoc,hlen,D1,T1,c1,d1,d1.symm,d2,d2.symm,d3,d3.symm]
   refine⟨⟨h.1,by omega,rfl⟩,?_⟩
   have hrn:rnOk []:=by simp[eFd,D1,T1,c1,d1,d1.symm,d2,d2.symm,d3,d3.symm,idO hid]
   rw[hR]
   refine rt_end (by simp<;>rfl) [] hrn ⟨?_,?_,?_,?_,?_,?_⟩<;>(try simp[eFd,D1,T1,c1,d1,d1.symm,d2,d2.symm,d3,d3.symm,idO hid])
   exact⟨by (first|exact renL_old hu (by intro z h1 h2; (try simp[lkN]); try omega) hTn|exact renL_old hu (by intro z h1 h2; rfl) hTn),by (first|exact renL_old hu (by intro z h1 h2; (try simp[lkN]); try omega) hCn|exact renL_old hu (by intro z h1 h2; rfl) hCn)⟩
 have k3:e.kind≠3:=by simpa using h3
 refine goc (fun h4=>?_) (fun h4=>?_)<;>simp[D1,T1,c1,d1,d1.symm,d2,d2.symm,d3,d3.symm]
 ·have k4:e.kind=4:=by simpa using h4
  have kf:kindFits e.kind f=decide (f.kind=2):=by unfold kindFits; rw[if_neg k3,if_pos k4]
  refine goc (fun h5=>?_) (fun h5=>?_)<;>simp[D1,T1,c1,d1,d1.symm,d2,d2.symm,d3,d3.symm]
  ·rw[hr,if_neg (by rw[kf]; simpa using h5)] at hR
   have hrn:rnOk []:=by simp[eFd,D1,T1,c1,d1,d1.symm,d2,d2.symm,d3,d3.symm,idO hid]
   rw[hR]
   refine rt_end (by simp<;>rfl) [] hrn ⟨?_,?_,?_,?_,?_,?_⟩<;>(try simp[eFd,D1,T1,c1,d1,d1.symm,d2,d2.symm,d3,d3.symm,idO hid])
   ·exact⟨by (first|exact renL_old hu (by intro z h1 h2; (try simp[lkN]); try omega) hTn|exact renL_old hu (by intro z h1 h2; rfl) hTn),by (first|exact renL_old hu (by intro z h1 h2; (try simp[lkN]); try omega) hCn|exact renL_old hu (by intro z h1 h2; rfl) hCn)⟩
  ·rw[hr,if_pos (by rw[kf]; simpa using h5)] at hR
   simp[ho,eTn,D1,T1,c1,d1,d1.symm,d2,d2.symm,d3,d3.symm]
   refine⟨⟨hiS,rfl⟩,hiS,?_⟩
   simp[hoc,hlen,D1,T1,c1,d1,d1.symm,d2,d2.symm,d3,d3.symm]
   refine⟨⟨h.1,by omega,rfl⟩,?_⟩
   have hrn:rnOk []:=by simp[eFd,D1,T1,c1,d1,d1.symm,d2,d2.symm,d3,d3.symm,idO hid]
   rw[hR]
   refine rt_end (by simp<;>rfl) [] hrn ⟨?_,?_,?_,?_,?_,?_⟩<;>(try simp[eFd,D1,T1,c1,d1,d1.symm,d2,d2.symm,d3,d3.symm,idO hid])
   exact⟨by (first|exact renL_old hu (by intro z h1 h2; (try simp[lkN]); try omega) hTn|exact renL_old hu (by intro z h1 h2; rfl) hTn),by (first|exact renL_old hu (by intro z h1 h2; (try simp[lkN]); try omega) hCn|exact renL_old hu (by intro z h1 h2; rfl) hCn)⟩
 have k4:e.kind≠4:=by simpa using h4
 have kf:kindFits e.kind f=isLink f.kind:=by unfold kindFits; rw[if_neg k3,if_neg k4]
 refine goc (fun h5=>?_) (fun h5=>?_)<;>simp[D1,T1,c1,d1,d1.symm,d2,d2.symm,d3,d3.symm]
 ·rw[hr,if_neg (by rw[kf]; simpa using h5)] at hR
  have hrn:rnOk []:=by simp[eFd,D1,T1,c1,d1,d1.symm,d2,d2.symm,d3,d3.symm,idO hid]
  rw[hR]
  refine rt_end (by simp<;>rfl) [] hrn ⟨?_,?_,?_,?_,?_,?_⟩<;>(try simp[eFd,D1,T1,c1,d1,d1.symm,d2,d2.symm,d3,d3.symm,idO hid])
  ·exact⟨by (first|exact renL_old hu (by intro z h1 h2; (try simp[lkN]); try omega) hTn|exact renL_old hu (by intro z h1 h2; rfl) hTn),by (first|exact renL_old hu (by intro z h1 h2; (try simp[lkN]); try omega) hCn|exact renL_old hu (by intro z h1 h2; rfl) hCn)⟩
 ·rw[hr,if_pos (by rw[kf]; simpa using h5)] at hR
  simp[ho,eTn,D1,T1,c1,d1,d1.symm,d2,d2.symm,d3,d3.symm]
  refine⟨⟨hiS,rfl⟩,hiS,?_⟩
  simp[hoc,hlen,D1,T1,c1,d1,d1.symm,d2,d2.symm,d3,d3.symm]
  refine⟨⟨h.1,by omega,rfl⟩,?_⟩
  have hrn:rnOk []:=by simp[eFd,D1,T1,c1,d1,d1.symm,d2,d2.symm,d3,d3.symm,idO hid]
  rw[hR]
  refine rt_end (by simp<;>rfl) [] hrn ⟨?_,?_,?_,?_,?_,?_⟩<;>(try simp[eFd,D1,T1,c1,d1,d1.symm,d2,d2.symm,d3,d3.symm,idO hid])
  exact⟨by (first|exact renL_old hu (by intro z h1 h2; (try simp[lkN]); try omega) hTn|exact renL_old hu (by intro z h1 h2; rfl) hTn),by (first|exact renL_old hu (by intro z h1 h2; (try simp[lkN]); try omega) hCn|exact renL_old hu (by intro z h1 h2; rfl) hCn)⟩
end Go.Am
namespace Go.Am
set_option linter.all false
open Go Go.RowKit Go.Proofs
set_option maxRecDepth 100000
set_option linter.all false
theorem rd_ints(c:Cl)(i:Option Nat)(L:List (Nat×Bx))(hL:∀q∈idB c i,q∈L)(hn:i=none→c.ids=[]):Rd L (eIds i c.ids.length) (.sl (c.ids.map eI)):=by
 cases i with
 | none=>rw[hn rfl]; exact .nils
 | some I =>
  refine .bsl I 0 _ (iBx c) _ (hL _ (List.mem_cons_self ..)) (by simp[iBx]) (by simp) (fun i x y h1 h2=>?_) fun i x y j a b h1 h2 h3 h4=>?_
  ·rw[Nat.zero_add] at h1
   have:x=y:=by simpa using (show some x=some y from h1.symm.trans h2)
   rw[this]
  ·rw[Nat.zero_add] at h1
   have:x=y:=by simpa using (show some x=some y from h1.symm.trans h2)
   subst this
   rw[h3] at h4
   injection h4 with h4
   subst h4
   exact .same _
theorem BinIntO_ok(c:Cl)(i:Option Nat)(x:Int)(id:Nat)(hl:c.ids.length<1000000)(hn:i=none→c.ids=[]):FnOk Tryz.prog 122 [eIds i c.ids.length,.int .i64 x] (idB c i) id (.tup [.int .i64 (iFind c.ids x),.bool (iFindB c.ids x)]) []:=by
 refine (BinInt_ok c.ids x id hl).read rfl rfl fun k a b h1 h2=>?_
 match k,h1,h2 with
 | 0,h1,h2 =>
  simp only[List.getElem?_cons_zero,Option.some.injEq] at h1 h2
  subst h1 h2
  exact rd_ints c i _ (fun q hq=>hq) hn
 | 1,h1,h2 =>
  simp only[List.getElem?_cons_succ,List.getElem?_cons_zero,Option.some.injEq] at h1 h2
  subst h1 h2
  exact .same _
 | k+2,h1,h2=>simp at h1
def goneI:Option Nat→List (Nat×Option Bx)
 | none=>[]
 | some I=>[(I,none)]
theorem InsertO_ok(c:Cl)(i:Option Nat)(y:Int)(Y k:Nat)(id:Nat)(hk:k≤c.ids.length)(hbig:c.ids.length≤1000000)(hn:i=none→c.ids=[])(hY:∀I,i=some I→I≠Y∧(I<id∨id+1024≤I)):
  FnOk Tryz.prog 127 [eIds i c.ids.length,.int .i64 k,.bsl Y 0 1] (idB c i++[(Y,⟨[eI y],.int .i64 0,false,false⟩)]) id (.bsl id 0 (c.ids.length+1)) (goneI i++[(id,some ⟨(c.ids.take k++y::c.ids.drop k).map eI,.int .i64 0,false,false⟩)]):=by
 have hm:(c.ids.take k++y::c.ids.drop k).map eI=(c.ids.map eI).take k++eI y::(c.ids.map eI).drop k:=by simp
 have h1:∀x∈c.ids.map eI,x.cells.all AV.one=true:=fun x hx=>by obtain⟨n,_,rfl⟩:=List.mem_map.1 hx; rfl
 rw[hm]
 cases i with
 | some I =>
  obtain⟨q1,q2⟩:=hY I rfl
  have:=Insert_int (c.ids.map eI) (eI y) I Y k id (by simpa using hk) q1 q2 (by simpa using hbig) h1 rfl rfl
  rw[List.length_map] at this
  exact this
 | none =>
  have h0:=hn rfl
  rw[h0] at hk ⊢
  have hk0:k=0:=by simpa using hk
  subst hk0
  refine FnOk.nil (z:=.int .i64 0) (rd:=[(Y,⟨[eI y],.int .i64 0,false,false⟩)]) (wr:=[(id,some ⟨[eI y],.int .i64 0,false,false⟩)]) (fun T hT hid=>?_) (fun q hq=>?_) ?_
  ·exact Insert_int [] (eI y) T Y 0 id (Nat.le_refl _) (hT (Y,_) (List.mem_cons_self ..)).symm hid (by simp) (fun x hx=>(by cases hx)) rfl rfl
  ·simp only[List.mem_singleton] at hq
   subst hq
   exact⟨⟨Nat.le_refl _,by omega⟩,fun b hb x hx=>by injection hb with hb; subst hb; simp only[List.mem_singleton] at hx; subst hx; rfl⟩
  ·exact⟨Nat.le_refl _,by omega⟩
end Go.Am
namespace Go.Am
set_option linter.all false
open Go Go.RowKit Go.Proofs
set_option maxRecDepth 100000
set_option linter.all false
theorem renL_set{R:Rn}{S:Nat→Prop}{x y:AV}(h:RenR R S x y):∀{l l':List AV} (k:Nat),RenL R S l l'→RenL R S (l.set k x) (l'.set k y)
 | _,_,_,.nil=>.nil
 | _,_,0,.cons _ _ _ _ _ hl=>.cons _ _ _ _ h hl
 | _,_,k+1,.cons _ _ _ _ h0 hl=>.cons _ _ _ _ h0 (renL_set h k hl)
def linkE(s:Sta)(f:Fd)(c:Cl)(n:Int):Int:=if isThere s f n=false then 5 else if iFindB c.ids n=true then 6 else if f.kind=3 then 0 else if c.ids.length=6 then 2 else 0
def linkL(f:Fd)(c:Cl)(n:Int):List Int:=if f.kind=3 then [n] else c.ids.take (iFind c.ids n)++n::c.ids.drop (iFind c.ids n)
def linkW(s:Sta)(f:Fd)(c:Cl)(n:Int)(cb k id:Nat)(xs:List AV)(i:Option Nat):List (Nat×Option Bx) :=
 if linkE s f c n≠0 then [] else (if f.kind=3 then [] else goneI i)++[(cb,some ⟨xs.set k (eCn ⟨c.n,c.text,linkL f c n⟩ (some id)),zC,false,false⟩),(id,some ⟨(linkL f c n).map eI,.int .i64 0,false,false⟩)]
set_option maxHeartbeats 1000000 in
theorem link_some(l:List Ty)(S:List OTg)(e:Ev)(i:Int)(f:Fd)(cl:Cl)(I:Nat)(xs:List AV)(k D T c:Nat)(id:Nat)(hx:xs[k]?=some (eCn cl (some I)))(hl5:l.length≤1000)(hS8:S.length≤1000)(hc8:cl.ids.length≤1000)(d1:D≠T)(d2:D≠c)(d3:T≠c)(d4:D≠I)(d5:T≠I)(d6:c≠I):
  FnOk Tryz.prog 121 [.ptr D 0 0,eFd f,.ptr c k 0] [(D,dBx l (.bsl T 0 S.length) e i),(T,tBx S),(c,⟨xs,zC,false,false⟩),(I,iBx cl)] id (.int .i64 (linkE (stOf l S) f cl e.n)) (linkW (stOf l S) f cl e.n c k id xs (some I)):=by
 have hB2:=fun id=>BinIntO_ok cl (some I) e.n id (by omega) (by simp)
 have hF:=fun id=>FindO_ok l S T (kindOf l f.of) e.n id (by omega)
 have hIns:=fun Y k id=>InsertO_ok cl (some I) e.n Y k id
 have hth:fFindB (S.map OTg.t) (kindOf l f.of) e.n=isThere (stOf l S) f e.n:=rfl
 rw[hth] at hF
 have hLk:xs=xs.take k++eCn cl (some I)::xs.drop (k+1):=by
  rw[List.getElem?_eq_some_iff] at hx
  obtain⟨h1,h2⟩:=hx
  rw[←h2,←List.drop_eq_getElem_cons h1,List.take_append_drop]
 unfold tBx dBx eD idB iBx eIds eFd at *
 dsimp only[List.cons_append,List.nil_append] at hIns hB2
 refine fn_okb Tryz.func121 hcc121 (by decide) hcr121 (by simp[Tryz.ntmps121]) fun E hP hR hl hid hB hu=>?_
 simp only[cr121] at hR
 refine w_go 4000 ?_
 simp[cc121]
 have hD:=hl (D,_) (List.mem_cons_self ..)
 simp only at hD
 have D1:=lf hD
 have hT:=hl (T,_) (List.mem_cons_of_mem _ (List.mem_cons_self ..))
 simp only at hT
 have T1:=lf hT
 have hc:=hl (c,_) (List.mem_cons_of_mem _ (List.mem_cons_of_mem _ (List.mem_cons_self ..)))
 simp only at hc
 have c1:=lf hc
 have hI:=hl (I,_) (List.mem_cons_of_mem _ (List.mem_cons_of_mem _ (List.mem_cons_of_mem _ (List.mem_cons_self ..))))
 simp only at hI
 have I1:=lf hI
 have hTn:∀x∈S.map eTn,namesIn E.G0.used x:=old_names hB (List.mem_cons_of_mem _ (List.mem_cons_self ..))
 have hXn:∀x∈xs,namesIn E.G0.used x:=old_names hB (List.mem_cons_of_mem _ (List.mem_cons_of_mem _ (List.mem_cons_self ..)))
 try simp[D1,T1,c1,I1,d1,d1.symm,d2,d2.symm,d3,d3.symm,d4,d4.symm,d5,d5.symm,d6,d6.symm,hx,eCn,eIds]
 have hkx:k<xs.length:=(List.getElem?_eq_some_iff.1 hx).1
 refine⟨hkx,?_⟩
 (refine w_call hP rfl (hB2 _) (by simp[D1,T1,c1,I1,d1,d1.symm,d2,d2.symm,d3,d3.symm,d4,d4.symm,d5,d5.symm,d6,d6.symm]) (by simp[D1,T1,c1,I1,d1,d1.symm,d2,d2.symm,d3,d3.symm,d4,d4.symm,d5,d5.symm,d6,d6.symm]<;>rfl) ?_; refine w_go 4000 ?_; simp[D1,T1,c1,I1,d1,d1.symm,d2,d2.symm,d3,d3.symm,d4,d4.symm,d5,d5.symm,d6,d6.symm])
 (refine w_call hP rfl (Find_ok l f.of _ (by omega)) (by simp[D1,T1,c1,I1,d1,d1.symm,d2,d2.symm,d3,d3.symm,d4,d4.symm,d5,d5.symm,d6,d6.symm,kindOf_eq]) (by simp[D1,T1,c1,I1,d1,d1.symm,d2,d2.symm,d3,d3.symm,d4,d4.symm,d5,d5.symm,d6,d6.symm,kindOf_eq]<;>rfl) ?_; refine w_go 4000 ?_; simp[D1,T1,c1,I1,d1,d1.symm,d2,d2.symm,d3,d3.symm,d4,d4.symm,d5,d5.symm,d6,d6.symm,kindOf_eq])
 (refine w_call hP rfl (hF _) (by simp[D1,T1,c1,I1,d1,d1.symm,d2,d2.symm,d3,d3.symm,d4,d4.symm,d5,d5.symm,d6,d6.symm]) (by simp[D1,T1,c1,I1,d1,d1.symm,d2,d2.symm,d3,d3.symm,d4,d4.symm,d5,d5.symm,d6,d6.symm]<;>rfl) ?_; refine w_go 4000 ?_; simp[D1,T1,c1,I1,d1,d1.symm,d2,d2.symm,d3,d3.symm,d4,d4.symm,d5,d5.symm,d6,d6.symm])
 have hL:∀R S,RenR R S (eFd f) (eFd f):=fun R S=>ren_fd R S f
 refine goc (fun h1=>?_) (fun h1=>?_)<;>simp[D1,T1,c1,I1,d1,d1.symm,d2,d2.symm,d3,d3.symm,d4,d4.symm,d5,d5.symm,d6,d6.symm]
 ·have hE:linkE (stOf l S) f cl e.n=5:=by unfold linkE; rw[if_pos (by simpa using h1)]
  have hW:linkW (stOf l S) f cl e.n c k id xs (some I)=[]:=by unfold linkW; rw[if_pos (by omega)]
  rw[hE,hW] at hR
  have hrn:rnOk []:=by simp[D1,T1,c1,I1,d1,d1.symm,d2,d2.symm,d3,d3.symm,d4,d4.symm,d5,d5.symm,d6,d6.symm,idO hid]
  rw[hR]
  refine rt_end (by simp<;>rfl) [] hrn ⟨?_,?_,?_,?_,?_,?_⟩<;>(try simp[D1,T1,c1,I1,d1,d1.symm,d2,d2.symm,d3,d3.symm,d4,d4.symm,d5,d5.symm,d6,d6.symm,idO hid])
  exact⟨by (first|exact renL_old hu (by intro z h1 h2; (try simp[lkN]); try omega) hTn|exact renL_old hu (by intro z h1 h2; rfl) hTn),by (first|exact renL_old hu (by intro z h1 h2; (try simp[lkN]); try omega) hXn|exact renL_old hu (by intro z h1 h2; rfl) hXn)⟩
 have h1:isThere (stOf l S) f e.n=true:=by simpa using h1
 refine goc (fun h2=>?_) (fun h2=>?_)<;>simp[D1,T1,c1,I1,d1,d1.symm,d2,d2.symm,d3,d3.symm,d4,d4.symm,d5,d5.symm,d6,d6.symm]
 ·have hE:linkE (stOf l S) f cl e.n=6:=by unfold linkE; rw[if_neg (by simp[h1]),if_pos (by simpa using h2)]
  have hW:linkW (stOf l S) f cl e.n c k id xs (some I)=[]:=by unfold linkW; rw[if_pos (by omega)]
  rw[hE,hW] at hR
  have hrn:rnOk []:=by simp[D1,T1,c1,I1,d1,d1.symm,d2,d2.symm,d3,d3.symm,d4,d4.symm,d5,d5.symm,d6,d6.symm,idO hid]
  rw[hR]
  refine rt_end (by simp<;>rfl) [] hrn ⟨?_,?_,?_,?_,?_,?_⟩<;>(try simp[D1,T1,c1,I1,d1,d1.symm,d2,d2.symm,d3,d3.symm,d4,d4.symm,d5,d5.symm,d6,d6.symm,idO hid])
  exact⟨by (first|exact renL_old hu (by intro z h1 h2; (try simp[lkN]); try omega) hTn|exact renL_old hu (by intro z h1 h2; rfl) hTn),by (first|exact renL_old hu (by intro z h1 h2; (try simp[lkN]); try omega) hXn|exact renL_old hu (by intro z h1 h2; rfl) hXn)⟩
 have h2:iFindB cl.ids e.n=false:=by simpa using h2
 refine goc (fun h3=>?_) (fun h3=>?_)<;>simp[D1,T1,c1,I1,d1,d1.symm,d2,d2.symm,d3,d3.symm,d4,d4.symm,d5,d5.symm,d6,d6.symm]
 ·have h3:f.kind=3:=by simpa using h3
  have hE:linkE (stOf l S) f cl e.n=0:=by unfold linkE; rw[if_neg (by simp[h1]),if_neg (by simp[h2]),if_pos h3]
  have hW:linkW (stOf l S) f cl e.n c k id xs (some I)=[(c,some ⟨xs.set k (eCn ⟨cl.n,cl.text,[e.n]⟩ (some id)),zC,false,false⟩),(id,some ⟨[eI e.n],.int .i64 0,false,false⟩)]:=by unfold linkW linkL; rw[if_neg (by omega),if_pos h3]; simp[h3]
  rw[hE,hW] at hR
  refine⟨hkx,⟨hkx,by simp[hx,eCn]⟩,?_⟩
  simp[hx,eCn,eIds,eI]
  have hrn:rnOk [(id,E.n0+56320)]:=by simp[hx,eCn,eIds,eI,D1,T1,c1,I1,d1,d1.symm,d2,d2.symm,d3,d3.symm,d4,d4.symm,d5,d5.symm,d6,d6.symm,idO hid]
  rw[hR]
  refine rt_end (by simp<;>rfl) [(id,E.n0+56320)] hrn ⟨?_,?_,?_,?_,?_,?_⟩<;>(try simp[hx,eCn,eIds,eI,D1,T1,c1,I1,d1,d1.symm,d2,d2.symm,d3,d3.symm,d4,d4.symm,d5,d5.symm,d6,d6.symm,idO hid])
  exact⟨by (first|exact renL_old hu (by intro z h1 h2; (try simp[lkN]); try omega) hTn|exact renL_old hu (by intro z h1 h2; rfl) hTn),renL_set (by simp[idO hid]) k (by (first|exact renL_old hu (by intro z h1 h2; (try simp[lkN]); try omega) hXn|exact renL_old hu (by intro z h1 h2; rfl) hXn))⟩
 have h3:f.kind≠3:=by simpa using h3
 have hxk:xs[k]'hkx=eCn cl (some I):=by rw[List.getElem?_eq_getElem hkx] at hx; injection hx
 simp[hxk,hx,hkx,eCn,eIds,D1,T1,c1,I1,d1,d1.symm,d2,d2.symm,d3,d3.symm,d4,d4.symm,d5,d5.symm,d6,d6.symm]
 refine goc (fun h4=>?_) (fun h4=>?_)<;>simp[D1,T1,c1,I1,d1,d1.symm,d2,d2.symm,d3,d3.symm,d4,d4.symm,d5,d5.symm,d6,d6.symm]
 ·have h4:cl.ids.length=6:=by simp at h4; omega
  have hE:linkE (stOf l S) f cl e.n=2:=by unfold linkE; rw[if_neg (by simp[h1]),if_neg (by simp[h2]),if_neg h3,if_pos h4]
  have hW:linkW (stOf l S) f cl e.n c k id xs (some I)=[]:=by unfold linkW; rw[if_pos (by omega)]
  rw[hE,hW] at hR
  have hrn:rnOk []:=by simp[D1,T1,c1,I1,d1,d1.symm,d2,d2.symm,d3,d3.symm,d4,d4.symm,d5,d5.symm,d6,d6.symm,idO hid]
  rw[hR]
  refine rt_end (by simp<;>rfl) [] hrn ⟨?_,?_,?_,?_,?_,?_⟩<;>(try simp[D1,T1,c1,I1,d1,d1.symm,d2,d2.symm,d3,d3.symm,d4,d4.symm,d5,d5.symm,d6,d6.symm,idO hid])
  exact⟨by (first|exact renL_old hu (by intro z h1 h2; (try simp[lkN]); try omega) hTn|exact renL_old hu (by intro z h1 h2; rfl) hTn),by (first|exact renL_old hu (by intro z h1 h2; (try simp[lkN]); try omega) hXn|exact renL_old hu (by intro z h1 h2; rfl) hXn)⟩
 have h4:cl.ids.length≠6:=by simp at h4; omega
 simp[hxk,hx,hkx,eCn,eIds,D1,T1,c1,I1,d1,d1.symm,d2,d2.symm,d3,d3.symm,d4,d4.symm,d5,d5.symm,d6,d6.symm]
 have hle:iFind cl.ids e.n≤cl.ids.length:=(bs_le _ _ _ (Nat.zero_le _)).2
 have hE:linkE (stOf l S) f cl e.n=0:=by unfold linkE; rw[if_neg (by simp[h1]),if_neg (by simp[h2]),if_neg h3,if_neg h4]
 have hW:linkW (stOf l S) f cl e.n c k id xs (some I)=[(I,none),(c,some ⟨xs.set k (.agg [.int .i64 cl.n,.str cl.text,.bsl id 0 (cl.ids.length+1)]),zC,false,false⟩),(id,some ⟨(cl.ids.take (iFind cl.ids e.n)++e.n::cl.ids.drop (iFind cl.ids e.n)).map eI,.int .i64 0,false,false⟩)]:=by
  have hll:(cl.ids.take (iFind cl.ids e.n)++e.n::cl.ids.drop (iFind cl.ids e.n)).length=cl.ids.length+1:=by simp; omega
  unfold linkW linkL; rw[if_neg (by omega),if_neg h3]; simp only[h3,if_false,goneI,eCn,eIds,hll]; rfl
 rw[hE,hW] at hR
 have hIc:=fun (id:Nat) (hid:I<id∨id+1024≤I)=>hIns (E.n0+68608) (iFind cl.ids e.n) id hle (by omega) (by simp) (by intro I' h; cases h; exact⟨by omega,hid⟩)
 have hyp:pureL ((cl.ids.take (iFind cl.ids e.n)++e.n::cl.ids.drop (iFind cl.ids e.n)).map eI)=true:=pure_ints _
 generalize (cl.ids.take (iFind cl.ids e.n)++e.n::cl.ids.drop (iFind cl.ids e.n)).map eI=ys at *
 dsimp only[goneI,List.cons_append,List.nil_append] at hIc
 simp only[eI] at hIc
 (refine w_call hP rfl (hIc _ (by omega)) (by simp[D1,T1,c1,I1,d1,d1.symm,d2,d2.symm,d3,d3.symm,d4,d4.symm,d5,d5.symm,d6,d6.symm]) (by simp[D1,T1,c1,I1,d1,d1.symm,d2,d2.symm,d3,d3.symm,d4,d4.symm,d5,d5.symm,d6,d6.symm]<;>rfl) ?_; refine w_go 4000 ?_; simp[D1,T1,c1,I1,d1,d1.symm,d2,d2.symm,d3,d3.symm,d4,d4.symm,d5,d5.symm,d6,d6.symm])
 refine⟨hkx,?_⟩
 simp[hxk,hx,hkx,eCn,D1,T1,c1,I1,d1,d1.symm,d2,d2.symm,d3,d3.symm,d4,d4.symm,d5,d5.symm,d6,d6.symm]
 have hrn:rnOk [(id,E.n0+69632)]:=by simp[hx,eCn,eI,D1,T1,c1,I1,d1,d1.symm,d2,d2.symm,d3,d3.symm,d4,d4.symm,d5,d5.symm,d6,d6.symm,idO hid]
 rw[hR]
 refine rt_end (by simp<;>rfl) [(id,E.n0+69632)] hrn ⟨?_,?_,?_,?_,?_,?_⟩<;>(try simp[hx,eCn,eI,D1,T1,c1,I1,d1,d1.symm,d2,d2.symm,d3,d3.symm,d4,d4.symm,d5,d5.symm,d6,d6.symm,idO hid])
 exact⟨by (first|exact renL_old hu (by intro z h1 h2; (try simp[lkN]); try omega) hTn|exact renL_old hu (by intro z h1 h2; rfl) hTn),renL_set (by simp[idO hid]) k (by (first|exact renL_old hu (by intro z h1 h2; (try simp[lkN]); try omega) hXn|exact renL_old hu (by intro z h1 h2; rfl) hXn)),renL_pure rfl hyp⟩
set_option maxHeartbeats 1000000 in
theorem link_none(l:List Ty)(S:List OTg)(e:Ev)(i:Int)(f:Fd)(cl:Cl)(xs:List AV)(k D T c:Nat)(id:Nat)(hx:xs[k]?=some (eCn cl none))(hn:cl.ids=[])(hl5:l.length≤1000)(hS8:S.length≤1000)(hc8:cl.ids.length≤1000)(d1:D≠T)(d2:D≠c)(d3:T≠c):
  FnOk Tryz.prog 121 [.ptr D 0 0,eFd f,.ptr c k 0] [(D,dBx l (.bsl T 0 S.length) e i),(T,tBx S),(c,⟨xs,zC,false,false⟩)] id (.int .i64 (linkE (stOf l S) f cl e.n)) (linkW (stOf l S) f cl e.n c k id xs none):=by
 have hB2:=fun id=>BinIntO_ok cl none e.n id (by omega) (fun _=>hn)
 have hF:=fun id=>FindO_ok l S T (kindOf l f.of) e.n id (by omega)
 have hIns:=fun Y k id=>InsertO_ok cl none e.n Y k id
 have hth:fFindB (S.map OTg.t) (kindOf l f.of) e.n=isThere (stOf l S) f e.n:=rfl
 rw[hth] at hF
 have hLk:xs=xs.take k++eCn cl none::xs.drop (k+1):=by
  rw[List.getElem?_eq_some_iff] at hx
  obtain⟨h1,h2⟩:=hx
  rw[←h2,←List.drop_eq_getElem_cons h1,List.take_append_drop]
 unfold tBx dBx eD idB iBx eIds eFd at *
 dsimp only[List.cons_append,List.nil_append] at hIns hB2
 refine fn_okb Tryz.func121 hcc121 (by decide) hcr121 (by simp[Tryz.ntmps121]) fun E hP hR hl hid hB hu=>?_
 simp only[cr121] at hR
 refine w_go 4000 ?_
 simp[cc121]
 have hD:=hl (D,_) (List.mem_cons_self ..)
 simp only at hD
 have D1:=lf hD
 have hT:=hl (T,_) (List.mem_cons_of_mem _ (List.mem_cons_self ..))
 simp only at hT
 have T1:=lf hT
 have hc:=hl (c,_) (List.mem_cons_of_mem _ (List.mem_cons_of_mem _ (List.mem_cons_self ..)))
 simp only at hc
 have c1:=lf hc
 have hTn:∀x∈S.map eTn,namesIn E.G0.used x:=old_names hB (List.mem_cons_of_mem _ (List.mem_cons_self ..))
 have hXn:∀x∈xs,namesIn E.G0.used x:=old_names hB (List.mem_cons_of_mem _ (List.mem_cons_of_mem _ (List.mem_cons_self ..)))
 try simp[D1,T1,c1,d1,d1.symm,d2,d2.symm,d3,d3.symm,hx,eCn,eIds]
 have hkx:k<xs.length:=(List.getElem?_eq_some_iff.1 hx).1
 refine⟨hkx,?_⟩
 (refine w_call hP rfl (hB2 _) (by simp[D1,T1,c1,d1,d1.symm,d2,d2.symm,d3,d3.symm]) (by simp[D1,T1,c1,d1,d1.symm,d2,d2.symm,d3,d3.symm]<;>rfl) ?_; refine w_go 4000 ?_; simp[D1,T1,c1,d1,d1.symm,d2,d2.symm,d3,d3.symm])
 (refine w_call hP rfl (Find_ok l f.of _ (by omega)) (by simp[D1,T1,c1,d1,d1.symm,d2,d2.symm,d3,d3.symm,kindOf_eq]) (by simp[D1,T1,c1,d1,d1.symm,d2,d2.symm,d3,d3.symm,kindOf_eq]<;>rfl) ?_; refine w_go 4000 ?_; simp[D1,T1,c1,d1,d1.symm,d2,d2.symm,d3,d3.symm,kindOf_eq])
 (refine w_call hP rfl (hF _) (by simp[D1,T1,c1,d1,d1.symm,d2,d2.symm,d3,d3.symm]) (by simp[D1,T1,c1,d1,d1.symm,d2,d2.symm,d3,d3.symm]<;>rfl) ?_; refine w_go 4000 ?_; simp[D1,T1,c1,d1,d1.symm,d2,d2.symm,d3,d3.symm])
 have hL:∀R S,RenR R S (eFd f) (eFd f):=fun R S=>ren_fd R S f
 refine goc (fun h1=>?_) (fun h1=>?_)<;>simp[D1,T1,c1,d1,d1.symm,d2,d2.symm,d3,d3.symm]
 ·have hE:linkE (stOf l S) f cl e.n=5:=by unfold linkE; rw[if_pos (by simpa using h1)]
  have hW:linkW (stOf l S) f cl e.n c k id xs none=[]:=by unfold linkW; rw[if_pos (by omega)]
  rw[hE,hW] at hR
  have hrn:rnOk []:=by simp[D1,T1,c1,d1,d1.symm,d2,d2.symm,d3,d3.symm,idO hid]
  rw[hR]
  refine rt_end (by simp<;>rfl) [] hrn ⟨?_,?_,?_,?_,?_,?_⟩<;>(try simp[D1,T1,c1,d1,d1.symm,d2,d2.symm,d3,d3.symm,idO hid])
  exact⟨by (first|exact renL_old hu (by intro z h1 h2; (try simp[lkN]); try omega) hTn|exact renL_old hu (by intro z h1 h2; rfl) hTn),by (first|exact renL_old hu (by intro z h1 h2; (try simp[lkN]); try omega) hXn|exact renL_old hu (by intro z h1 h2; rfl) hXn)⟩
 have h1:isThere (stOf l S) f e.n=true:=by simpa using h1
 refine goc (fun h2=>?_) (fun h2=>?_)<;>simp[D1,T1,c1,d1,d1.symm,d2,d2.symm,d3,d3.symm]
 ·have hE:linkE (stOf l S) f cl e.n=6:=by unfold linkE; rw[if_neg (by simp[h1]),if_pos (by simpa using h2)]
  have hW:linkW (stOf l S) f cl e.n c k id xs none=[]:=by unfold linkW; rw[if_pos (by omega)]
  rw[hE,hW] at hR
  have hrn:rnOk []:=by simp[D1,T1,c1,d1,d1.symm,d2,d2.symm,d3,d3.symm,idO hid]
  rw[hR]
  refine rt_end (by simp<;>rfl) [] hrn ⟨?_,?_,?_,?_,?_,?_⟩<;>(try simp[D1,T1,c1,d1,d1.symm,d2,d2.symm,d3,d3.symm,idO hid])
  exact⟨by (first|exact renL_old hu (by intro z h1 h2; (try simp[lkN]); try omega) hTn|exact renL_old hu (by intro z h1 h2; rfl) hTn),by (first|exact renL_old hu (by intro z h1 h2; (try simp[lkN]); try omega) hXn|exact renL_old hu (by intro z h1 h2; rfl) hXn)⟩
 have h2:iFindB cl.ids e.n=false:=by simpa using h2
 refine goc (fun h3=>?_) (fun h3=>?_)<;>simp[D1,T1,c1,d1,d1.symm,d2,d2.symm,d3,d3.symm]
 ·have h3:f.kind=3:=by simpa using h3
  have hE:linkE (stOf l S) f cl e.n=0:=by unfold linkE; rw[if_neg (by simp[h1]),if_neg (by simp[h2]),if_pos h3]
  have hW:linkW (stOf l S) f cl e.n c k id xs none=[(c,some ⟨xs.set k (eCn ⟨cl.n,cl.text,[e.n]⟩ (some id)),zC,false,false⟩),(id,some ⟨[eI e.n],.int .i64 0,false,false⟩)]:=by unfold linkW linkL; rw[if_neg (by omega),if_pos h3]; simp[h3]
  rw[hE,hW] at hR
  refine⟨hkx,⟨hkx,by simp[hx,eCn]⟩,?_⟩
  simp[hx,eCn,eIds,eI]
  have hrn:rnOk [(id,E.n0+56320)]:=by simp[hx,eCn,eIds,eI,D1,T1,c1,d1,d1.symm,d2,d2.symm,d3,d3.symm,idO hid]
  rw[hR]
  refine rt_end (by simp<;>rfl) [(id,E.n0+56320)] hrn ⟨?_,?_,?_,?_,?_,?_⟩<;>(try simp[hx,eCn,eIds,eI,D1,T1,c1,d1,d1.symm,d2,d2.symm,d3,d3.symm,idO hid])
  exact⟨by (first|exact renL_old hu (by intro z h1 h2; (try simp[lkN]); try omega) hTn|exact renL_old hu (by intro z h1 h2; rfl) hTn),renL_set (by simp[idO hid]) k (by (first|exact renL_old hu (by intro z h1 h2; (try simp[lkN]); try omega) hXn|exact renL_old hu (by intro z h1 h2; rfl) hXn))⟩
 have h3:f.kind≠3:=by simpa using h3
 have hxk:xs[k]'hkx=eCn cl none:=by rw[List.getElem?_eq_getElem hkx] at hx; injection hx
 simp[hxk,hx,hkx,eCn,eIds,D1,T1,c1,d1,d1.symm,d2,d2.symm,d3,d3.symm]
 have h4:cl.ids.length≠6:=by rw[hn]; simp
 have hle:iFind cl.ids e.n≤cl.ids.length:=(bs_le _ _ _ (Nat.zero_le _)).2
 have hE:linkE (stOf l S) f cl e.n=0:=by unfold linkE; rw[if_neg (by simp[h1]),if_neg (by simp[h2]),if_neg h3,if_neg h4]
 have hW:linkW (stOf l S) f cl e.n c k id xs none=[(c,some ⟨xs.set k (.agg [.int .i64 cl.n,.str cl.text,.bsl id 0 (cl.ids.length+1)]),zC,false,false⟩),(id,some ⟨(cl.ids.take (iFind cl.ids e.n)++e.n::cl.ids.drop (iFind cl.ids e.n)).map eI,.int .i64 0,false,false⟩)]:=by
  have hll:(cl.ids.take (iFind cl.ids e.n)++e.n::cl.ids.drop (iFind cl.ids e.n)).length=cl.ids.length+1:=by simp; omega
  unfold linkW linkL; rw[if_neg (by omega),if_neg h3]; simp only[h3,if_false,goneI,eCn,eIds,hll]; rfl
 rw[hE,hW] at hR
 have hIc:=fun (id:Nat)=>hIns (E.n0+68608) (iFind cl.ids e.n) id hle (by omega) (fun _=>hn) (by intro I' h; cases h)
 have hyp:pureL ((cl.ids.take (iFind cl.ids e.n)++e.n::cl.ids.drop (iFind cl.ids e.n)).map eI)=true:=pure_ints _
 generalize (cl.ids.take (iFind cl.ids e.n)++e.n::cl.ids.drop (iFind cl.ids e.n)).map eI=ys at *
 dsimp only[goneI,List.cons_append,List.nil_append] at hIc
 simp only[eI] at hIc
 (refine w_call hP rfl (hIc _) (by simp[D1,T1,c1,d1,d1.symm,d2,d2.symm,d3,d3.symm]) (by simp[D1,T1,c1,d1,d1.symm,d2,d2.symm,d3,d3.symm]<;>rfl) ?_; refine w_go 4000 ?_; simp[D1,T1,c1,d1,d1.symm,d2,d2.symm,d3,d3.symm])
 refine⟨hkx,?_⟩
 simp[hxk,hx,hkx,eCn,D1,T1,c1,d1,d1.symm,d2,d2.symm,d3,d3.symm]
 have hrn:rnOk [(id,E.n0+69632)]:=by simp[hx,eCn,eI,D1,T1,c1,d1,d1.symm,d2,d2.symm,d3,d3.symm,idO hid]
 rw[hR]
 refine rt_end (by simp<;>rfl) [(id,E.n0+69632)] hrn ⟨?_,?_,?_,?_,?_,?_⟩<;>(try simp[hx,eCn,eI,D1,T1,c1,d1,d1.symm,d2,d2.symm,d3,d3.symm,idO hid])
 exact⟨by (first|exact renL_old hu (by intro z h1 h2; (try simp[lkN]); try omega) hTn|exact renL_old hu (by intro z h1 h2; rfl) hTn),renL_set (by simp[idO hid]) k (by (first|exact renL_old hu (by intro z h1 h2; (try simp[lkN]); try omega) hXn|exact renL_old hu (by intro z h1 h2; rfl) hXn)),renL_pure rfl hyp⟩
end Go.Am
namespace Go.Am
set_option linter.all false
open Go Go.RowKit Go.Proofs
set_option maxRecDepth 100000
set_option linter.all false
def chgE(s:Sta)(f:Fd)(c:Cl)(e:Ev):Int :=
 if e.kind=3 then (if -999999999≤e.n∧e.n≤999999999 then 0 else 3)
 else if e.kind=4 then (if 40<e.text.length then 2 else 0)
 else if e.kind=5 then linkE s f c e.n
 else if iFindB c.ids e.n=true then 0 else 5
def cutL(c:Cl)(n:Int):List Int:=c.ids.take (iFind c.ids n)++c.ids.drop (iFind c.ids n+1)
def chgC(f:Fd)(c:Cl)(e:Ev):Cl :=
 if e.kind=3 then ⟨e.n,c.text,c.ids⟩ else if e.kind=4 then ⟨c.n,e.text,c.ids⟩ else if e.kind=5 then ⟨c.n,c.text,linkL f c e.n⟩ else ⟨c.n,c.text,cutL c e.n⟩
def chgW(s:Sta)(f:Fd)(c:Cl)(e:Ev)(cb k id:Nat)(xs:List AV)(i:Option Nat):List (Nat×Option Bx) :=
 if chgE s f c e≠0 then [] else if e.kind=3∨e.kind=4 then [(cb,some ⟨xs.set k (eCn (chgC f c e) i),zC,false,false⟩)]
 else (if e.kind=5∧f.kind=3 then [] else goneI i)++[(cb,some ⟨xs.set k (eCn (chgC f c e) (some id)),zC,false,false⟩),(id,some ⟨(chgC f c e).ids.map eI,.int .i64 0,false,false⟩)]
set_option maxHeartbeats 1000000 in
theorem change_err(l:List Ty)(S:List OTg)(e:Ev)(i:Nat)(o:OTg)(ty:Ty)(D T:Nat)(id:Nat)(f:AV)(w:Int)(hw:w≠0)(hf:∃a b c,f = .agg [.str a,.int .i64 b,.str c])(hr:fieldR ty e o.c = .tup [f,.nilp,.int .i64 w])(hty:l[e.type.toNat]?=some ty)(h0:0≤e.type)(ho:S[i]?=some o)(hlen:o.t.cells.length=ty.fields.length)(his:o.is.length=o.t.cells.length)(hl8:ty.fields.length≤1000)(d1:D≠T)(d2:D≠o.c)(d3:T≠o.c):
  FnOk Tryz.prog 113 [.ptr D 0 0] [(D,dBx l (.bsl T 0 S.length) e i),(T,tBx S),(o.c,cBn o)] id (.int .i64 w) []:=by
 have hX:=fun id=>dField_ok l S e i o ty D T id hty h0 ho hlen his hl8 d1 d2 d3
 rw[hr] at hX
 obtain⟨fa,fb,fc,rfl⟩:=hf
 unfold tBx dBx cBn eD at *
 generalize hoc:o.c=c at *
 refine fn_okb Tryz.func113 hcc113 (by decide) hcr113 (by simp[Tryz.ntmps113]) fun E hP hR hl hid hB hu=>?_
 simp only[cr113] at hR
 refine w_go 4000 ?_
 simp[cc113]
 have hD:=hl (D,_) (List.mem_cons_self ..)
 simp only at hD
 have D1:=lf hD
 have hT:=hl (T,_) (List.mem_cons_of_mem _ (List.mem_cons_self ..))
 simp only at hT
 have T1:=lf hT
 have hc:=hl (c,_) (List.mem_cons_of_mem _ (List.mem_cons_of_mem _ (List.mem_cons_self ..)))
 simp only at hc
 have c1:=lf hc
 have hTn:∀x∈S.map eTn,namesIn E.G0.used x:=old_names hB (List.mem_cons_of_mem _ (List.mem_cons_self ..))
 have hCn:∀x∈List.zipWith eCn o.t.cells o.is,namesIn E.G0.used x:=old_names hB (List.mem_cons_of_mem _ (List.mem_cons_of_mem _ (List.mem_cons_self ..)))
 (refine w_call hP rfl (hX _) (by simp[D1,T1,c1,d1,d1.symm,d2,d2.symm,d3,d3.symm]) (by simp[D1,T1,c1,d1,d1.symm,d2,d2.symm,d3,d3.symm]<;>rfl) ?_; refine w_go 4000 ?_; simp[D1,T1,c1,d1,d1.symm,d2,d2.symm,d3,d3.symm])
 refine goc (fun h=>?_) (fun h=>?_)
 ·simp[D1,T1,c1,d1,d1.symm,d2,d2.symm,d3,d3.symm]
  have hrn:rnOk []:=by simp[D1,T1,c1,d1,d1.symm,d2,d2.symm,d3,d3.symm,idO hid]
  rw[hR]
  refine rt_end (by simp<;>rfl) [] hrn ⟨?_,?_,?_,?_,?_,?_⟩<;>(try simp[D1,T1,c1,d1,d1.symm,d2,d2.symm,d3,d3.symm,idO hid])
  exact⟨by (first|exact renL_old hu (by intro z h1 h2; (try simp[lkN]); try omega) hTn|exact renL_old hu (by intro z h1 h2; rfl) hTn),by (first|exact renL_old hu (by intro z h1 h2; (try simp[lkN]); try omega) hCn|exact renL_old hu (by intro z h1 h2; rfl) hCn)⟩
 ·exact (hw (by simpa using h)).elim
end Go.Am
namespace Go.Am
set_option linter.all false
open Go Go.RowKit Go.Proofs
set_option maxRecDepth 100000
set_option linter.all false
theorem zip_get{cs:List Cl}{is:List (Option Nat)}{k:Nat}{c:Cl}{i:Option Nat}(h1:cs[k]?=some c)(h2:is[k]?=some i):(List.zipWith eCn cs is)[k]?=some (eCn c i):=by
 rw[List.getElem?_zipWith,h1,h2]
theorem DeleteI_ok(c:Cl)(I k:Nat)(id:Nat)(hk:k<c.ids.length)(hbig:c.ids.length≤1000000):
  FnOk Tryz.prog 123 [.bsl I 0 c.ids.length,.int .i64 k,.int .i64 ((k:Int)+1)] [(I,iBx c)] id (.bsl id 0 (c.ids.length - 1)) [(I,none),(id,some ⟨(c.ids.take k++c.ids.drop (k+1)).map eI,.int .i64 0,false,false⟩)]:=by
 have h1:∀x∈c.ids.map eI,x.cells.all AV.one=true:=fun x hx=>by obtain⟨n,_,rfl⟩:=List.mem_map.1 hx; rfl
 have:=Delete_int (c.ids.map eI) I k id (by simpa using hk) (by simpa using hbig) h1
 rw[List.length_map] at this
 have hm:(c.ids.take k++c.ids.drop (k+1)).map eI=(c.ids.map eI).take k++(c.ids.map eI).drop (k+1):=by simp
 rw[hm]
 exact this
set_option maxHeartbeats 1000000 in
theorem change_some(l:List Ty)(S:List OTg)(e:Ev)(i:Nat)(o:OTg)(ty:Ty)(f:Fd)(cl:Cl)(I D T:Nat)(id:Nat)(hk1:3≤e.kind)(hk2:e.kind≤6)(hf0:0≤e.field)(hf:ty.fields[e.field.toNat]?=some f)(hkf:kindFits e.kind f=true)(hcl:o.t.cells[e.field.toNat]?=some cl)(hio:o.is[e.field.toNat]?=some (some I))
  (hty:l[e.type.toNat]?=some ty) (h0:0≤e.type) (ho:S[i]?=some o) (hlen:o.t.cells.length=ty.fields.length) (his:o.is.length=o.t.cells.length) (hl5:l.length≤1000) (hl8:ty.fields.length≤1000) (hS8:S.length≤1000) (hc8:cl.ids.length≤1000) (d1:D≠T) (d2:D≠o.c) (d3:T≠o.c) (d4:D≠I) (d5:T≠I) (d6:o.c≠I) :
  FnOk Tryz.prog 113 [.ptr D 0 0] [(D,dBx l (.bsl T 0 S.length) e i),(T,tBx S),(o.c,cBn o),(I,iBx cl)] id (.int .i64 (chgE (stOf l S) f cl e)) (chgW (stOf l S) f cl e o.c e.field.toNat id (List.zipWith eCn o.t.cells o.is) (some I)):=by
 have hX:=fun id=>dField_ok l S e i o ty D T id hty h0 ho hlen his hl8 d1 d2 d3
 have hr:fieldR ty e o.c = .tup [eFd f,.ptr o.c e.field.toNat 0,.int .i64 0]:=by unfold fieldR; rw[if_neg (by omega),hf]; simp only; rw[if_pos hkf]
 rw[hr] at hX
 have hx:=zip_get hcl hio
 have hLk:=fun id=>link_some l S e i f cl I (List.zipWith eCn o.t.cells o.is) e.field.toNat D T o.c id hx hl5 hS8 hc8 d1 d2 d3 d4 d5 d6
 have hB2:=fun id=>BinIntO_ok cl (some I) e.n id (by omega) (by simp)
 have hDl:=fun id hk=>DeleteI_ok cl I (iFind cl.ids e.n) id hk (by omega)
 have hkx:=(List.getElem?_eq_some_iff.1 hx).1
 have hxk:(List.zipWith eCn o.t.cells o.is)[e.field.toNat]'hkx=eCn cl (some I):=by rw[List.getElem?_eq_getElem hkx] at hx; injection hx
 unfold tBx dBx cBn eD idB iBx eIds eFd at *
 dsimp only at hB2
 generalize hoc:o.c=c at *
 generalize hzz:List.zipWith eCn o.t.cells o.is=xs at *
 generalize hkk:e.field.toNat=k at *
 refine fn_okb Tryz.func113 hcc113 (by decide) hcr113 (by simp[Tryz.ntmps113]) fun E hP hR hl hid hB hu=>?_
 simp only[cr113] at hR
 refine w_go 4000 ?_
 simp[cc113]
 have hD:=hl (D,_) (List.mem_cons_self ..)
 simp only at hD
 have D1:=lf hD
 have hT:=hl (T,_) (List.mem_cons_of_mem _ (List.mem_cons_self ..))
 simp only at hT
 have T1:=lf hT
 have hc:=hl (c,_) (List.mem_cons_of_mem _ (List.mem_cons_of_mem _ (List.mem_cons_self ..)))
 simp only at hc
 have c1:=lf hc
 have hI:=hl (I,_) (List.mem_cons_of_mem _ (List.mem_cons_of_mem _ (List.mem_cons_of_mem _ (List.mem_cons_self ..))))
 simp only at hI
 have I1:=lf hI
 have hTn:∀x∈S.map eTn,namesIn E.G0.used x:=old_names hB (List.mem_cons_of_mem _ (List.mem_cons_self ..))
 have hXn:∀x∈xs,namesIn E.G0.used x:=old_names hB (List.mem_cons_of_mem _ (List.mem_cons_of_mem _ (List.mem_cons_self ..)))
 (refine w_call hP rfl (hX _) (by simp[D1,T1,c1,I1,d1,d1.symm,d2,d2.symm,d3,d3.symm,d4,d4.symm,d5,d5.symm,d6,d6.symm]) (by simp[D1,T1,c1,I1,d1,d1.symm,d2,d2.symm,d3,d3.symm,d4,d4.symm,d5,d5.symm,d6,d6.symm]<;>rfl) ?_; refine w_go 4000 ?_; simp[D1,T1,c1,I1,d1,d1.symm,d2,d2.symm,d3,d3.symm,d4,d4.symm,d5,d5.symm,d6,d6.symm])
 refine goc (fun h3=>?_) (fun h3=>?_)<;>simp[D1,T1,c1,I1,d1,d1.symm,d2,d2.symm,d3,d3.symm,d4,d4.symm,d5,d5.symm,d6,d6.symm]
 ·have k3:e.kind=3:=by simpa using h3
  (refine w_call hP rfl (lexInt_ok _ _) (by simp[D1,T1,c1,I1,d1,d1.symm,d2,d2.symm,d3,d3.symm,d4,d4.symm,d5,d5.symm,d6,d6.symm]) (by simp[D1,T1,c1,I1,d1,d1.symm,d2,d2.symm,d3,d3.symm,d4,d4.symm,d5,d5.symm,d6,d6.symm]<;>rfl) ?_; refine w_go 4000 ?_; simp[D1,T1,c1,I1,d1,d1.symm,d2,d2.symm,d3,d3.symm,d4,d4.symm,d5,d5.symm,d6,d6.symm])
  refine goc (fun h4=>?_) (fun h4=>?_)<;>simp[D1,T1,c1,I1,d1,d1.symm,d2,d2.symm,d3,d3.symm,d4,d4.symm,d5,d5.symm,d6,d6.symm]
  ·have hE:chgE (stOf l S) f cl e=3:=by unfold chgE; rw[if_pos k3,if_neg (by simp at h4; omega)]
   have hW:chgW (stOf l S) f cl e c k id xs (some I)=[]:=by unfold chgW; rw[if_pos (by omega)]
   rw[hE,hW] at hR
   have hrn:rnOk []:=by simp[D1,T1,c1,I1,d1,d1.symm,d2,d2.symm,d3,d3.symm,d4,d4.symm,d5,d5.symm,d6,d6.symm,idO hid]
   rw[hR]
   refine rt_end (by simp<;>rfl) [] hrn ⟨?_,?_,?_,?_,?_,?_⟩<;>(try simp[D1,T1,c1,I1,d1,d1.symm,d2,d2.symm,d3,d3.symm,d4,d4.symm,d5,d5.symm,d6,d6.symm,idO hid])
   exact⟨by (first|exact renL_old hu (by intro z h1 h2; (try simp[lkN]); try omega) hTn|exact renL_old hu (by intro z h1 h2; rfl) hTn),by (first|exact renL_old hu (by intro z h1 h2; (try simp[lkN]); try omega) hXn|exact renL_old hu (by intro z h1 h2; rfl) hXn)⟩
  ·have hE:chgE (stOf l S) f cl e=0:=by unfold chgE; rw[if_pos k3,if_pos (by simp at h4; omega)]
   have hW:chgW (stOf l S) f cl e c k id xs (some I)=[(c,some ⟨xs.set k (.agg [.int .i64 e.n,.str cl.text,.bsl I 0 cl.ids.length]),zC,false,false⟩)]:=by unfold chgW; rw[if_neg (by omega),if_pos (.inl k3)]; simp[chgC,k3,eCn,eIds]
   rw[hE,hW] at hR
   refine⟨hkx,⟨hkx,by simp[hx,eCn]⟩,?_⟩
   simp[hx,eCn,eIds]
   have hrn:rnOk []:=by simp[hx,eCn,eIds,D1,T1,c1,I1,d1,d1.symm,d2,d2.symm,d3,d3.symm,d4,d4.symm,d5,d5.symm,d6,d6.symm,idO hid]
   rw[hR]
   refine rt_end (by simp<;>rfl) [] hrn ⟨?_,?_,?_,?_,?_,?_⟩<;>(try simp[hx,eCn,eIds,D1,T1,c1,I1,d1,d1.symm,d2,d2.symm,d3,d3.symm,d4,d4.symm,d5,d5.symm,d6,d6.symm,idO hid])
   exact⟨by (first|exact renL_old hu (by intro z h1 h2; (try simp[lkN]); try omega) hTn|exact renL_old hu (by intro z h1 h2; rfl) hTn),renL_set (by simp[I1]) k (by (first|exact renL_old hu (by intro z h1 h2; (try simp[lkN]); try omega) hXn|exact renL_old hu (by intro z h1 h2; rfl) hXn))⟩
 have k3:e.kind≠3:=by simpa using h3
 refine goc (fun h4=>?_) (fun h4=>?_)<;>simp[D1,T1,c1,I1,d1,d1.symm,d2,d2.symm,d3,d3.symm,d4,d4.symm,d5,d5.symm,d6,d6.symm]
 ·have k4:e.kind=4:=by simpa using h4
  refine goc (fun h5=>?_) (fun h5=>?_)<;>simp[D1,T1,c1,I1,d1,d1.symm,d2,d2.symm,d3,d3.symm,d4,d4.symm,d5,d5.symm,d6,d6.symm]
  ·have hE:chgE (stOf l S) f cl e=2:=by unfold chgE; rw[if_neg k3,if_pos k4,if_pos (by simp at h5; omega)]
   have hW:chgW (stOf l S) f cl e c k id xs (some I)=[]:=by unfold chgW; rw[if_pos (by omega)]
   rw[hE,hW] at hR
   have hrn:rnOk []:=by simp[D1,T1,c1,I1,d1,d1.symm,d2,d2.symm,d3,d3.symm,d4,d4.symm,d5,d5.symm,d6,d6.symm,idO hid]
   rw[hR]
   refine rt_end (by simp<;>rfl) [] hrn ⟨?_,?_,?_,?_,?_,?_⟩<;>(try simp[D1,T1,c1,I1,d1,d1.symm,d2,d2.symm,d3,d3.symm,d4,d4.symm,d5,d5.symm,d6,d6.symm,idO hid])
   exact⟨by (first|exact renL_old hu (by intro z h1 h2; (try simp[lkN]); try omega) hTn|exact renL_old hu (by intro z h1 h2; rfl) hTn),by (first|exact renL_old hu (by intro z h1 h2; (try simp[lkN]); try omega) hXn|exact renL_old hu (by intro z h1 h2; rfl) hXn)⟩
  ·have hE:chgE (stOf l S) f cl e=0:=by unfold chgE; rw[if_neg k3,if_pos k4,if_neg (by simp at h5; omega)]
   have hW:chgW (stOf l S) f cl e c k id xs (some I)=[(c,some ⟨xs.set k (.agg [.int .i64 cl.n,.str e.text,.bsl I 0 cl.ids.length]),zC,false,false⟩)]:=by unfold chgW; rw[if_neg (by omega),if_pos (.inr k4)]; simp[chgC,k4,eCn,eIds]
   rw[hE,hW] at hR
   refine⟨hkx,⟨hkx,by simp[hx,eCn]⟩,?_⟩
   simp[hx,eCn,eIds]
   have hrn:rnOk []:=by simp[hx,eCn,eIds,D1,T1,c1,I1,d1,d1.symm,d2,d2.symm,d3,d3.symm,d4,d4.symm,d5,d5.symm,d6,d6.symm,idO hid]
   rw[hR]
   refine rt_end (by simp<;>rfl) [] hrn ⟨?_,?_,?_,?_,?_,?_⟩<;>(try simp[hx,eCn,eIds,D1,T1,c1,I1,d1,d1.symm,d2,d2.symm,d3,d3.symm,d4,d4.symm,d5,d5.symm,d6,d6.symm,idO hid])
   exact⟨by (first|exact renL_old hu (by intro z h1 h2; (try simp[lkN]); try omega) hTn|exact renL_old hu (by intro z h1 h2; rfl) hTn),renL_set (by simp[I1]) k (by (first|exact renL_old hu (by intro z h1 h2; (try simp[lkN]); try omega) hXn|exact renL_old hu (by intro z h1 h2; rfl) hXn))⟩
 have k4:e.kind≠4:=by simpa using h4
 refine goc (fun h5=>?_) (fun h5=>?_)<;>simp[D1,T1,c1,I1,d1,d1.symm,d2,d2.symm,d3,d3.symm,d4,d4.symm,d5,d5.symm,d6,d6.symm]
 ·have k5:e.kind=5:=by simpa using h5
  have hE:chgE (stOf l S) f cl e=linkE (stOf l S) f cl e.n:=by unfold chgE; rw[if_neg k3,if_neg k4,if_pos k5]
  have hC:chgC f cl e=⟨cl.n,cl.text,linkL f cl e.n⟩:=by unfold chgC; rw[if_neg k3,if_neg k4,if_pos k5]
  have k34:¬(e.kind=3∨e.kind=4):=by omega
  rw[hE] at hR
  by_cases q1:linkE (stOf l S) f cl e.n=0
  ·by_cases q2:f.kind=3
   ·have hLw:∀id,linkW (stOf l S) f cl e.n c k id xs (some I)=[(c,some ⟨xs.set k (.agg [.int .i64 cl.n,.str cl.text,.bsl id 0 (linkL f cl e.n).length]),zC,false,false⟩),(id,some ⟨(linkL f cl e.n).map eI,.int .i64 0,false,false⟩)]:=fun id=>by unfold linkW; rw[if_neg (by omega),if_pos q2]; rfl
    have hW:chgW (stOf l S) f cl e c k id xs (some I)=[(c,some ⟨xs.set k (.agg [.int .i64 cl.n,.str cl.text,.bsl id 0 (linkL f cl e.n).length]),zC,false,false⟩),(id,some ⟨(linkL f cl e.n).map eI,.int .i64 0,false,false⟩)]:=by unfold chgW; rw[if_neg (by omega),if_neg k34,if_pos ⟨k5,q2⟩,hC]; rfl
    simp only[hLw] at hLk
    rw[hW] at hR
    (refine w_call hP rfl (hLk _) (by simp[D1,T1,c1,I1,d1,d1.symm,d2,d2.symm,d3,d3.symm,d4,d4.symm,d5,d5.symm,d6,d6.symm]) (by simp[D1,T1,c1,I1,d1,d1.symm,d2,d2.symm,d3,d3.symm,d4,d4.symm,d5,d5.symm,d6,d6.symm]<;>rfl) ?_; refine w_go 4000 ?_; simp[D1,T1,c1,I1,d1,d1.symm,d2,d2.symm,d3,d3.symm,d4,d4.symm,d5,d5.symm,d6,d6.symm])
    have hrn:rnOk [(id,E.n0+27648)]:=by simp[hx,eCn,eIds,D1,T1,c1,I1,d1,d1.symm,d2,d2.symm,d3,d3.symm,d4,d4.symm,d5,d5.symm,d6,d6.symm,idO hid]
    rw[hR]
    refine rt_end (by simp<;>rfl) [(id,E.n0+27648)] hrn ⟨?_,?_,?_,?_,?_,?_⟩<;>(try simp[hx,eCn,eIds,D1,T1,c1,I1,d1,d1.symm,d2,d2.symm,d3,d3.symm,d4,d4.symm,d5,d5.symm,d6,d6.symm,idO hid])
    exact⟨by (first|exact renL_old hu (by intro z h1 h2; (try simp[lkN]); try omega) hTn|exact renL_old hu (by intro z h1 h2; rfl) hTn),renL_set (by simp[idO hid]) k (by (first|exact renL_old hu (by intro z h1 h2; (try simp[lkN]); try omega) hXn|exact renL_old hu (by intro z h1 h2; rfl) hXn))⟩
   ·have hLw:∀id,linkW (stOf l S) f cl e.n c k id xs (some I)=[(I,none),(c,some ⟨xs.set k (.agg [.int .i64 cl.n,.str cl.text,.bsl id 0 (linkL f cl e.n).length]),zC,false,false⟩),(id,some ⟨(linkL f cl e.n).map eI,.int .i64 0,false,false⟩)]:=fun id=>by unfold linkW; rw[if_neg (by omega),if_neg q2]; rfl
    have hW:chgW (stOf l S) f cl e c k id xs (some I)=[(I,none),(c,some ⟨xs.set k (.agg [.int .i64 cl.n,.str cl.text,.bsl id 0 (linkL f cl e.n).length]),zC,false,false⟩),(id,some ⟨(linkL f cl e.n).map eI,.int .i64 0,false,false⟩)]:=by unfold chgW; rw[if_neg (by omega),if_neg k34,if_neg (fun h=>q2 h.2),hC]; rfl
    simp only[hLw] at hLk
    rw[hW] at hR
    (refine w_call hP rfl (hLk _) (by simp[D1,T1,c1,I1,d1,d1.symm,d2,d2.symm,d3,d3.symm,d4,d4.symm,d5,d5.symm,d6,d6.symm]) (by simp[D1,T1,c1,I1,d1,d1.symm,d2,d2.symm,d3,d3.symm,d4,d4.symm,d5,d5.symm,d6,d6.symm]<;>rfl) ?_; refine w_go 4000 ?_; simp[D1,T1,c1,I1,d1,d1.symm,d2,d2.symm,d3,d3.symm,d4,d4.symm,d5,d5.symm,d6,d6.symm])
    have hrn:rnOk [(id,E.n0+27648)]:=by simp[hx,eCn,eIds,D1,T1,c1,I1,d1,d1.symm,d2,d2.symm,d3,d3.symm,d4,d4.symm,d5,d5.symm,d6,d6.symm,idO hid]
    rw[hR]
    refine rt_end (by simp<;>rfl) [(id,E.n0+27648)] hrn ⟨?_,?_,?_,?_,?_,?_⟩<;>(try simp[hx,eCn,eIds,D1,T1,c1,I1,d1,d1.symm,d2,d2.symm,d3,d3.symm,d4,d4.symm,d5,d5.symm,d6,d6.symm,idO hid])
    exact⟨by (first|exact renL_old hu (by intro z h1 h2; (try simp[lkN]); try omega) hTn|exact renL_old hu (by intro z h1 h2; rfl) hTn),renL_set (by simp[idO hid]) k (by (first|exact renL_old hu (by intro z h1 h2; (try simp[lkN]); try omega) hXn|exact renL_old hu (by intro z h1 h2; rfl) hXn))⟩
  ·have hLw:∀id,linkW (stOf l S) f cl e.n c k id xs (some I)=[]:=fun id=>by unfold linkW; rw[if_pos q1]
   have hW:chgW (stOf l S) f cl e c k id xs (some I)=[]:=by unfold chgW; rw[if_pos (by omega)]
   simp only[hLw] at hLk
   rw[hW] at hR
   (refine w_call hP rfl (hLk _) (by simp[D1,T1,c1,I1,d1,d1.symm,d2,d2.symm,d3,d3.symm,d4,d4.symm,d5,d5.symm,d6,d6.symm]) (by simp[D1,T1,c1,I1,d1,d1.symm,d2,d2.symm,d3,d3.symm,d4,d4.symm,d5,d5.symm,d6,d6.symm]<;>rfl) ?_; refine w_go 4000 ?_; simp[D1,T1,c1,I1,d1,d1.symm,d2,d2.symm,d3,d3.symm,d4,d4.symm,d5,d5.symm,d6,d6.symm])
   have hrn:rnOk []:=by simp[D1,T1,c1,I1,d1,d1.symm,d2,d2.symm,d3,d3.symm,d4,d4.symm,d5,d5.symm,d6,d6.symm,idO hid]
   rw[hR]
   refine rt_end (by simp<;>rfl) [] hrn ⟨?_,?_,?_,?_,?_,?_⟩<;>(try simp[D1,T1,c1,I1,d1,d1.symm,d2,d2.symm,d3,d3.symm,d4,d4.symm,d5,d5.symm,d6,d6.symm,idO hid])
   exact⟨by (first|exact renL_old hu (by intro z h1 h2; (try simp[lkN]); try omega) hTn|exact renL_old hu (by intro z h1 h2; rfl) hTn),by (first|exact renL_old hu (by intro z h1 h2; (try simp[lkN]); try omega) hXn|exact renL_old hu (by intro z h1 h2; rfl) hXn)⟩
 have k5:e.kind≠5:=by simpa using h5
 have k6:e.kind=6:=by omega
 refine goc_true (by simp[k6]) ?_
 simp[hxk,hx,hkx,eCn,eIds,D1,T1,c1,I1,d1,d1.symm,d2,d2.symm,d3,d3.symm,d4,d4.symm,d5,d5.symm,d6,d6.symm]
 (refine w_call hP rfl (hB2 _) (by simp[D1,T1,c1,I1,d1,d1.symm,d2,d2.symm,d3,d3.symm,d4,d4.symm,d5,d5.symm,d6,d6.symm]) (by simp[D1,T1,c1,I1,d1,d1.symm,d2,d2.symm,d3,d3.symm,d4,d4.symm,d5,d5.symm,d6,d6.symm]<;>rfl) ?_; refine w_go 4000 ?_; simp[D1,T1,c1,I1,d1,d1.symm,d2,d2.symm,d3,d3.symm,d4,d4.symm,d5,d5.symm,d6,d6.symm])
 refine goc (fun h7=>?_) (fun h7=>?_)<;>simp[hxk,hx,hkx,eCn,eIds,D1,T1,c1,I1,d1,d1.symm,d2,d2.symm,d3,d3.symm,d4,d4.symm,d5,d5.symm,d6,d6.symm]
 ·have hE:chgE (stOf l S) f cl e=5:=by unfold chgE; rw[if_neg k3,if_neg k4,if_neg k5,if_neg (by simpa using h7)]
  have hW:chgW (stOf l S) f cl e c k id xs (some I)=[]:=by unfold chgW; rw[if_pos (by omega)]
  rw[hE,hW] at hR
  have hrn:rnOk []:=by simp[D1,T1,c1,I1,d1,d1.symm,d2,d2.symm,d3,d3.symm,d4,d4.symm,d5,d5.symm,d6,d6.symm,idO hid]
  rw[hR]
  refine rt_end (by simp<;>rfl) [] hrn ⟨?_,?_,?_,?_,?_,?_⟩<;>(try simp[D1,T1,c1,I1,d1,d1.symm,d2,d2.symm,d3,d3.symm,d4,d4.symm,d5,d5.symm,d6,d6.symm,idO hid])
  exact⟨by (first|exact renL_old hu (by intro z h1 h2; (try simp[lkN]); try omega) hTn|exact renL_old hu (by intro z h1 h2; rfl) hTn),by (first|exact renL_old hu (by intro z h1 h2; (try simp[lkN]); try omega) hXn|exact renL_old hu (by intro z h1 h2; rfl) hXn)⟩
 have h7:iFindB cl.ids e.n=true:=by simpa using h7
 have h8:iFind cl.ids e.n<cl.ids.length:=by unfold iFindB at h7; simp at h7; exact h7.1
 have hE:chgE (stOf l S) f cl e=0:=by unfold chgE; rw[if_neg k3,if_neg k4,if_neg k5,if_pos h7]
 have hC:chgC f cl e=⟨cl.n,cl.text,cutL cl e.n⟩:=by unfold chgC; rw[if_neg k3,if_neg k4,if_neg k5]
 have hlc:(cutL cl e.n).length=cl.ids.length - 1:=by simp[cutL]; omega
 have hW:chgW (stOf l S) f cl e c k id xs (some I)=[(I,none),(c,some ⟨xs.set k (.agg [.int .i64 cl.n,.str cl.text,.bsl id 0 (cl.ids.length - 1)]),zC,false,false⟩),(id,some ⟨(cutL cl e.n).map eI,.int .i64 0,false,false⟩)]:=by unfold chgW; rw[if_neg (by omega),if_neg (by omega),if_neg (by omega),hC]; simp only[goneI,eCn,eIds,hlc]; rfl
 rw[hE,hW] at hR
 have hw1:IntKind.i64.wrap ((iFind cl.ids e.n:Int)+1)=(iFind cl.ids e.n:Int)+1:=wrap64 (by omega)
 rw[hw1]
 (refine w_call hP rfl (hDl _ h8) (by simp[D1,T1,c1,I1,d1,d1.symm,d2,d2.symm,d3,d3.symm,d4,d4.symm,d5,d5.symm,d6,d6.symm]) (by simp[D1,T1,c1,I1,d1,d1.symm,d2,d2.symm,d3,d3.symm,d4,d4.symm,d5,d5.symm,d6,d6.symm]<;>rfl) ?_; refine w_go 4000 ?_; simp[D1,T1,c1,I1,d1,d1.symm,d2,d2.symm,d3,d3.symm,d4,d4.symm,d5,d5.symm,d6,d6.symm])
 refine⟨hkx,⟨hkx,by simp[hx,eCn]⟩,?_⟩
 simp[hx,eCn,eIds]
 have hrn:rnOk [(id,E.n0+52224)]:=by simp[hx,eCn,eIds,D1,T1,c1,I1,d1,d1.symm,d2,d2.symm,d3,d3.symm,d4,d4.symm,d5,d5.symm,d6,d6.symm,idO hid]
 rw[hR]
 refine rt_end (by simp<;>rfl) [(id,E.n0+52224)] hrn ⟨?_,?_,?_,?_,?_,?_⟩<;>(try simp[hx,eCn,eIds,D1,T1,c1,I1,d1,d1.symm,d2,d2.symm,d3,d3.symm,d4,d4.symm,d5,d5.symm,d6,d6.symm,idO hid])
 refine⟨by (first|exact renL_old hu (by intro z h1 h2; (try simp[lkN]); try omega) hTn|exact renL_old hu (by intro z h1 h2; rfl) hTn),renL_set (by simp[idO hid]) k (by (first|exact renL_old hu (by intro z h1 h2; (try simp[lkN]); try omega) hXn|exact renL_old hu (by intro z h1 h2; rfl) hXn)),?_⟩
 have hcm:List.take (iFind cl.ids e.n) (List.map eI cl.ids)++List.drop (iFind cl.ids e.n+1) (List.map eI cl.ids)=(cutL cl e.n).map eI:=by simp[cutL]
 rw[hcm]
 exact ren_ints _ _ _
set_option maxHeartbeats 1000000 in
theorem change_none(l:List Ty)(S:List OTg)(e:Ev)(i:Nat)(o:OTg)(ty:Ty)(f:Fd)(cl:Cl)(D T:Nat)(id:Nat)(hk1:3≤e.kind)(hk2:e.kind≤6)(hf0:0≤e.field)(hf:ty.fields[e.field.toNat]?=some f)(hkf:kindFits e.kind f=true)(hcl:o.t.cells[e.field.toNat]?=some cl)(hio:o.is[e.field.toNat]?=some none)
  (hty:l[e.type.toNat]?=some ty) (h0:0≤e.type) (ho:S[i]?=some o) (hlen:o.t.cells.length=ty.fields.length) (his:o.is.length=o.t.cells.length) (hn:cl.ids=[]) (hl5:l.length≤1000) (hl8:ty.fields.length≤1000) (hS8:S.length≤1000) (hc8:cl.ids.length≤1000) (d1:D≠T) (d2:D≠o.c) (d3:T≠o.c) :
  FnOk Tryz.prog 113 [.ptr D 0 0] [(D,dBx l (.bsl T 0 S.length) e i),(T,tBx S),(o.c,cBn o)] id (.int .i64 (chgE (stOf l S) f cl e)) (chgW (stOf l S) f cl e o.c e.field.toNat id (List.zipWith eCn o.t.cells o.is) none):=by
 have hX:=fun id=>dField_ok l S e i o ty D T id hty h0 ho hlen his hl8 d1 d2 d3
 have hr:fieldR ty e o.c = .tup [eFd f,.ptr o.c e.field.toNat 0,.int .i64 0]:=by unfold fieldR; rw[if_neg (by omega),hf]; simp only; rw[if_pos hkf]
 rw[hr] at hX
 have hx:=zip_get hcl hio
 have hLk:=fun id=>link_none l S e i f cl (List.zipWith eCn o.t.cells o.is) e.field.toNat D T o.c id hx hn hl5 hS8 hc8 d1 d2 d3
 have hB2:=fun id=>BinIntO_ok cl none e.n id (by omega) (fun _=>hn)
 have hkx:=(List.getElem?_eq_some_iff.1 hx).1
 have hxk:(List.zipWith eCn o.t.cells o.is)[e.field.toNat]'hkx=eCn cl none:=by rw[List.getElem?_eq_getElem hkx] at hx; injection hx
 unfold tBx dBx cBn eD idB iBx eIds eFd at *
 dsimp only at hB2
 generalize hoc:o.c=c at *
 generalize hzz:List.zipWith eCn o.t.cells o.is=xs at *
 generalize hkk:e.field.toNat=k at *
 refine fn_okb Tryz.func113 hcc113 (by decide) hcr113 (by simp[Tryz.ntmps113]) fun E hP hR hl hid hB hu=>?_
 simp only[cr113] at hR
 refine w_go 4000 ?_
 simp[cc113]
 have hD:=hl (D,_) (List.mem_cons_self ..)
 simp only at hD
 have D1:=lf hD
 have hT:=hl (T,_) (List.mem_cons_of_mem _ (List.mem_cons_self ..))
 simp only at hT
 have T1:=lf hT
 have hc:=hl (c,_) (List.mem_cons_of_mem _ (List.mem_cons_of_mem _ (List.mem_cons_self ..)))
 simp only at hc
 have c1:=lf hc
 have hTn:∀x∈S.map eTn,namesIn E.G0.used x:=old_names hB (List.mem_cons_of_mem _ (List.mem_cons_self ..))
 have hXn:∀x∈xs,namesIn E.G0.used x:=old_names hB (List.mem_cons_of_mem _ (List.mem_cons_of_mem _ (List.mem_cons_self ..)))
 (refine w_call hP rfl (hX _) (by simp[D1,T1,c1,d1,d1.symm,d2,d2.symm,d3,d3.symm]) (by simp[D1,T1,c1,d1,d1.symm,d2,d2.symm,d3,d3.symm]<;>rfl) ?_; refine w_go 4000 ?_; simp[D1,T1,c1,d1,d1.symm,d2,d2.symm,d3,d3.symm])
 refine goc (fun h3=>?_) (fun h3=>?_)<;>simp[D1,T1,c1,d1,d1.symm,d2,d2.symm,d3,d3.symm]
 ·have k3:e.kind=3:=by simpa using h3
  (refine w_call hP rfl (lexInt_ok _ _) (by simp[D1,T1,c1,d1,d1.symm,d2,d2.symm,d3,d3.symm]) (by simp[D1,T1,c1,d1,d1.symm,d2,d2.symm,d3,d3.symm]<;>rfl) ?_; refine w_go 4000 ?_; simp[D1,T1,c1,d1,d1.symm,d2,d2.symm,d3,d3.symm])
  refine goc (fun h4=>?_) (fun h4=>?_)<;>simp[D1,T1,c1,d1,d1.symm,d2,d2.symm,d3,d3.symm]
  ·have hE:chgE (stOf l S) f cl e=3:=by unfold chgE; rw[if_pos k3,if_neg (by simp at h4; omega)]
   have hW:chgW (stOf l S) f cl e c k id xs none=[]:=by unfold chgW; rw[if_pos (by omega)]
   rw[hE,hW] at hR
   have hrn:rnOk []:=by simp[D1,T1,c1,d1,d1.symm,d2,d2.symm,d3,d3.symm,idO hid]
   rw[hR]
   refine rt_end (by simp<;>rfl) [] hrn ⟨?_,?_,?_,?_,?_,?_⟩<;>(try simp[D1,T1,c1,d1,d1.symm,d2,d2.symm,d3,d3.symm,idO hid])
   exact⟨by (first|exact renL_old hu (by intro z h1 h2; (try simp[lkN]); try omega) hTn|exact renL_old hu (by intro z h1 h2; rfl) hTn),by (first|exact renL_old hu (by intro z h1 h2; (try simp[lkN]); try omega) hXn|exact renL_old hu (by intro z h1 h2; rfl) hXn)⟩
  ·have hE:chgE (stOf l S) f cl e=0:=by unfold chgE; rw[if_pos k3,if_pos (by simp at h4; omega)]
   have hW:chgW (stOf l S) f cl e c k id xs none=[(c,some ⟨xs.set k (.agg [.int .i64 e.n,.str cl.text,.nils]),zC,false,false⟩)]:=by unfold chgW; rw[if_neg (by omega),if_pos (.inl k3)]; simp[chgC,k3,eCn,eIds]
   rw[hE,hW] at hR
   refine⟨hkx,⟨hkx,by simp[hx,eCn]⟩,?_⟩
   simp[hx,eCn,eIds]
   have hrn:rnOk []:=by simp[hx,eCn,eIds,D1,T1,c1,d1,d1.symm,d2,d2.symm,d3,d3.symm,idO hid]
   rw[hR]
   refine rt_end (by simp<;>rfl) [] hrn ⟨?_,?_,?_,?_,?_,?_⟩<;>(try simp[hx,eCn,eIds,D1,T1,c1,d1,d1.symm,d2,d2.symm,d3,d3.symm,idO hid])
   exact⟨by (first|exact renL_old hu (by intro z h1 h2; (try simp[lkN]); try omega) hTn|exact renL_old hu (by intro z h1 h2; rfl) hTn),renL_set (by simp) k (by (first|exact renL_old hu (by intro z h1 h2; (try simp[lkN]); try omega) hXn|exact renL_old hu (by intro z h1 h2; rfl) hXn))⟩
 have k3:e.kind≠3:=by simpa using h3
 refine goc (fun h4=>?_) (fun h4=>?_)<;>simp[D1,T1,c1,d1,d1.symm,d2,d2.symm,d3,d3.symm]
 ·have k4:e.kind=4:=by simpa using h4
  refine goc (fun h5=>?_) (fun h5=>?_)<;>simp[D1,T1,c1,d1,d1.symm,d2,d2.symm,d3,d3.symm]
  ·have hE:chgE (stOf l S) f cl e=2:=by unfold chgE; rw[if_neg k3,if_pos k4,if_pos (by simp at h5; omega)]
   have hW:chgW (stOf l S) f cl e c k id xs none=[]:=by unfold chgW; rw[if_pos (by omega)]
   rw[hE,hW] at hR
   have hrn:rnOk []:=by simp[D1,T1,c1,d1,d1.symm,d2,d2.symm,d3,d3.symm,idO hid]
   rw[hR]
   refine rt_end (by simp<;>rfl) [] hrn ⟨?_,?_,?_,?_,?_,?_⟩<;>(try simp[D1,T1,c1,d1,d1.symm,d2,d2.symm,d3,d3.symm,idO hid])
   exact⟨by (first|exact renL_old hu (by intro z h1 h2; (try simp[lkN]); try omega) hTn|exact renL_old hu (by intro z h1 h2; rfl) hTn),by (first|exact renL_old hu (by intro z h1 h2; (try simp[lkN]); try omega) hXn|exact renL_old hu (by intro z h1 h2; rfl) hXn)⟩
  ·have hE:chgE (stOf l S) f cl e=0:=by unfold chgE; rw[if_neg k3,if_pos k4,if_neg (by simp at h5; omega)]
   have hW:chgW (stOf l S) f cl e c k id xs none=[(c,some ⟨xs.set k (.agg [.int .i64 cl.n,.str e.text,.nils]),zC,false,false⟩)]:=by unfold chgW; rw[if_neg (by omega),if_pos (.inr k4)]; simp[chgC,k4,eCn,eIds]
   rw[hE,hW] at hR
   refine⟨hkx,⟨hkx,by simp[hx,eCn]⟩,?_⟩
   simp[hx,eCn,eIds]
   have hrn:rnOk []:=by simp[hx,eCn,eIds,D1,T1,c1,d1,d1.symm,d2,d2.symm,d3,d3.symm,idO hid]
   rw[hR]
   refine rt_end (by simp<;>rfl) [] hrn ⟨?_,?_,?_,?_,?_,?_⟩<;>(try simp[hx,eCn,eIds,D1,T1,c1,d1,d1.symm,d2,d2.symm,d3,d3.symm,idO hid])
   exact⟨by (first|exact renL_old hu (by intro z h1 h2; (try simp[lkN]); try omega) hTn|exact renL_old hu (by intro z h1 h2; rfl) hTn),renL_set (by simp) k (by (first|exact renL_old hu (by intro z h1 h2; (try simp[lkN]); try omega) hXn|exact renL_old hu (by intro z h1 h2; rfl) hXn))⟩
 have k4:e.kind≠4:=by simpa using h4
 refine goc (fun h5=>?_) (fun h5=>?_)<;>simp[D1,T1,c1,d1,d1.symm,d2,d2.symm,d3,d3.symm]
 ·have k5:e.kind=5:=by simpa using h5
  have hE:chgE (stOf l S) f cl e=linkE (stOf l S) f cl e.n:=by unfold chgE; rw[if_neg k3,if_neg k4,if_pos k5]
  have hC:chgC f cl e=⟨cl.n,cl.text,linkL f cl e.n⟩:=by unfold chgC; rw[if_neg k3,if_neg k4,if_pos k5]
  have k34:¬(e.kind=3∨e.kind=4):=by omega
  rw[hE] at hR
  by_cases q1:linkE (stOf l S) f cl e.n=0
  ·by_cases q2:f.kind=3
   ·have hLw:∀id,linkW (stOf l S) f cl e.n c k id xs none=[(c,some ⟨xs.set k (.agg [.int .i64 cl.n,.str cl.text,.bsl id 0 (linkL f cl e.n).length]),zC,false,false⟩),(id,some ⟨(linkL f cl e.n).map eI,.int .i64 0,false,false⟩)]:=fun id=>by unfold linkW; rw[if_neg (by omega),if_pos q2]; rfl
    have hW:chgW (stOf l S) f cl e c k id xs none=[(c,some ⟨xs.set k (.agg [.int .i64 cl.n,.str cl.text,.bsl id 0 (linkL f cl e.n).length]),zC,false,false⟩),(id,some ⟨(linkL f cl e.n).map eI,.int .i64 0,false,false⟩)]:=by unfold chgW; rw[if_neg (by omega),if_neg k34,if_pos ⟨k5,q2⟩,hC]; rfl
    simp only[hLw] at hLk
    rw[hW] at hR
    (refine w_call hP rfl (hLk _) (by simp[D1,T1,c1,d1,d1.symm,d2,d2.symm,d3,d3.symm]) (by simp[D1,T1,c1,d1,d1.symm,d2,d2.symm,d3,d3.symm]<;>rfl) ?_; refine w_go 4000 ?_; simp[D1,T1,c1,d1,d1.symm,d2,d2.symm,d3,d3.symm])
    have hrn:rnOk [(id,E.n0+27648)]:=by simp[hx,eCn,eIds,D1,T1,c1,d1,d1.symm,d2,d2.symm,d3,d3.symm,idO hid]
    rw[hR]
    refine rt_end (by simp<;>rfl) [(id,E.n0+27648)] hrn ⟨?_,?_,?_,?_,?_,?_⟩<;>(try simp[hx,eCn,eIds,D1,T1,c1,d1,d1.symm,d2,d2.symm,d3,d3.symm,idO hid])
    exact⟨by (first|exact renL_old hu (by intro z h1 h2; (try simp[lkN]); try omega) hTn|exact renL_old hu (by intro z h1 h2; rfl) hTn),renL_set (by simp[idO hid]) k (by (first|exact renL_old hu (by intro z h1 h2; (try simp[lkN]); try omega) hXn|exact renL_old hu (by intro z h1 h2; rfl) hXn))⟩
   ·have hLw:∀id,linkW (stOf l S) f cl e.n c k id xs none=[(c,some ⟨xs.set k (.agg [.int .i64 cl.n,.str cl.text,.bsl id 0 (linkL f cl e.n).length]),zC,false,false⟩),(id,some ⟨(linkL f cl e.n).map eI,.int .i64 0,false,false⟩)]:=fun id=>by unfold linkW; rw[if_neg (by omega),if_neg q2]; rfl
    have hW:chgW (stOf l S) f cl e c k id xs none=[(c,some ⟨xs.set k (.agg [.int .i64 cl.n,.str cl.text,.bsl id 0 (linkL f cl e.n).length]),zC,false,false⟩),(id,some ⟨(linkL f cl e.n).map eI,.int .i64 0,false,false⟩)]:=by unfold chgW; rw[if_neg (by omega),if_neg k34,if_neg (fun h=>q2 h.2),hC]; rfl
    simp only[hLw] at hLk
    rw[hW] at hR
    (refine w_call hP rfl (hLk _) (by simp[D1,T1,c1,d1,d1.symm,d2,d2.symm,d3,d3.symm]) (by simp[D1,T1,c1,d1,d1.symm,d2,d2.symm,d3,d3.symm]<;>rfl) ?_; refine w_go 4000 ?_; simp[D1,T1,c1,d1,d1.symm,d2,d2.symm,d3,d3.symm])
    have hrn:rnOk [(id,E.n0+27648)]:=by simp[hx,eCn,eIds,D1,T1,c1,d1,d1.symm,d2,d2.symm,d3,d3.symm,idO hid]
    rw[hR]
    refine rt_end (by simp<;>rfl) [(id,E.n0+27648)] hrn ⟨?_,?_,?_,?_,?_,?_⟩<;>(try simp[hx,eCn,eIds,D1,T1,c1,d1,d1.symm,d2,d2.symm,d3,d3.symm,idO hid])
    exact⟨by (first|exact renL_old hu (by intro z h1 h2; (try simp[lkN]); try omega) hTn|exact renL_old hu (by intro z h1 h2; rfl) hTn),renL_set (by simp[idO hid]) k (by (first|exact renL_old hu (by intro z h1 h2; (try simp[lkN]); try omega) hXn|exact renL_old hu (by intro z h1 h2; rfl) hXn))⟩
  ·have hLw:∀id,linkW (stOf l S) f cl e.n c k id xs none=[]:=fun id=>by unfold linkW; rw[if_pos q1]
   have hW:chgW (stOf l S) f cl e c k id xs none=[]:=by unfold chgW; rw[if_pos (by omega)]
   simp only[hLw] at hLk
   rw[hW] at hR
   (refine w_call hP rfl (hLk _) (by simp[D1,T1,c1,d1,d1.symm,d2,d2.symm,d3,d3.symm]) (by simp[D1,T1,c1,d1,d1.symm,d2,d2.symm,d3,d3.symm]<;>rfl) ?_; refine w_go 4000 ?_; simp[D1,T1,c1,d1,d1.symm,d2,d2.symm,d3,d3.symm])
   have hrn:rnOk []:=by simp[D1,T1,c1,d1,d1.symm,d2,d2.symm,d3,d3.symm,idO hid]
   rw[hR]
   refine rt_end (by simp<;>rfl) [] hrn ⟨?_,?_,?_,?_,?_,?_⟩<;>(try simp[D1,T1,c1,d1,d1.symm,d2,d2.symm,d3,d3.symm,idO hid])
   exact⟨by (first|exact renL_old hu (by intro z h1 h2; (try simp[lkN]); try omega) hTn|exact renL_old hu (by intro z h1 h2; rfl) hTn),by (first|exact renL_old hu (by intro z h1 h2; (try simp[lkN]); try omega) hXn|exact renL_old hu (by intro z h1 h2; rfl) hXn)⟩
 have k5:e.kind≠5:=by simpa using h5
 have k6:e.kind=6:=by omega
 refine goc_true (by simp[k6]) ?_
 simp[hxk,hx,hkx,eCn,eIds,D1,T1,c1,d1,d1.symm,d2,d2.symm,d3,d3.symm]
 (refine w_call hP rfl (hB2 _) (by simp[D1,T1,c1,d1,d1.symm,d2,d2.symm,d3,d3.symm]) (by simp[D1,T1,c1,d1,d1.symm,d2,d2.symm,d3,d3.symm]<;>rfl) ?_; refine w_go 4000 ?_; simp[D1,T1,c1,d1,d1.symm,d2,d2.symm,d3,d3.symm])
 refine goc (fun h7=>?_) (fun h7=>?_)<;>simp[hxk,hx,hkx,eCn,eIds,D1,T1,c1,d1,d1.symm,d2,d2.symm,d3,d3.symm]
 ·have hE:chgE (stOf l S) f cl e=5:=by unfold chgE; rw[if_neg k3,if_neg k4,if_neg k5,if_neg (by simpa using h7)]
  have hW:chgW (stOf l S) f cl e c k id xs none=[]:=by unfold chgW; rw[if_pos (by omega)]
  rw[hE,hW] at hR
  have hrn:rnOk []:=by simp[D1,T1,c1,d1,d1.symm,d2,d2.symm,d3,d3.symm,idO hid]
  rw[hR]
  refine rt_end (by simp<;>rfl) [] hrn ⟨?_,?_,?_,?_,?_,?_⟩<;>(try simp[D1,T1,c1,d1,d1.symm,d2,d2.symm,d3,d3.symm,idO hid])
  exact⟨by (first|exact renL_old hu (by intro z h1 h2; (try simp[lkN]); try omega) hTn|exact renL_old hu (by intro z h1 h2; rfl) hTn),by (first|exact renL_old hu (by intro z h1 h2; (try simp[lkN]); try omega) hXn|exact renL_old hu (by intro z h1 h2; rfl) hXn)⟩
 have h7:iFindB cl.ids e.n=true:=by simpa using h7
 rw[hn] at h7
 simp[iFindB] at h7
end Go.Am
