/- The verifier's answer for an event: a link, a cut. No condition. -/
import Derived.Test.YtblnaikecokobaaGreatYD
namespace Go.Am
set_option linter.all false
open Go Go.RowKit Go.Proofs
set_option maxRecDepth 100000
set_option linter.all false
set_option maxHeartbeats 2000000 in
theorem DoOf_5d(s:Sta)(q:Nat)(i fd n:Int)(tx:List UInt8)(id:Nat)(ty:Ty)(hty:s.types[q]?=some ty)(hf:fForm ⟨5,q,i,fd,n,tx⟩=0)(hi:1≤i∧i≤999)(h12:s.things.length≤1000)(a:Int)(hta:tgAt s.things q i=a)(j:Nat)(hj:a=j)(t:Tg)(ht:s.things[j]?=some t)(hc8:t.cells.length≤1000)(k:Nat)(hk:fd=k)(f:Fd)(hff:ty.fields[k]?=some f)(c:Cl)(hc:t.cells[k]?=some c)(hty8:s.types.length≤1000)(hi8:c.ids.length≤1000)(hkf:3<f.kind)(hn:¬tgAt s.things (kindOf s.types f.of) n<0)(hh:hasI c.ids n=false)(h6:c.ids.length≠6)(K:Nat)(hK:∀m,m≤c.ids.length→(∀x∈c.ids.drop m,n<x)→(∀x,0<m→c.ids[m - 1]?=some x→¬n<x)→m=K):FnOk Tryz.prog 32 [eSta s,eEv ⟨5,q,i,fd,n,tx⟩] [] id (.tup [.agg [.sl (s.types.map eTy),.sl ((s.things.map eTg).set j (.agg [.int .i64 t.type,.int .i64 t.id,.sl ((t.cells.map eCl).set k (.agg [.int .i64 c.n,.str c.text,.sl (insL (c.ids.map eI) (.int .i64 n) K)]))]))],.int .i64 0]) []:=by
 have hwq:¬((s.types.length:Int)≤(q:Int)):=by have:=(List.getElem?_eq_some_iff.1 hty).1; omega
 have hq:=(List.getElem?_eq_some_iff.1 hty).1
 have hCE:=fun id=>rCheckEvent_ok ⟨5,q,i,fd,n,tx⟩ id
 rw[hf] at hCE
 have hTA:=fun id=>ThingAt_ok s q i id (by omega)
 rw[hta] at hTA
 unfold eSta eEv at *
 refine fn_okc Tryz.func32 hcc32 (by decide) hcr32 (by simp[Tryz.ntmps32]) fun E hP hR hl hid=>?_
 simp only[cr32] at hR
 refine w_go 4000 ?_
 simp[cc32]
 (refine w_call hP rfl (hCE _) (by simp) (by simp<;>rfl) ?_; refine w_go 4000 ?_; simp)
 refine goc_false (by simp; omega) ?_
 simp
 (refine w_callg hP (by simp) rfl (fun hc=>⟨between_ok _ _ _ _,by revert hc; simp; try grind,by simp⟩) ?_; refine w_go 4000 ?_; simp)
 refine goc_false (by simp; omega) ?_
 simp
 (refine w_call hP rfl (hTA _) (by simp[hty,eTy]) (by simp[hty,eTy]<;>rfl) ?_; refine w_go 4000 ?_; simp[hty,eTy])
 (repeat (refine And.intro (by first|assumption|omega|(simp; omega)|(simp_all; done)) ?_))
 have hTT:=fun id=>TypeAt_ok s.types f.of id (by omega)
 have hTB:=fun id=>ThingAt_ok s (kindOf s.types f.of) n id (by omega)
 have hHI:=fun id=>hasId_ok c.ids n id (by omega)
 have hpn:(AV.int .i64 n).pureB=true:=rfl
 have hpI:∀m,pureL (insL (c.ids.map eI) (.int .i64 n) m)=true:=fun m=>pure_insL (pure_ints _) rfl
 have hW:=fun id=>withCell_ok s j k c.n c.text (.sl (insL (c.ids.map eI) (.int .i64 n) K)) (by simp[AV.pureB,hpI]) rfl t ht c hc id (by omega) (by omega)
 unfold eSta at hW
 have hjl:=(List.getElem?_eq_some_iff.1 ht).1
 subst hj
 refine goc_false (by simp) ?_
 simp
 have hkl:=(List.getElem?_eq_some_iff.1 hff).1
 have hcl:=(List.getElem?_eq_some_iff.1 hc).1
 subst hk
 refine goc_false (by simp; omega) ?_
 simp[hff,hc,eFd,eCl,eTg_eq t,ht]
 (repeat (refine And.intro (by first|assumption|omega|(simp; omega)|(simp_all; done)) ?_))
 refine goc_false (by simp; omega) ?_
 simp
 (refine w_call hP rfl (hTT _) (by simp) (by simp<;>rfl) ?_; refine w_go 4000 ?_; simp)
 (refine w_call hP rfl (hTB _) (by simp[kindOf_eq]) (by simp[kindOf_eq]<;>rfl) ?_; refine w_go 4000 ?_; simp[kindOf_eq])
 refine goc_false (by simp; omega) ?_
 simp
 (refine w_call hP rfl (hHI _) (by simp) (by simp<;>rfl) ?_; refine w_go 4000 ?_; simp)
 refine goc_false (by simp[hh]) ?_
 simp
 refine goc_false (by simp; omega) ?_
 simp
 refine goc_false (by simp; omega) ?_
 simp
 refine⟨⟨fun a _=>⟨rfl,fun y hy=>by simp[eI] at hy; subst hy; rfl⟩,by omega,by omega⟩,⟨by omega,by omega⟩,?_⟩
 have hw2:IntKind.i64.wrap (((c.ids.length:Int)+1) - 1)=(c.ids.length:Int):=by rw[wrap64 (by omega)]; omega
 have hw3:IntKind.i64.wrap (c.ids.length:Int)=(c.ids.length:Int):=wrap64 (by omega)
 refine w_loop (X:=Nat) (fun m=>⟨[(2,true,.ptr E.n0 0 0),(3,true,.ptr (E.n0+1) 0 0),(4,true,.ptr (E.n0+2) 0 0),(7,true,.int .i64 j),(12,true,.ptr (E.n0+3) 0 0),(13,true,.bsl (E.n0+4) 0 (c.ids.length+1)),(14,true,.int .i64 m)],
  [(E.n0,some ⟨[.agg [.sl (s.types.map eTy),.sl (s.things.map eTg)]],.agg [.sl (s.types.map eTy),.sl (s.things.map eTg)],false,false⟩),(E.n0+1,some ⟨[.agg [.int .i64 5,.int .i64 q,.int .i64 i,.int .i64 k,.int .i64 n,.str tx]],.agg [.int .i64 5,.int .i64 q,.int .i64 i,.int .i64 k,.int .i64 n,.str tx],false,false⟩),(E.n0+2,some ⟨[.agg [.nils,.nils]],.agg [.nils,.nils],false,false⟩),(E.n0+3,some ⟨[.agg [.int .i64 c.n,.str c.text,.sl (c.ids.map eI)]],.agg [.int .i64 0,.str [],.nils],false,false⟩),(E.n0+4,some ⟨insL (c.ids.map eI) (.int .i64 n) m,.int .i64 0,false,false⟩)],5⟩) (fun m=>m≤c.ids.length∧∀x∈c.ids.drop m,n<x) (fun m=>m) c.ids.length ?_ ⟨by omega,by simp⟩ ?_
 ·have hie:insL (c.ids.map eI) (.int .i64 n) c.ids.length=c.ids.map eI++[.int .i64 n]:=insL_end (by simp)
  have hrn:rnOk [(E.n0,E.n0),(E.n0+1,E.n0+1024),(E.n0+2,E.n0+2048),(E.n0+3,E.n0+82944),(E.n0+4,E.n0+152576)]:=by simp[hw2,hw3,hie]
  refine Conv.sub [(E.n0,E.n0),(E.n0+1,E.n0+1024),(E.n0+2,E.n0+2048),(E.n0+3,E.n0+82944),(E.n0+4,E.n0+152576)] hrn ?_ ?_ ?_ ?_ ?_<;>(try simp[hw2,hw3,hie])
  exact renL_pure rfl (by rw[←hie]; exact hpI _)
 ·rintro m ⟨hm,hff2⟩ p hp
  cases m with
  | zero =>
   have h0:0=K:=hK 0 (by omega) hff2 fun x h=>by omega
   subst h0
   have hle:(insL (c.ids.map eI) (.int .i64 n) 0).length=c.ids.length+1:=by rw[insL_len (by simp)]; simp
   have htk:List.take (c.ids.length+1) (insL (c.ids.map eI) (.int .i64 n) 0)=insL (c.ids.map eI) (.int .i64 n) 0:=List.take_of_length_le (by omega)
   have hwm:IntKind.i64.wrap (-1) = -1:=by decide
   have hg0:(insL (c.ids.map eI) (.int .i64 n) 0)[0]?=some (.int .i64 n):=insL_at (by omega)
   refine w_go 4000 ?_
   simp[hwm,hg0]
   (refine w_callR hP rfl (hW _) (by simp[hle,htk,hpI]<;>rfl) (by simp[hle,htk,hpI]) (by simp[hle,htk,hpI]<;>rfl) (by simp[hle,htk,hpI]) ?_; refine w_go 4000 ?_; simp[hle,htk,hpI])
   have hp1:pureL ((s.things.map eTg).set j (.agg [.int .i64 t.type,.int .i64 t.id,.sl ((t.cells.map eCl).set k (.agg [.int .i64 c.n,.str c.text,.sl (insL (c.ids.map eI) (.int .i64 n) 0)]))]))=true:=pureL_set (by have:=pureL_set (x:=.agg [.int .i64 c.n,.str c.text,.sl (insL (c.ids.map eI) (.int .i64 n) 0)]) (by simp[hpI]) k (pure_cls t.cells); simp[this]) j (pure_tgs _)
   rw[hR]; exact rt_end (by simp<;>rfl) [] trivial (end_pure (by simp) (by simp[hp1]) (by simp))
  | succ j' =>
   have hjl:j'<c.ids.length:=by omega
   obtain⟨x1,hx1⟩:∃x1,c.ids[j']?=some x1:=⟨_,List.getElem?_eq_getElem hjl⟩
   have hg1:(insL (c.ids.map eI) (.int .i64 n) (j'+1))[j'+1]?=some (.int .i64 n):=insL_at (by simp; omega)
   have hg2:(insL (c.ids.map eI) (.int .i64 n) (j'+1))[j']?=some (.int .i64 x1):=by rw[insL_lt (by omega) (by simp; omega),List.getElem?_map,hx1]; rfl
   have hle:(insL (c.ids.map eI) (.int .i64 n) (j'+1)).length=c.ids.length+1:=by rw[insL_len (by simp; omega)]; simp
   have hw4:IntKind.i64.wrap (j':Int)=(j':Int):=wrap64 (by omega)
   have hw5:((j':Int)+1).toNat=j'+1:=by omega
   have hw6:(0:Int)<(j':Int)+1:=by omega
   have hw7:(0:Int)≤(j':Int)+1:=by omega
   refine w_go 4000 ?_
   simp[hg1,hg2,hle,hw4,hw5,hw6,hw7]
   (repeat (refine And.intro (by first|assumption|omega|(simp; omega)|(simp_all; done)) ?_))
   refine goc (fun g=>?_) (fun g=>?_)
   ·have hg3:∀y,((insL (c.ids.map eI) (.int .i64 n) (j'+1)).set (j'+1) y)[j']?=some (.int .i64 x1):=fun y=>by rw[List.getElem?_set_ne (by omega)]; exact hg2
    have hst:((insL (c.ids.map eI) (.int .i64 n) (j'+1)).set (j'+1) (.int .i64 x1)).set j' (.int .i64 n)=insL (c.ids.map eI) (.int .i64 n) j':=insL_step (by rw[List.getElem?_map,hx1]; rfl)
    simp[hg1,hg2,hg3,hle,hw4,hw5,hw6,hw7,hst]
    (repeat (refine And.intro (by first|assumption|omega|(simp; omega)|(simp_all; done)) ?_))
    refine hp _ j' ⟨by omega,fun x hx=>?_⟩ (by omega) ?_
    ·obtain⟨m,hm1,hm2⟩:=mem_drop_get hx
     rcases Nat.lt_or_ge j' m with hjm|hjm
     ·exact hff2 x (List.mem_of_getElem? (i:=m - (j'+1)) (by rw[List.getElem?_drop,show j'+1+(m - (j'+1))=m by omega]; exact hm2))
     ·obtain rfl:m=j':=by omega
      rw[hx1] at hm2; injection hm2 with hm2; subst hm2; simpa using g
    ·have hrn:rnOk [(E.n0,E.n0),(E.n0+1,E.n0+1),(E.n0+2,E.n0+2),(E.n0+3,E.n0+3),(E.n0+4,E.n0+4)]:=by simp[hw4]
     refine Conv.sub [(E.n0,E.n0),(E.n0+1,E.n0+1),(E.n0+2,E.n0+2),(E.n0+3,E.n0+3),(E.n0+4,E.n0+4)] hrn ?_ ?_ ?_ ?_ ?_<;>(try simp[hw4])
     exact renL_pure rfl (hpI _)
   ·have h0:j'+1=K:=hK (j'+1) (by omega) hff2 fun x h hx=>by
     rw[Nat.add_sub_cancel,hx1] at hx; injection hx with hx; subst hx; simpa using g
    subst h0
    have htk:List.take (c.ids.length+1) (insL (c.ids.map eI) (.int .i64 n) (j'+1))=insL (c.ids.map eI) (.int .i64 n) (j'+1):=List.take_of_length_le (by omega)
    simp
    (refine w_callR hP rfl (hW _) (by simp[hle,htk,hpI]<;>rfl) (by simp[hle,htk,hpI]) (by simp[hle,htk,hpI]<;>rfl) (by simp[hle,htk,hpI]) ?_; refine w_go 4000 ?_; simp[hle,htk,hpI])
    have hp1:pureL ((s.things.map eTg).set j (.agg [.int .i64 t.type,.int .i64 t.id,.sl ((t.cells.map eCl).set k (.agg [.int .i64 c.n,.str c.text,.sl (insL (c.ids.map eI) (.int .i64 n) (j'+1))]))]))=true:=pureL_set (by have:=pureL_set (x:=.agg [.int .i64 c.n,.str c.text,.sl (insL (c.ids.map eI) (.int .i64 n) (j'+1))]) (by simp[hpI]) k (pure_cls t.cells); simp[this]) j (pure_tgs _)
    rw[hR]; exact rt_end (by simp<;>rfl) [] trivial (end_pure (by simp) (by simp[hp1]) (by simp))
set_option maxHeartbeats 2000000 in
theorem DoOf_6x(s:Sta)(q:Nat)(i fd n:Int)(tx:List UInt8)(id:Nat)(ty:Ty)(hty:s.types[q]?=some ty)(hf:fForm ⟨6,q,i,fd,n,tx⟩=0)(hi:1≤i∧i≤999)(h12:s.things.length≤1000)(a:Int)(hta:tgAt s.things q i=a)(j:Nat)(hj:a=j)(t:Tg)(ht:s.things[j]?=some t)(hc8:t.cells.length≤1000)(k:Nat)(hk:fd=k)(f:Fd)(hff:ty.fields[k]?=some f)(c:Cl)(hc:t.cells[k]?=some c)(hty8:s.types.length≤1000)(hi8:c.ids.length≤1000)(hkf:¬f.kind<3)(hh:hasI c.ids n=false):FnOk Tryz.prog 32 [eSta s,eEv ⟨6,q,i,fd,n,tx⟩] [] id (.tup [eS0,.int .i64 5]) []:=by
 have hwq:¬((s.types.length:Int)≤(q:Int)):=by have:=(List.getElem?_eq_some_iff.1 hty).1; omega
 have hq:=(List.getElem?_eq_some_iff.1 hty).1
 have hCE:=fun id=>rCheckEvent_ok ⟨6,q,i,fd,n,tx⟩ id
 rw[hf] at hCE
 have hTA:=fun id=>ThingAt_ok s q i id (by omega)
 rw[hta] at hTA
 unfold eSta eEv at *
 refine fn_okc Tryz.func32 hcc32 (by decide) hcr32 (by simp[Tryz.ntmps32]) fun E hP hR hl hid=>?_
 simp only[cr32] at hR
 refine w_go 4000 ?_
 simp[cc32]
 (refine w_call hP rfl (hCE _) (by simp) (by simp<;>rfl) ?_; refine w_go 4000 ?_; simp)
 refine goc_false (by simp; omega) ?_
 simp
 (refine w_callg hP (by simp) rfl (fun hc=>⟨between_ok _ _ _ _,by revert hc; simp; try grind,by simp⟩) ?_; refine w_go 4000 ?_; simp)
 refine goc_false (by simp; omega) ?_
 simp
 (refine w_call hP rfl (hTA _) (by simp[hty,eTy]) (by simp[hty,eTy]<;>rfl) ?_; refine w_go 4000 ?_; simp[hty,eTy])
 (repeat (refine And.intro (by first|assumption|omega|(simp; omega)|(simp_all; done)) ?_))
 have hTT:=fun id=>TypeAt_ok s.types f.of id (by omega)
 have hTB:=fun id=>ThingAt_ok s (kindOf s.types f.of) n id (by omega)
 have hHI:=fun id=>hasId_ok c.ids n id (by omega)
 have hjl:=(List.getElem?_eq_some_iff.1 ht).1
 subst hj
 refine goc_false (by simp) ?_
 simp
 have hkl:=(List.getElem?_eq_some_iff.1 hff).1
 have hcl:=(List.getElem?_eq_some_iff.1 hc).1
 subst hk
 refine goc_false (by simp; omega) ?_
 simp[hff,hc,eFd,eCl,eTg_eq t,ht]
 (repeat (refine And.intro (by first|assumption|omega|(simp; omega)|(simp_all; done)) ?_))
 unfold eS0 at hR
 refine goc_false (by simp; omega) ?_
 simp
 (refine w_call hP rfl (hHI _) (by simp) (by simp<;>rfl) ?_; refine w_go 4000 ?_; simp)
 refine goc_true (by simp[hh]) ?_
 simp
 rw[hR]; exact rt_end (by simp<;>rfl) [] trivial (end_pure (by simp) (by simp) (by simp))
set_option maxHeartbeats 2000000 in
theorem DoOf_6d(s:Sta)(q:Nat)(i fd n:Int)(tx:List UInt8)(id:Nat)(ty:Ty)(hty:s.types[q]?=some ty)(hf:fForm ⟨6,q,i,fd,n,tx⟩=0)(hi:1≤i∧i≤999)(h12:s.things.length≤1000)(a:Int)(hta:tgAt s.things q i=a)(j:Nat)(hj:a=j)(t:Tg)(ht:s.things[j]?=some t)(hc8:t.cells.length≤1000)(k:Nat)(hk:fd=k)(f:Fd)(hff:ty.fields[k]?=some f)(c:Cl)(hc:t.cells[k]?=some c)(hty8:s.types.length≤1000)(hi8:c.ids.length≤1000)(hkf:¬f.kind<3)(hh:hasI c.ids n=true):FnOk Tryz.prog 32 [eSta s,eEv ⟨6,q,i,fd,n,tx⟩] [] id (.tup [.agg [.sl (s.types.map eTy),.sl ((s.things.map eTg).set j (.agg [.int .i64 t.type,.int .i64 t.id,.sl ((t.cells.map eCl).set k (.agg [.int .i64 c.n,.str c.text,.sl ((c.ids.filter fun x=>x != n).map eI)]))]))],.int .i64 0]) []:=by
 have hwq:¬((s.types.length:Int)≤(q:Int)):=by have:=(List.getElem?_eq_some_iff.1 hty).1; omega
 have hq:=(List.getElem?_eq_some_iff.1 hty).1
 have hCE:=fun id=>rCheckEvent_ok ⟨6,q,i,fd,n,tx⟩ id
 rw[hf] at hCE
 have hTA:=fun id=>ThingAt_ok s q i id (by omega)
 rw[hta] at hTA
 unfold eSta eEv at *
 refine fn_okc Tryz.func32 hcc32 (by decide) hcr32 (by simp[Tryz.ntmps32]) fun E hP hR hl hid=>?_
 simp only[cr32] at hR
 refine w_go 4000 ?_
 simp[cc32]
 (refine w_call hP rfl (hCE _) (by simp) (by simp<;>rfl) ?_; refine w_go 4000 ?_; simp)
 refine goc_false (by simp; omega) ?_
 simp
 (refine w_callg hP (by simp) rfl (fun hc=>⟨between_ok _ _ _ _,by revert hc; simp; try grind,by simp⟩) ?_; refine w_go 4000 ?_; simp)
 refine goc_false (by simp; omega) ?_
 simp
 (refine w_call hP rfl (hTA _) (by simp[hty,eTy]) (by simp[hty,eTy]<;>rfl) ?_; refine w_go 4000 ?_; simp[hty,eTy])
 (repeat (refine And.intro (by first|assumption|omega|(simp; omega)|(simp_all; done)) ?_))
 have hTT:=fun id=>TypeAt_ok s.types f.of id (by omega)
 have hTB:=fun id=>ThingAt_ok s (kindOf s.types f.of) n id (by omega)
 have hHI:=fun id=>hasId_ok c.ids n id (by omega)
 have hW:=fun id=>withCell_ok s j k c.n c.text (.sl ((c.ids.filter fun x=>x != n).map eI)) (by simp) rfl t ht c hc id (by omega) (by omega)
 unfold eSta at hW
 have hjl:=(List.getElem?_eq_some_iff.1 ht).1
 subst hj
 refine goc_false (by simp) ?_
 simp
 have hkl:=(List.getElem?_eq_some_iff.1 hff).1
 have hcl:=(List.getElem?_eq_some_iff.1 hc).1
 subst hk
 refine goc_false (by simp; omega) ?_
 simp[hff,hc,eFd,eCl,eTg_eq t,ht]
 (repeat (refine And.intro (by first|assumption|omega|(simp; omega)|(simp_all; done)) ?_))
 refine goc_false (by simp; omega) ?_
 simp
 (refine w_call hP rfl (hHI _) (by simp) (by simp<;>rfl) ?_; refine w_go 4000 ?_; simp)
 refine goc_false (by simp[hh]) ?_
 simp
 refine w_loop (X:=Nat) (fun m=>⟨[(2,true,.ptr E.n0 0 0),(3,true,.ptr (E.n0+1) 0 0),(4,true,.ptr (E.n0+2) 0 0),(7,true,.int .i64 j),(12,true,.ptr (E.n0+3) 0 0),(15,true,.bsl (E.n0+4) 0 ((c.ids.take m).filter fun x=>x != n).length),(16,true,.int .i64 m)],
  [(E.n0,some ⟨[.agg [.sl (s.types.map eTy),.sl (s.things.map eTg)]],.agg [.sl (s.types.map eTy),.sl (s.things.map eTg)],false,false⟩),(E.n0+1,some ⟨[.agg [.int .i64 6,.int .i64 q,.int .i64 i,.int .i64 k,.int .i64 n,.str tx]],.agg [.int .i64 6,.int .i64 q,.int .i64 i,.int .i64 k,.int .i64 n,.str tx],false,false⟩),(E.n0+2,some ⟨[.agg [.nils,.nils]],.agg [.nils,.nils],false,false⟩),(E.n0+3,some ⟨[.agg [.int .i64 c.n,.str c.text,.sl (c.ids.map eI)]],.agg [.int .i64 0,.str [],.nils],false,false⟩),(E.n0+4,some ⟨((c.ids.take m).filter fun x=>x != n).map eI,.int .i64 0,false,false⟩)],5⟩) (fun m=>m≤c.ids.length) (fun m=>c.ids.length - m) 0 ?_ (by omega) ?_
 ·refine Conv.trans (Conv.voidSlot 15 (x:=.nils) (y:=.bsl (E.n0+133120) 0 0) (by simp) .nils (.int .i64 0)) ?_
  have hrn:rnOk [(E.n0,E.n0),(E.n0+1,E.n0+1024),(E.n0+2,E.n0+2048),(E.n0+3,E.n0+82944),(E.n0+4,E.n0+133120)]:=by simp
  refine Conv.sub [(E.n0,E.n0),(E.n0+1,E.n0+1024),(E.n0+2,E.n0+2048),(E.n0+3,E.n0+82944),(E.n0+4,E.n0+133120)] hrn ?_ ?_ ?_ ?_ ?_<;>(try simp)
 ·rintro m hm p hp
  refine w_go 4000 ?_
  simp
  refine goc (fun h=>?_) (fun h=>?_)
  ·have h:=of_decide_eq_true h
   obtain⟨x,hx⟩:∃x,c.ids[m]?=some x:=⟨_,List.getElem?_eq_getElem h⟩
   have hi1:IntKind.i64.wrap ((m:Int)+1)=((m+1:Nat):Int):=wrap64 (by omega)
   have hfl:((c.ids.take m).filter fun x=>x != n).length≤m:=Nat.le_trans (List.length_filter_le ..) (by simp; omega)
   simp[hx,eI_eq]
   (repeat (refine And.intro (by first|assumption|omega|(simp; omega)|(simp_all; done)) ?_))
   refine goc (fun g=>?_) (fun g=>?_)
   ·have hnx:(x != n)=true:=by simpa using g
    have hts:(c.ids.take (m+1)).filter (fun x=>x != n)=(c.ids.take m).filter (fun x=>x != n)++[x]:=by rw[List.take_succ,hx]; simp[hnx]
    simp[hx,eI_eq]
    (repeat (refine And.intro (by first|assumption|omega|(simp; omega)|(simp_all; done)) ?_))
    refine hp _ (m+1) (by omega) (by omega) ?_
    have hrn:rnOk [(E.n0,E.n0),(E.n0+1,E.n0+1),(E.n0+2,E.n0+2),(E.n0+3,E.n0+3),(E.n0+4,E.n0+20485)]:=by simp[hi1,hts]
    refine Conv.sub [(E.n0,E.n0),(E.n0+1,E.n0+1),(E.n0+2,E.n0+2),(E.n0+3,E.n0+3),(E.n0+4,E.n0+20485)] hrn ?_ ?_ ?_ ?_ ?_<;>(try simp[hi1,hts])
    exact renL_pure rfl (pureL_append (pure_ints _) rfl)
   ·have hnx:(x != n)=false:=by simpa using g
    have hts:(c.ids.take (m+1)).filter (fun x=>x != n)=(c.ids.take m).filter (fun x=>x != n):=by rw[List.take_succ,hx]; simp[hnx]
    simp
    refine hp _ (m+1) (by omega) (by omega) ?_
    have hrn:rnOk [(E.n0,E.n0),(E.n0+1,E.n0+1),(E.n0+2,E.n0+2),(E.n0+3,E.n0+3),(E.n0+4,E.n0+4)]:=by simp[hi1,hts]
    refine Conv.sub [(E.n0,E.n0),(E.n0+1,E.n0+1),(E.n0+2,E.n0+2),(E.n0+3,E.n0+3),(E.n0+4,E.n0+4)] hrn ?_ ?_ ?_ ?_ ?_<;>(try simp[hi1,hts])
  ·have h:=of_decide_eq_false h
   have hall:c.ids.take m=c.ids:=List.take_of_length_le (by omega)
   simp
   rw[hall]
   (refine w_callR hP rfl (hW _) (by simp<;>rfl) (by simp) (by simp<;>rfl) (by simp) ?_; refine w_go 4000 ?_; simp)
   have hpI:pureL ((c.ids.filter fun x=>x != n).map eI)=true:=pure_ints _
   have hp1:pureL ((s.things.map eTg).set j (.agg [.int .i64 t.type,.int .i64 t.id,.sl ((t.cells.map eCl).set k (.agg [.int .i64 c.n,.str c.text,.sl ((c.ids.filter fun x=>x != n).map eI)]))]))=true:=pureL_set (by have:=pureL_set (x:=.agg [.int .i64 c.n,.str c.text,.sl ((c.ids.filter fun x=>x != n).map eI)]) (by simp[hpI]) k (pure_cls t.cells); simp[this]) j (pure_tgs _)
   rw[hR]; exact rt_end (by simp<;>rfl) [] trivial (end_pure (by simp) (by simp[hp1]) (by simp))
end Go.Am
