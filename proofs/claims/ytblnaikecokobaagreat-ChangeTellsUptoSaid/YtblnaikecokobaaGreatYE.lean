/- The verifier's answer for an event: a link, a cut. No condition. -/
import Derived.Test.YtblnaikecokobaaGreatYD
namespace Go.Am
set_option linter.all false
open Go Go.RowKit Go.Proofs
set_option maxRecDepth 100000
set_option linter.all false
set_option maxHeartbeats 2000000 in
theorem DoOf_5a(s:Sta)(q:Nat)(i fd n:Int)(tx:List UInt8)(id:Nat)(ty:Ty)(hty:s.types[q]?=some ty)(hf:fForm ⟨5,q,i,fd,n,tx⟩=0)(hi:1≤i∧i≤999)(h12:s.things.length≤1000)(a:Int)(hta:tgAt s.things q i=a)(j:Nat)(hj:a=j)(t:Tg)(ht:s.things[j]?=some t)(hc8:t.cells.length≤1000)(k:Nat)(hk:fd=k)(f:Fd)(hff:ty.fields[k]?=some f)(c:Cl)(hc:t.cells[k]?=some c)(hty8:s.types.length≤1000)(hi8:c.ids.length≤1000)(hkf:¬f.kind<3)(hn:tgAt s.things (kindOf s.types f.of) n<0):FnOk Tryz.prog 32 [eSta s,eEv ⟨5,q,i,fd,n,tx⟩] [] id (.tup [eS0,.int .i64 5]) []:=by
 have hwq:¬((s.types.length:Int)≤(q:Int)):=by have:=(List.getElem?_eq_some_iff.1 hty).1; omega
 have hq:=(List.getElem?_eq_some_iff.1 hty).1
 have hCE:=fun id=>rCheckEvent_ok ⟨5,q,i,fd,n,tx⟩ id
 rw[hf] at hCE
 have hTA:=fun id=>ThingAt_ok s q i id (by omega)
 rw[hta] at hTA
 unfold eSta eEv at *
 refine fn_okc Tryz.func32 hcc32 (by decide) hcr32 (by simp[Tryz.ntmps32]) fun E hP hR hl hid=>?_
 simp only[cr32] at hR
 refine w_go 4000 ?_
 simp[cc32]
 (refine w_call hP rfl (hCE _) (by simp) (by simp<;>rfl) ?_; refine w_go 4000 ?_; simp)
 refine goc_false (by simp; omega) ?_
 simp
 (refine w_callg hP (by simp) rfl (fun hc=>⟨between_ok _ _ _ _,by revert hc; simp; try grind,by simp⟩) ?_; refine w_go 4000 ?_; simp)
 refine goc_false (by simp; omega) ?_
 simp
 (refine w_call hP rfl (hTA _) (by simp[hty,eTy]) (by simp[hty,eTy]<;>rfl) ?_; refine w_go 4000 ?_; simp[hty,eTy])
 (repeat (refine And.intro (by first|assumption|omega|(simp; omega)|(simp_all; done)) ?_))
 have hTT:=fun id=>TypeAt_ok s.types f.of id (by omega)
 have hTB:=fun id=>ThingAt_ok s (kindOf s.types f.of) n id (by omega)
 have hHI:=fun id=>hasId_ok c.ids n id (by omega)
 have hjl:=(List.getElem?_eq_some_iff.1 ht).1
 subst hj
 refine goc_false (by simp) ?_
 simp
 have hkl:=(List.getElem?_eq_some_iff.1 hff).1
 have hcl:=(List.getElem?_eq_some_iff.1 hc).1
 subst hk
 refine goc_false (by simp; omega) ?_
 simp[hff,hc,eFd,eCl,eTg_eq t,ht]
 (repeat (refine And.intro (by first|assumption|omega|(simp; omega)|(simp_all; done)) ?_))
 unfold eS0 at hR
 refine goc_false (by simp; omega) ?_
 simp
 (refine w_call hP rfl (hTT _) (by simp) (by simp<;>rfl) ?_; refine w_go 4000 ?_; simp)
 (refine w_call hP rfl (hTB _) (by simp[kindOf_eq]) (by simp[kindOf_eq]<;>rfl) ?_; refine w_go 4000 ?_; simp[kindOf_eq])
 refine goc_true (by simp; omega) ?_
 simp
 rw[hR]; exact rt_end (by simp<;>rfl) [] trivial (end_pure (by simp) (by simp) (by simp))
set_option maxHeartbeats 2000000 in
theorem DoOf_5t(s:Sta)(q:Nat)(i fd n:Int)(tx:List UInt8)(id:Nat)(ty:Ty)(hty:s.types[q]?=some ty)(hf:fForm ⟨5,q,i,fd,n,tx⟩=0)(hi:1≤i∧i≤999)(h12:s.things.length≤1000)(a:Int)(hta:tgAt s.things q i=a)(j:Nat)(hj:a=j)(t:Tg)(ht:s.things[j]?=some t)(hc8:t.cells.length≤1000)(k:Nat)(hk:fd=k)(f:Fd)(hff:ty.fields[k]?=some f)(c:Cl)(hc:t.cells[k]?=some c)(hty8:s.types.length≤1000)(hi8:c.ids.length≤1000)(hkf:¬f.kind<3)(hn:¬tgAt s.things (kindOf s.types f.of) n<0)(hh:hasI c.ids n=true):FnOk Tryz.prog 32 [eSta s,eEv ⟨5,q,i,fd,n,tx⟩] [] id (.tup [eS0,.int .i64 6]) []:=by
 have hwq:¬((s.types.length:Int)≤(q:Int)):=by have:=(List.getElem?_eq_some_iff.1 hty).1; omega
 have hq:=(List.getElem?_eq_some_iff.1 hty).1
 have hCE:=fun id=>rCheckEvent_ok ⟨5,q,i,fd,n,tx⟩ id
 rw[hf] at hCE
 have hTA:=fun id=>ThingAt_ok s q i id (by omega)
 rw[hta] at hTA
 unfold eSta eEv at *
 refine fn_okc Tryz.func32 hcc32 (by decide) hcr32 (by simp[Tryz.ntmps32]) fun E hP hR hl hid=>?_
 simp only[cr32] at hR
 refine w_go 4000 ?_
 simp[cc32]
 (refine w_call hP rfl (hCE _) (by simp) (by simp<;>rfl) ?_; refine w_go 4000 ?_; simp)
 refine goc_false (by simp; omega) ?_
 simp
 (refine w_callg hP (by simp) rfl (fun hc=>⟨between_ok _ _ _ _,by revert hc; simp; try grind,by simp⟩) ?_; refine w_go 4000 ?_; simp)
 refine goc_false (by simp; omega) ?_
 simp
 (refine w_call hP rfl (hTA _) (by simp[hty,eTy]) (by simp[hty,eTy]<;>rfl) ?_; refine w_go 4000 ?_; simp[hty,eTy])
 (repeat (refine And.intro (by first|assumption|omega|(simp; omega)|(simp_all; done)) ?_))
 have hTT:=fun id=>TypeAt_ok s.types f.of id (by omega)
 have hTB:=fun id=>ThingAt_ok s (kindOf s.types f.of) n id (by omega)
 have hHI:=fun id=>hasId_ok c.ids n id (by omega)
 have hjl:=(List.getElem?_eq_some_iff.1 ht).1
 subst hj
 refine goc_false (by simp) ?_
 simp
 have hkl:=(List.getElem?_eq_some_iff.1 hff).1
 have hcl:=(List.getElem?_eq_some_iff.1 hc).1
 subst hk
 refine goc_false (by simp; omega) ?_
 simp[hff,hc,eFd,eCl,eTg_eq t,ht]
 (repeat (refine And.intro (by first|assumption|omega|(simp; omega)|(simp_all; done)) ?_))
 unfold eS0 at hR
 refine goc_false (by simp; omega) ?_
 simp
 (refine w_call hP rfl (hTT _) (by simp) (by simp<;>rfl) ?_; refine w_go 4000 ?_; simp)
 (refine w_call hP rfl (hTB _) (by simp[kindOf_eq]) (by simp[kindOf_eq]<;>rfl) ?_; refine w_go 4000 ?_; simp[kindOf_eq])
 refine goc_false (by simp; omega) ?_
 simp
 (refine w_call hP rfl (hHI _) (by simp) (by simp<;>rfl) ?_; refine w_go 4000 ?_; simp)
 refine goc_true (by simp[hh]) ?_
 simp
 rw[hR]; exact rt_end (by simp<;>rfl) [] trivial (end_pure (by simp) (by simp) (by simp))
set_option maxHeartbeats 2000000 in
theorem DoOf_5m(s:Sta)(q:Nat)(i fd n:Int)(tx:List UInt8)(id:Nat)(ty:Ty)(hty:s.types[q]?=some ty)(hf:fForm ⟨5,q,i,fd,n,tx⟩=0)(hi:1≤i∧i≤999)(h12:s.things.length≤1000)(a:Int)(hta:tgAt s.things q i=a)(j:Nat)(hj:a=j)(t:Tg)(ht:s.things[j]?=some t)(hc8:t.cells.length≤1000)(k:Nat)(hk:fd=k)(f:Fd)(hff:ty.fields[k]?=some f)(c:Cl)(hc:t.cells[k]?=some c)(hty8:s.types.length≤1000)(hi8:c.ids.length≤1000)(hkf:3<f.kind)(hn:¬tgAt s.things (kindOf s.types f.of) n<0)(hh:hasI c.ids n=false)(h6:c.ids.length=6):FnOk Tryz.prog 32 [eSta s,eEv ⟨5,q,i,fd,n,tx⟩] [] id (.tup [eS0,.int .i64 2]) []:=by
 have hwq:¬((s.types.length:Int)≤(q:Int)):=by have:=(List.getElem?_eq_some_iff.1 hty).1; omega
 have hq:=(List.getElem?_eq_some_iff.1 hty).1
 have hCE:=fun id=>rCheckEvent_ok ⟨5,q,i,fd,n,tx⟩ id
 rw[hf] at hCE
 have hTA:=fun id=>ThingAt_ok s q i id (by omega)
 rw[hta] at hTA
 unfold eSta eEv at *
 refine fn_okc Tryz.func32 hcc32 (by decide) hcr32 (by simp[Tryz.ntmps32]) fun E hP hR hl hid=>?_
 simp only[cr32] at hR
 refine w_go 4000 ?_
 simp[cc32]
 (refine w_call hP rfl (hCE _) (by simp) (by simp<;>rfl) ?_; refine w_go 4000 ?_; simp)
 refine goc_false (by simp; omega) ?_
 simp
 (refine w_callg hP (by simp) rfl (fun hc=>⟨between_ok _ _ _ _,by revert hc; simp; try grind,by simp⟩) ?_; refine w_go 4000 ?_; simp)
 refine goc_false (by simp; omega) ?_
 simp
 (refine w_call hP rfl (hTA _) (by simp[hty,eTy]) (by simp[hty,eTy]<;>rfl) ?_; refine w_go 4000 ?_; simp[hty,eTy])
 (repeat (refine And.intro (by first|assumption|omega|(simp; omega)|(simp_all; done)) ?_))
 have hTT:=fun id=>TypeAt_ok s.types f.of id (by omega)
 have hTB:=fun id=>ThingAt_ok s (kindOf s.types f.of) n id (by omega)
 have hHI:=fun id=>hasId_ok c.ids n id (by omega)
 have hjl:=(List.getElem?_eq_some_iff.1 ht).1
 subst hj
 refine goc_false (by simp) ?_
 simp
 have hkl:=(List.getElem?_eq_some_iff.1 hff).1
 have hcl:=(List.getElem?_eq_some_iff.1 hc).1
 subst hk
 refine goc_false (by simp; omega) ?_
 simp[hff,hc,eFd,eCl,eTg_eq t,ht]
 (repeat (refine And.intro (by first|assumption|omega|(simp; omega)|(simp_all; done)) ?_))
 unfold eS0 at hR
 refine goc_false (by simp; omega) ?_
 simp
 (refine w_call hP rfl (hTT _) (by simp) (by simp<;>rfl) ?_; refine w_go 4000 ?_; simp)
 (refine w_call hP rfl (hTB _) (by simp[kindOf_eq]) (by simp[kindOf_eq]<;>rfl) ?_; refine w_go 4000 ?_; simp[kindOf_eq])
 refine goc_false (by simp; omega) ?_
 simp
 (refine w_call hP rfl (hHI _) (by simp) (by simp<;>rfl) ?_; refine w_go 4000 ?_; simp)
 refine goc_false (by simp[hh]) ?_
 simp
 refine goc_false (by simp; omega) ?_
 simp
 refine goc_true (by simp; omega) ?_
 simp
 rw[hR]; exact rt_end (by simp<;>rfl) [] trivial (end_pure (by simp) (by simp) (by simp))
set_option maxHeartbeats 2000000 in
theorem DoOf_5o(s:Sta)(q:Nat)(i fd n:Int)(tx:List UInt8)(id:Nat)(ty:Ty)(hty:s.types[q]?=some ty)(hf:fForm ⟨5,q,i,fd,n,tx⟩=0)(hi:1≤i∧i≤999)(h12:s.things.length≤1000)(a:Int)(hta:tgAt s.things q i=a)(j:Nat)(hj:a=j)(t:Tg)(ht:s.things[j]?=some t)(hc8:t.cells.length≤1000)(k:Nat)(hk:fd=k)(f:Fd)(hff:ty.fields[k]?=some f)(c:Cl)(hc:t.cells[k]?=some c)(hty8:s.types.length≤1000)(hi8:c.ids.length≤1000)(hkf:f.kind=3)(hn:¬tgAt s.things (kindOf s.types f.of) n<0)(hh:hasI c.ids n=false):FnOk Tryz.prog 32 [eSta s,eEv ⟨5,q,i,fd,n,tx⟩] [] id (.tup [.agg [.sl (s.types.map eTy),.sl ((s.things.map eTg).set j (.agg [.int .i64 t.type,.int .i64 t.id,.sl ((t.cells.map eCl).set k (.agg [.int .i64 c.n,.str c.text,.sl [.int .i64 n]]))]))],.int .i64 0]) []:=by
 have hwq:¬((s.types.length:Int)≤(q:Int)):=by have:=(List.getElem?_eq_some_iff.1 hty).1; omega
 have hq:=(List.getElem?_eq_some_iff.1 hty).1
 have hCE:=fun id=>rCheckEvent_ok ⟨5,q,i,fd,n,tx⟩ id
 rw[hf] at hCE
 have hTA:=fun id=>ThingAt_ok s q i id (by omega)
 rw[hta] at hTA
 unfold eSta eEv at *
 refine fn_okc Tryz.func32 hcc32 (by decide) hcr32 (by simp[Tryz.ntmps32]) fun E hP hR hl hid=>?_
 simp only[cr32] at hR
 refine w_go 4000 ?_
 simp[cc32]
 (refine w_call hP rfl (hCE _) (by simp) (by simp<;>rfl) ?_; refine w_go 4000 ?_; simp)
 refine goc_false (by simp; omega) ?_
 simp
 (refine w_callg hP (by simp) rfl (fun hc=>⟨between_ok _ _ _ _,by revert hc; simp; try grind,by simp⟩) ?_; refine w_go 4000 ?_; simp)
 refine goc_false (by simp; omega) ?_
 simp
 (refine w_call hP rfl (hTA _) (by simp[hty,eTy]) (by simp[hty,eTy]<;>rfl) ?_; refine w_go 4000 ?_; simp[hty,eTy])
 (repeat (refine And.intro (by first|assumption|omega|(simp; omega)|(simp_all; done)) ?_))
 have hTT:=fun id=>TypeAt_ok s.types f.of id (by omega)
 have hTB:=fun id=>ThingAt_ok s (kindOf s.types f.of) n id (by omega)
 have hHI:=fun id=>hasId_ok c.ids n id (by omega)
 have hW:=fun id=>withCell_ok s j k c.n c.text (.sl [.int .i64 n]) (by simp) rfl t ht c hc id (by omega) (by omega)
 unfold eSta at hW
 have hjl:=(List.getElem?_eq_some_iff.1 ht).1
 subst hj
 refine goc_false (by simp) ?_
 simp
 have hkl:=(List.getElem?_eq_some_iff.1 hff).1
 have hcl:=(List.getElem?_eq_some_iff.1 hc).1
 subst hk
 refine goc_false (by simp; omega) ?_
 simp[hff,hc,eFd,eCl,eTg_eq t,ht]
 (repeat (refine And.intro (by first|assumption|omega|(simp; omega)|(simp_all; done)) ?_))
 refine goc_false (by simp; omega) ?_
 simp
 (refine w_call hP rfl (hTT _) (by simp) (by simp<;>rfl) ?_; refine w_go 4000 ?_; simp)
 (refine w_call hP rfl (hTB _) (by simp[kindOf_eq]) (by simp[kindOf_eq]<;>rfl) ?_; refine w_go 4000 ?_; simp[kindOf_eq])
 refine goc_false (by simp; omega) ?_
 simp
 (refine w_call hP rfl (hHI _) (by simp) (by simp<;>rfl) ?_; refine w_go 4000 ?_; simp)
 refine goc_false (by simp[hh]) ?_
 simp
 refine goc_true (by simp; omega) ?_
 simp
 (repeat (refine And.intro (by first|assumption|omega|(simp; omega)|(simp_all; done)) ?_))
 refine w_loop (X:=Nat) (fun m=>⟨[(2,true,.ptr E.n0 0 0),(3,true,.ptr (E.n0+1) 0 0),(4,true,.ptr (E.n0+2) 0 0),(7,true,.int .i64 j),(12,true,.ptr (E.n0+3) 0 0),(13,true,.bsl (E.n0+4) 0 1),(14,true,.int .i64 0)],
  [(E.n0,some ⟨[.agg [.sl (s.types.map eTy),.sl (s.things.map eTg)]],.agg [.sl (s.types.map eTy),.sl (s.things.map eTg)],false,false⟩),(E.n0+1,some ⟨[.agg [.int .i64 5,.int .i64 q,.int .i64 i,.int .i64 k,.int .i64 n,.str tx]],.agg [.int .i64 5,.int .i64 q,.int .i64 i,.int .i64 k,.int .i64 n,.str tx],false,false⟩),(E.n0+2,some ⟨[.agg [.nils,.nils]],.agg [.nils,.nils],false,false⟩),(E.n0+3,some ⟨[.agg [.int .i64 c.n,.str c.text,.nils]],.agg [.int .i64 0,.str [],.nils],false,false⟩),(E.n0+4,some ⟨[.int .i64 n],.int .i64 0,false,false⟩)],5⟩) (fun m=>True) (fun m=>0) 0 ?_ trivial ?_
 ·have hw0:IntKind.i64.wrap 0=0:=rfl
  have hrn:rnOk [(E.n0,E.n0),(E.n0+1,E.n0+1024),(E.n0+2,E.n0+2048),(E.n0+3,E.n0+82944),(E.n0+4,E.n0+154624)]:=by simp[hw0]
  refine Conv.sub [(E.n0,E.n0),(E.n0+1,E.n0+1024),(E.n0+2,E.n0+2048),(E.n0+3,E.n0+82944),(E.n0+4,E.n0+154624)] hrn ?_ ?_ ?_ ?_ ?_<;>(try simp[hw0])
 ·rintro m _ p hp
  have hwm:IntKind.i64.wrap (-1) = -1:=by decide
  refine w_go 4000 ?_
  simp[hwm]
  (refine w_callR hP rfl (hW _) (by simp<;>rfl) (by simp) (by simp<;>rfl) (by simp) ?_; refine w_go 4000 ?_; simp)
  have hpI:AV.pureB (.sl [.int .i64 n])=true:=rfl
  have hp1:pureL ((s.things.map eTg).set j (.agg [.int .i64 t.type,.int .i64 t.id,.sl ((t.cells.map eCl).set k (.agg [.int .i64 c.n,.str c.text,.sl [.int .i64 n]]))]))=true:=pureL_set (by have:=pureL_set (x:=.agg [.int .i64 c.n,.str c.text,.sl [.int .i64 n]]) (by simp[hpI]) k (pure_cls t.cells); simp[this]) j (pure_tgs _)
  rw[hR]; exact rt_end (by simp<;>rfl) [] trivial (end_pure (by simp) (by simp[hp1]) (by simp))
end Go.Am
