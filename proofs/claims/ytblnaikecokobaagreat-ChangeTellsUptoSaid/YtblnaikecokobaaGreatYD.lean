/- The verifier's answer for an event: a number, a text. No condition. -/
import Derived.Test.YtblnaikecokobaaGreatYC
namespace Go.Am
set_option linter.all false
open Go Go.RowKit Go.Proofs
set_option maxRecDepth 100000
set_option linter.all false
set_option maxHeartbeats 2000000 in
theorem DoOf_3r(s:Sta)(q:Nat)(i fd n:Int)(tx:List UInt8)(id:Nat)(ty:Ty)(hty:s.types[q]?=some ty)(hf:fForm ⟨3,q,i,fd,n,tx⟩=0)(hi:1≤i∧i≤999)(h12:s.things.length≤1000)(a:Int)(hta:tgAt s.things q i=a)(j:Nat)(hj:a=j)(t:Tg)(ht:s.things[j]?=some t)(hc8:t.cells.length≤1000)(k:Nat)(hk:fd=k)(f:Fd)(hff:ty.fields[k]?=some f)(c:Cl)(hc:t.cells[k]?=some c)(hkf:f.kind=1)(hn:¬(-999999999≤n∧n≤999999999)):FnOk Tryz.prog 32 [eSta s,eEv ⟨3,q,i,fd,n,tx⟩] [] id (.tup [eS0,.int .i64 3]) []:=by
 have hwq:¬((s.types.length:Int)≤(q:Int)):=by have:=(List.getElem?_eq_some_iff.1 hty).1; omega
 have hq:=(List.getElem?_eq_some_iff.1 hty).1
 have hCE:=fun id=>rCheckEvent_ok ⟨3,q,i,fd,n,tx⟩ id
 rw[hf] at hCE
 have hTA:=fun id=>ThingAt_ok s q i id (by omega)
 rw[hta] at hTA
 unfold eSta eEv at *
 refine fn_okc Tryz.func32 hcc32 (by decide) hcr32 (by simp[Tryz.ntmps32]) fun E hP hR hl hid=>?_
 simp only[cr32] at hR
 refine w_go 4000 ?_
 simp[cc32]
 (refine w_call hP rfl (hCE _) (by simp) (by simp<;>rfl) ?_; refine w_go 4000 ?_; simp)
 refine goc_false (by simp; omega) ?_
 simp
 (refine w_callg hP (by simp) rfl (fun hc=>⟨between_ok _ _ _ _,by revert hc; simp; try grind,by simp⟩) ?_; refine w_go 4000 ?_; simp)
 refine goc_false (by simp; omega) ?_
 simp
 (refine w_call hP rfl (hTA _) (by simp[hty,eTy]) (by simp[hty,eTy]<;>rfl) ?_; refine w_go 4000 ?_; simp[hty,eTy])
 (repeat (refine And.intro (by first|assumption|omega|(simp; omega)|(simp_all; done)) ?_))
 have hjl:=(List.getElem?_eq_some_iff.1 ht).1
 subst hj
 refine goc_false (by simp) ?_
 simp
 have hkl:=(List.getElem?_eq_some_iff.1 hff).1
 have hcl:=(List.getElem?_eq_some_iff.1 hc).1
 subst hk
 refine goc_false (by simp; omega) ?_
 simp[hff,hc,eFd,eCl,eTg_eq t,ht]
 (repeat (refine And.intro (by first|assumption|omega|(simp; omega)|(simp_all; done)) ?_))
 unfold eS0 at hR
 refine goc_false (by simp; omega) ?_
 simp
 (refine w_call hP rfl (rIsInt_ok _ _) (by simp) (by simp<;>rfl) ?_; refine w_go 4000 ?_; simp)
 refine goc_true (by simp; omega) ?_
 simp
 rw[hR]; exact rt_end (by simp<;>rfl) [] trivial (end_pure (by simp) (by simp) (by simp))
set_option maxHeartbeats 2000000 in
theorem DoOf_3d(s:Sta)(q:Nat)(i fd n:Int)(tx:List UInt8)(id:Nat)(ty:Ty)(hty:s.types[q]?=some ty)(hf:fForm ⟨3,q,i,fd,n,tx⟩=0)(hi:1≤i∧i≤999)(h12:s.things.length≤1000)(a:Int)(hta:tgAt s.things q i=a)(j:Nat)(hj:a=j)(t:Tg)(ht:s.things[j]?=some t)(hc8:t.cells.length≤1000)(k:Nat)(hk:fd=k)(f:Fd)(hff:ty.fields[k]?=some f)(c:Cl)(hc:t.cells[k]?=some c)(hkf:f.kind=1)(hn : -999999999≤n∧n≤999999999):FnOk Tryz.prog 32 [eSta s,eEv ⟨3,q,i,fd,n,tx⟩] [] id (.tup [.agg [.sl (s.types.map eTy),.sl ((s.things.map eTg).set j (.agg [.int .i64 t.type,.int .i64 t.id,.sl ((t.cells.map eCl).set k (.agg [.int .i64 n,.str c.text,(.sl (c.ids.map eI))]))]))],.int .i64 0]) []:=by
 have hwq:¬((s.types.length:Int)≤(q:Int)):=by have:=(List.getElem?_eq_some_iff.1 hty).1; omega
 have hq:=(List.getElem?_eq_some_iff.1 hty).1
 have hCE:=fun id=>rCheckEvent_ok ⟨3,q,i,fd,n,tx⟩ id
 rw[hf] at hCE
 have hTA:=fun id=>ThingAt_ok s q i id (by omega)
 rw[hta] at hTA
 unfold eSta eEv at *
 refine fn_okc Tryz.func32 hcc32 (by decide) hcr32 (by simp[Tryz.ntmps32]) fun E hP hR hl hid=>?_
 simp only[cr32] at hR
 refine w_go 4000 ?_
 simp[cc32]
 (refine w_call hP rfl (hCE _) (by simp) (by simp<;>rfl) ?_; refine w_go 4000 ?_; simp)
 refine goc_false (by simp; omega) ?_
 simp
 (refine w_callg hP (by simp) rfl (fun hc=>⟨between_ok _ _ _ _,by revert hc; simp; try grind,by simp⟩) ?_; refine w_go 4000 ?_; simp)
 refine goc_false (by simp; omega) ?_
 simp
 (refine w_call hP rfl (hTA _) (by simp[hty,eTy]) (by simp[hty,eTy]<;>rfl) ?_; refine w_go 4000 ?_; simp[hty,eTy])
 (repeat (refine And.intro (by first|assumption|omega|(simp; omega)|(simp_all; done)) ?_))
 have hW:=fun id=>withCell_ok s j k n c.text (.sl (c.ids.map eI)) (by simp) rfl t ht c hc id (by omega) (by omega)
 have hjl:=(List.getElem?_eq_some_iff.1 ht).1
 subst hj
 refine goc_false (by simp) ?_
 simp
 have hkl:=(List.getElem?_eq_some_iff.1 hff).1
 have hcl:=(List.getElem?_eq_some_iff.1 hc).1
 subst hk
 refine goc_false (by simp; omega) ?_
 simp[hff,hc,eFd,eCl,eTg_eq t,ht]
 (repeat (refine And.intro (by first|assumption|omega|(simp; omega)|(simp_all; done)) ?_))
 refine goc_false (by simp; omega) ?_
 simp
 (refine w_call hP rfl (rIsInt_ok _ _) (by simp) (by simp<;>rfl) ?_; refine w_go 4000 ?_; simp)
 refine goc_false (by simp; omega) ?_
 simp
 (refine w_call hP rfl (hW _) (by simp) (by simp<;>rfl) ?_; refine w_go 4000 ?_; simp)
 have hp1:pureL ((s.things.map eTg).set j (.agg [.int .i64 t.type,.int .i64 t.id,.sl ((t.cells.map eCl).set k (.agg [.int .i64 n,.str c.text,.sl (c.ids.map eI)]))]))=true:=pureL_set (by have:=pureL_set (x:=.agg [.int .i64 n,.str c.text,.sl (c.ids.map eI)]) (by simp) k (pure_cls t.cells); simp[this]) j (pure_tgs _)
 rw[hR]; exact rt_end (by simp<;>rfl) [] trivial (end_pure (by simp) (by simp[hp1]) (by simp))
set_option maxHeartbeats 2000000 in
theorem DoOf_4m(s:Sta)(q:Nat)(i fd n:Int)(tx:List UInt8)(id:Nat)(ty:Ty)(hty:s.types[q]?=some ty)(hf:fForm ⟨4,q,i,fd,n,tx⟩=0)(hi:1≤i∧i≤999)(h12:s.things.length≤1000)(a:Int)(hta:tgAt s.things q i=a)(j:Nat)(hj:a=j)(t:Tg)(ht:s.things[j]?=some t)(hc8:t.cells.length≤1000)(k:Nat)(hk:fd=k)(f:Fd)(hff:ty.fields[k]?=some f)(c:Cl)(hc:t.cells[k]?=some c)(hkf:f.kind=2)(hn:40<tx.length):FnOk Tryz.prog 32 [eSta s,eEv ⟨4,q,i,fd,n,tx⟩] [] id (.tup [eS0,.int .i64 2]) []:=by
 have hwq:¬((s.types.length:Int)≤(q:Int)):=by have:=(List.getElem?_eq_some_iff.1 hty).1; omega
 have hq:=(List.getElem?_eq_some_iff.1 hty).1
 have hCE:=fun id=>rCheckEvent_ok ⟨4,q,i,fd,n,tx⟩ id
 rw[hf] at hCE
 have hTA:=fun id=>ThingAt_ok s q i id (by omega)
 rw[hta] at hTA
 unfold eSta eEv at *
 refine fn_okc Tryz.func32 hcc32 (by decide) hcr32 (by simp[Tryz.ntmps32]) fun E hP hR hl hid=>?_
 simp only[cr32] at hR
 refine w_go 4000 ?_
 simp[cc32]
 (refine w_call hP rfl (hCE _) (by simp) (by simp<;>rfl) ?_; refine w_go 4000 ?_; simp)
 refine goc_false (by simp; omega) ?_
 simp
 (refine w_callg hP (by simp) rfl (fun hc=>⟨between_ok _ _ _ _,by revert hc; simp; try grind,by simp⟩) ?_; refine w_go 4000 ?_; simp)
 refine goc_false (by simp; omega) ?_
 simp
 (refine w_call hP rfl (hTA _) (by simp[hty,eTy]) (by simp[hty,eTy]<;>rfl) ?_; refine w_go 4000 ?_; simp[hty,eTy])
 (repeat (refine And.intro (by first|assumption|omega|(simp; omega)|(simp_all; done)) ?_))
 have hjl:=(List.getElem?_eq_some_iff.1 ht).1
 subst hj
 refine goc_false (by simp) ?_
 simp
 have hkl:=(List.getElem?_eq_some_iff.1 hff).1
 have hcl:=(List.getElem?_eq_some_iff.1 hc).1
 subst hk
 refine goc_false (by simp; omega) ?_
 simp[hff,hc,eFd,eCl,eTg_eq t,ht]
 (repeat (refine And.intro (by first|assumption|omega|(simp; omega)|(simp_all; done)) ?_))
 unfold eS0 at hR
 refine goc_false (by simp; omega) ?_
 simp
 refine goc_true (by simp; omega) ?_
 simp
 rw[hR]; exact rt_end (by simp<;>rfl) [] trivial (end_pure (by simp) (by simp) (by simp))
set_option maxHeartbeats 2000000 in
theorem DoOf_4d(s:Sta)(q:Nat)(i fd n:Int)(tx:List UInt8)(id:Nat)(ty:Ty)(hty:s.types[q]?=some ty)(hf:fForm ⟨4,q,i,fd,n,tx⟩=0)(hi:1≤i∧i≤999)(h12:s.things.length≤1000)(a:Int)(hta:tgAt s.things q i=a)(j:Nat)(hj:a=j)(t:Tg)(ht:s.things[j]?=some t)(hc8:t.cells.length≤1000)(k:Nat)(hk:fd=k)(f:Fd)(hff:ty.fields[k]?=some f)(c:Cl)(hc:t.cells[k]?=some c)(hkf:f.kind=2)(hn:¬40<tx.length):FnOk Tryz.prog 32 [eSta s,eEv ⟨4,q,i,fd,n,tx⟩] [] id (.tup [.agg [.sl (s.types.map eTy),.sl ((s.things.map eTg).set j (.agg [.int .i64 t.type,.int .i64 t.id,.sl ((t.cells.map eCl).set k (.agg [.int .i64 c.n,.str tx,(.sl (c.ids.map eI))]))]))],.int .i64 0]) []:=by
 have hwq:¬((s.types.length:Int)≤(q:Int)):=by have:=(List.getElem?_eq_some_iff.1 hty).1; omega
 have hq:=(List.getElem?_eq_some_iff.1 hty).1
 have hCE:=fun id=>rCheckEvent_ok ⟨4,q,i,fd,n,tx⟩ id
 rw[hf] at hCE
 have hTA:=fun id=>ThingAt_ok s q i id (by omega)
 rw[hta] at hTA
 unfold eSta eEv at *
 refine fn_okc Tryz.func32 hcc32 (by decide) hcr32 (by simp[Tryz.ntmps32]) fun E hP hR hl hid=>?_
 simp only[cr32] at hR
 refine w_go 4000 ?_
 simp[cc32]
 (refine w_call hP rfl (hCE _) (by simp) (by simp<;>rfl) ?_; refine w_go 4000 ?_; simp)
 refine goc_false (by simp; omega) ?_
 simp
 (refine w_callg hP (by simp) rfl (fun hc=>⟨between_ok _ _ _ _,by revert hc; simp; try grind,by simp⟩) ?_; refine w_go 4000 ?_; simp)
 refine goc_false (by simp; omega) ?_
 simp
 (refine w_call hP rfl (hTA _) (by simp[hty,eTy]) (by simp[hty,eTy]<;>rfl) ?_; refine w_go 4000 ?_; simp[hty,eTy])
 (repeat (refine And.intro (by first|assumption|omega|(simp; omega)|(simp_all; done)) ?_))
 have hW:=fun id=>withCell_ok s j k c.n tx (.sl (c.ids.map eI)) (by simp) rfl t ht c hc id (by omega) (by omega)
 have hjl:=(List.getElem?_eq_some_iff.1 ht).1
 subst hj
 refine goc_false (by simp) ?_
 simp
 have hkl:=(List.getElem?_eq_some_iff.1 hff).1
 have hcl:=(List.getElem?_eq_some_iff.1 hc).1
 subst hk
 refine goc_false (by simp; omega) ?_
 simp[hff,hc,eFd,eCl,eTg_eq t,ht]
 (repeat (refine And.intro (by first|assumption|omega|(simp; omega)|(simp_all; done)) ?_))
 refine goc_false (by simp; omega) ?_
 simp
 refine goc_false (by simp; omega) ?_
 simp
 (refine w_call hP rfl (hW _) (by simp) (by simp<;>rfl) ?_; refine w_go 4000 ?_; simp)
 have hp1:pureL ((s.things.map eTg).set j (.agg [.int .i64 t.type,.int .i64 t.id,.sl ((t.cells.map eCl).set k (.agg [.int .i64 c.n,.str tx,.sl (c.ids.map eI)]))]))=true:=pureL_set (by have:=pureL_set (x:=.agg [.int .i64 c.n,.str tx,.sl (c.ids.map eI)]) (by simp) k (pure_cls t.cells); simp[this]) j (pure_tgs _)
 rw[hR]; exact rt_end (by simp<;>rfl) [] trivial (end_pure (by simp) (by simp[hp1]) (by simp))
end Go.Am
