/- Parts of the proof: an abstract machine for Go functions, and what functions of the program give back (Bf1, Bf2). No condition. -/
import Derived.Test.YtblnaikecokobaaGreatXJ
import Derived.Test.YtblnaikecokobaaGreatCcB
import Derived.Test.YtblnaikecokobaaGreatXQ
namespace Go.Am
set_option linter.all false
open Go Go.RowKit Go.Proofs
set_option maxRecDepth 100000
set_option linter.all false
def notFirst(c:Cl):Bool:=(!decide (c.n=0)||!decide (c.text=[]))||!decide (c.ids=[])
def firstB(l:List Cl):Bool:=!l.any notFirst
theorem first1_ok(c:Cl)(id:Nat):FnOk Tryz.prog 115 [eCl c] [] id (.bool (notFirst c)) []:=by
 unfold eCl
 refine fn_okc Tryz.func115 hcc115 (by decide) hcr115 (by simp[Tryz.ntmps115]) fun E hP hR hl hid=>?_
 simp only[cr115] at hR
 refine w_go 4000 ?_
 simp[cc115]
 have hl:decide (0<(c.ids.length:Int))=!decide (c.ids=[]):=by cases c.ids<;>simp<;>omega
 rw[hR]; exact rt_end (by simp<;>rfl) [] trivial (end_pure (by simp; unfold notFirst; cases h1:decide (c.n=0)<;>cases h2:decide (c.text=[])<;>simp_all) (by simp) (by simp))
set_option maxHeartbeats 1000000 in
theorem IndexFirst_ok(l:List Cl)(id:Nat)(hl8:l.length<9223372036854775807):FnOk Tryz.prog 124 [.sl (l.map eCl),.fn 115 []] [] id (.int .i64 (findJ (fun x=>notFirst x) l 0)) []:=by
 refine fn_okc Tryz.func124 hcc124 (by decide) hcr124 (by simp[Tryz.ntmps124]) fun E hP hR hl hid=>?_
 simp only[cr124] at hR
 refine w_go 4000 ?_
 simp[cc124]
 refine w_loop (X:=Nat) (fun i=>⟨[(0,true,.sl (l.map eCl)),(1,true,.fn 115 []),(7,true,.int .i64 l.length),(8,true,.int .i64 i)],[],0⟩) (fun i=>i≤l.length∧findJ (fun x=>notFirst x) (l.drop i) i=findJ (fun x=>notFirst x) l 0) (fun i=>l.length - i) 0 ?_ ⟨by omega,rfl⟩ ?_
 ·have hrn:rnOk []:=by simp
  refine Conv.sub [] hrn ?_ ?_ ?_ ?_ ?_<;>(try simp)
 ·rintro i ⟨hi,hf⟩ p hp
  refine w_go 4000 ?_
  simp
  refine goc (fun h=>?_) (fun h=>?_)
  ·have h:=of_decide_eq_true h
   obtain⟨x,hx,hd⟩:=drop_cons h
   have hcl:=first1_ok x
   simp only[eCl] at hcl
   rw[hd] at hf
   simp only[findJ] at hf
   have hi1:IntKind.i64.wrap ((i:Int)+1)=((i+1:Nat):Int):=wrap64 (by omega)
   simp[hx,eCl]
   refine⟨h,?_⟩
   refine w_callv hP rfl rfl (hcl _) (by simp) (by simp<;>rfl) ?_
   refine w_go 4000 ?_
   simp
   refine goc (fun h1=>?_) (fun h1=>?_)
   ·simp
    rw[if_pos h1] at hf
    rw[hR]; exact rt_end (by simp<;>rfl) [] trivial (end_pure (by simp; exact hf) (by simp) (by simp))
   ·simp
    rw[if_neg (by simpa using h1)] at hf
    refine hp _ (i+1) ⟨h,hf⟩ (by omega) ?_
    have hrn:rnOk []:=by simp[hi1]
    refine Conv.sub [] hrn ?_ ?_ ?_ ?_ ?_<;>(try simp[hi1])
  ·have h:=of_decide_eq_false h
   simp
   rw[List.drop_of_length_le (by omega)] at hf
   rw[hR]; exact rt_end (by simp<;>rfl) [] trivial (end_pure (by simp; exact hf) (by simp) (by simp))
theorem ContFirst_ok(l:List Cl)(id:Nat)(hl8:l.length<9223372036854775807):FnOk Tryz.prog 114 [.sl (l.map eCl),.fn 115 []] [] id (.bool (l.any notFirst)) []:=by
 refine fn_okc Tryz.func114 hcc114 (by decide) hcr114 (by simp[Tryz.ntmps114]) fun E hP hR hl hid=>?_
 simp only[cr114] at hR
 refine w_go 4000 ?_
 simp[cc114]
 (refine w_call hP rfl (IndexFirst_ok l _ hl8) (by simp) (by simp<;>rfl) ?_; refine w_go 4000 ?_; simp)
 rw[hR]; exact rt_end (by simp<;>rfl) [] trivial (end_pure (by simp; rw[←findJ_any (fun x=>notFirst x) l 0]) (by simp) (by simp))
theorem first_ok(l:List Cl)(id:Nat)(hl8:l.length<9223372036854775807):FnOk Tryz.prog 96 [.sl (l.map eCl)] [] id (.bool (firstB l)) []:=by
 refine fn_okc Tryz.func96 hcc96 (by decide) hcr96 (by simp[Tryz.ntmps96]) fun E hP hR hl hid=>?_
 simp only[cr96] at hR
 refine w_go 4000 ?_
 simp[cc96]
 (refine w_call hP rfl (ContFirst_ok l _ hl8) (by simp) (by simp<;>rfl) ?_; refine w_go 4000 ?_; simp)
 rw[hR]; exact rt_end (by simp<;>rfl) [] trivial (end_pure (by simp; simp[firstB]) (by simp) (by simp))
end Go.Am
namespace Go.Am
set_option linter.all false
open Go Go.RowKit Go.Proofs
set_option maxRecDepth 100000
set_option linter.all false
set_option maxHeartbeats 1000000 in
theorem Before_1(s:Sta)(ty i fd n:Int)(tx:List UInt8)(id:Nat)(h12:s.things.length≤1000): FnOk Tryz.prog 73 [eSta s,eEv ⟨1,ty,i,fd,n,tx⟩] [] id (.tup [eEv ⟨2,ty,i,fd,0,[]⟩,.int .i64 0]) []:=by
 have hF:=fun id=>stFind_ok s ty i id (by omega)
 unfold eSta eEv at *
 refine fn_okc Tryz.func73 hcc73 (by decide) hcr73 (by simp[Tryz.ntmps73]) fun E hP hR hl hid=>?_
 simp only[cr73] at hR
 refine w_go 4000 ?_
 simp[cc73]
 (refine w_call hP rfl (hF _) (by simp) (by simp<;>rfl) ?_; refine w_go 4000 ?_; simp)
 rw[hR]; exact rt_end (by simp<;>rfl) [] trivial (end_pure (by simp) (by simp) (by simp))
set_option maxHeartbeats 1000000 in
theorem Before_6(s:Sta)(ty i fd n:Int)(tx:List UInt8)(id:Nat)(h12:s.things.length≤1000): FnOk Tryz.prog 73 [eSta s,eEv ⟨6,ty,i,fd,n,tx⟩] [] id (.tup [eEv ⟨5,ty,i,fd,n,[]⟩,.int .i64 0]) []:=by
 have hF:=fun id=>stFind_ok s ty i id (by omega)
 unfold eSta eEv at *
 refine fn_okc Tryz.func73 hcc73 (by decide) hcr73 (by simp[Tryz.ntmps73]) fun E hP hR hl hid=>?_
 simp only[cr73] at hR
 refine w_go 4000 ?_
 simp[cc73]
 (refine w_call hP rfl (hF _) (by simp) (by simp<;>rfl) ?_; refine w_go 4000 ?_; simp)
 rw[hR]; exact rt_end (by simp<;>rfl) [] trivial (end_pure (by simp) (by simp) (by simp))
set_option maxHeartbeats 1000000 in
theorem Before_2(s:Sta)(ty i fd n:Int)(tx:List UInt8)(id:Nat)(h12:s.things.length≤1000)(t:Tg)(hx:s.things[fFindI s.things ty i]?=some t)(h6:t.cells.length≤1000):FnOk Tryz.prog 73 [eSta s,eEv ⟨2,ty,i,fd,n,tx⟩] [] id (.tup [if firstB t.cells=true then eEv ⟨1,ty,i,fd,0,[]⟩ else eEv ⟨0,0,0,0,0,[]⟩,.int .i64 (if firstB t.cells=true then 0 else 4)]) []:=by
 have hF:=fun id=>stFind_ok s ty i id (by omega)
 unfold eSta eEv at *
 refine fn_okc Tryz.func73 hcc73 (by decide) hcr73 (by simp[Tryz.ntmps73]) fun E hP hR hl hid=>?_
 simp only[cr73] at hR
 refine w_go 4000 ?_
 simp[cc73]
 (refine w_call hP rfl (hF _) (by simp) (by simp<;>rfl) ?_; refine w_go 4000 ?_; simp)
 have hlt:=(List.getElem?_eq_some_iff.1 hx).1
 simp[hx,eTg]
 (repeat (refine And.intro (by first|assumption|omega|(simp; omega)|(simp_all; done)) ?_))
 (refine w_call hP rfl (first_ok t.cells _ (by omega)) (by simp[hx,eTg]) (by simp[hx,eTg]<;>rfl) ?_; refine w_go 4000 ?_; simp[hx,eTg])
 refine goc (fun h=>?_) (fun h=>?_)<;>simp
 ·have hb:¬(firstB t.cells=true):=by simpa using h
  rw[if_neg hb,if_neg hb] at hR
  rw[hR]; exact rt_end (by simp<;>rfl) [] trivial (end_pure (by simp) (by simp) (by simp))
 ·have hb:firstB t.cells=true:=by simpa using h
  rw[if_pos hb,if_pos hb] at hR
  rw[hR]; exact rt_end (by simp<;>rfl) [] trivial (end_pure (by simp) (by simp) (by simp))
set_option maxHeartbeats 1000000 in
theorem Before_3(s:Sta)(ty i fd n:Int)(tx:List UInt8)(id:Nat)(h12:s.things.length≤1000)(t:Tg)(hx:s.things[fFindI s.things ty i]?=some t)(k:Nat)(hk:fd=k)(c:Cl)(hc:t.cells[k]?=some c):FnOk Tryz.prog 73 [eSta s,eEv ⟨3,ty,i,fd,n,tx⟩] [] id (.tup [eEv ⟨3,ty,i,fd,c.n,[]⟩,.int .i64 0]) []:=by
 have hF:=fun id=>stFind_ok s ty i id (by omega)
 unfold eSta eEv at *
 refine fn_okc Tryz.func73 hcc73 (by decide) hcr73 (by simp[Tryz.ntmps73]) fun E hP hR hl hid=>?_
 simp only[cr73] at hR
 refine w_go 4000 ?_
 simp[cc73]
 (refine w_call hP rfl (hF _) (by simp) (by simp<;>rfl) ?_; refine w_go 4000 ?_; simp)
 have hlt:=(List.getElem?_eq_some_iff.1 hx).1
 have hlc:=(List.getElem?_eq_some_iff.1 hc).1
 subst hk
 simp[hx,eTg,hc,eCl]
 (repeat (refine And.intro (by first|assumption|omega|(simp; omega)|(simp_all; done)) ?_))
 rw[hR]; exact rt_end (by simp<;>rfl) [] trivial (end_pure (by simp) (by simp) (by simp))
set_option maxHeartbeats 1000000 in
theorem Before_4(s:Sta)(ty i fd n:Int)(tx:List UInt8)(id:Nat)(h12:s.things.length≤1000)(t:Tg)(hx:s.things[fFindI s.things ty i]?=some t)(k:Nat)(hk:fd=k)(c:Cl)(hc:t.cells[k]?=some c):FnOk Tryz.prog 73 [eSta s,eEv ⟨4,ty,i,fd,n,tx⟩] [] id (.tup [eEv ⟨4,ty,i,fd,0,c.text⟩,.int .i64 0]) []:=by
 have hF:=fun id=>stFind_ok s ty i id (by omega)
 unfold eSta eEv at *
 refine fn_okc Tryz.func73 hcc73 (by decide) hcr73 (by simp[Tryz.ntmps73]) fun E hP hR hl hid=>?_
 simp only[cr73] at hR
 refine w_go 4000 ?_
 simp[cc73]
 (refine w_call hP rfl (hF _) (by simp) (by simp<;>rfl) ?_; refine w_go 4000 ?_; simp)
 have hlt:=(List.getElem?_eq_some_iff.1 hx).1
 have hlc:=(List.getElem?_eq_some_iff.1 hc).1
 subst hk
 simp[hx,eTg,hc,eCl]
 (repeat (refine And.intro (by first|assumption|omega|(simp; omega)|(simp_all; done)) ?_))
 rw[hR]; exact rt_end (by simp<;>rfl) [] trivial (end_pure (by simp) (by simp) (by simp))
set_option maxHeartbeats 1000000 in
theorem Before_5(s:Sta)(ty i fd n:Int)(tx:List UInt8)(id:Nat)(h12:s.things.length≤1000)(t:Tg)(hx:s.things[fFindI s.things ty i]?=some t)(k:Nat)(hk:fd=k)(c:Cl)(hc:t.cells[k]?=some c)(q:Nat)(hq:ty=q)(y:Ty)(hy:s.types[q]?=some y)(f:Fd)(hf:y.fields[k]?=some f):FnOk Tryz.prog 73 [eSta s,eEv ⟨5,ty,i,fd,n,tx⟩] [] id (.tup [if f.kind=3∧c.ids≠[] then eEv ⟨5,ty,i,fd,c.ids.headD 0,[]⟩ else eEv ⟨6,ty,i,fd,n,[]⟩,.int .i64 0]) []:=by
 have hF:=fun id=>stFind_ok s ty i id (by omega)
 unfold eSta eEv at *
 refine fn_okc Tryz.func73 hcc73 (by decide) hcr73 (by simp[Tryz.ntmps73]) fun E hP hR hl hid=>?_
 simp only[cr73] at hR
 refine w_go 4000 ?_
 simp[cc73]
 (refine w_call hP rfl (hF _) (by simp) (by simp<;>rfl) ?_; refine w_go 4000 ?_; simp)
 have hlt:=(List.getElem?_eq_some_iff.1 hx).1
 have hlc:=(List.getElem?_eq_some_iff.1 hc).1
 have hly:=(List.getElem?_eq_some_iff.1 hy).1
 have hlf:=(List.getElem?_eq_some_iff.1 hf).1
 subst hk hq
 simp[hx,eTg,hc,eCl,hy,hf,eTy,eFd]
 (repeat (refine And.intro (by first|assumption|omega|(simp; omega)|(simp_all; done)) ?_))
 refine goc (fun h=>?_) (fun h=>?_)
 ·have h3:f.kind=3∧c.ids≠[]:=by
   simp at h
   exact⟨h.1,fun e=>by rw[e] at h; simp at h⟩
  obtain⟨m,r,hm⟩:∃m r,c.ids=m::r:=by
   cases hh:c.ids with
   | nil=>exact (h3.2 hh).elim
   | cons m r=>exact⟨m,r,rfl⟩
  rw[if_pos h3] at hR
  rw[hm] at hR
  simp[hm,eI]
  rw[hR]; exact rt_end (by simp<;>rfl) [] trivial (end_pure (by simp) (by simp) (by simp))
 ·have h3:¬(f.kind=3∧c.ids≠[]):=fun⟨a,b⟩=>by
   simp[a] at h
   exact b h
  rw[if_neg h3] at hR
  simp
  rw[hR]; exact rt_end (by simp<;>rfl) [] trivial (end_pure (by simp) (by simp) (by simp))
end Go.Am
