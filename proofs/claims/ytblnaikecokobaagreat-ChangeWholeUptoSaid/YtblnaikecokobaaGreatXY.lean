/- Parts of the proof: an abstract machine for Go functions, and what functions of the program give back (Un1, Ss1, Ss2, Sb1, Su1). No condition. -/
import Derived.Test.YtblnaikecokobaaGreatXV
import Derived.Test.YtblnaikecokobaaGreatXW
import Derived.Test.YtblnaikecokobaaGreatXX
import Derived.Test.YtblnaikecokobaaGreatCcB
import Derived.Test.YtblnaikecokobaaGreatXD
namespace Go.Am
set_option linter.all false
open Go Go.RowKit Go.Proofs
set_option maxRecDepth 100000
set_option linter.all false
def ev0:Ev:=⟨0,0,0,0,0,[]⟩
def befX(s:Sta)(e:Ev):Ev:=if befE s e=0 then befV s e else ev0
theorem Before_ok(s:Sta)(e:Ev)(id:Nat)(h:Rt s)(he:rawE s e=0):FnOk Tryz.prog 73 [eSta s,eEv e] [] id (.tup [eEv (befX s e),.int .i64 (befE s e)]) []:=by
 have ho:=evOk h he
 have h12:=h.r.len
 have hev:∀k:Int,e.kind=k→eEv e=eEv ⟨k,e.type,e.id,e.field,e.n,e.text⟩:=fun k hk=>by unfold eEv; rw[←hk]
 have hz:e.kind≠2→befE s e=0:=fun hk=>by unfold befE; rw[if_neg hk]
 by_cases k1:e.kind=1
 ·have hb:=hz (by omega)
  have hx:befX s e=⟨2,e.type,e.id,e.field,0,[]⟩:=by unfold befX; rw[if_pos hb]; unfold befV; rw[if_pos k1]
  rw[hx,hb,hev 1 k1]
  exact Before_1 s e.type e.id e.field e.n e.text id (by omega)
 by_cases k2:e.kind=2
 ·obtain⟨t,ht,e1,e2⟩:=h.srt.thereAt ⟨ho.ty0,ho.ty2⟩ ⟨ho.id1,ho.id2⟩ (there_of ho k1)
  have ht':s.things[rawI s e]?=some t:=ht
  have h6:=(h.r.tg t (List.mem_of_getElem? ht)).cells6 h.r.sch
  have:=Before_2 s e.type e.id e.field e.n e.text id (by omega) t ht (by omega)
  rw[hev 2 k2]
  have hb:befE s e=if firstB t.cells=true then 0 else 4:=by unfold befE; rw[if_pos k2,ht']
  have hx:eEv (befX s e)=if firstB t.cells=true then eEv ⟨1,e.type,e.id,e.field,0,[]⟩ else eEv ⟨0,0,0,0,0,[]⟩:=by
   unfold befX
   rw[hb]
   by_cases hf:firstB t.cells=true
   ·rw[if_pos hf,if_pos hf,if_pos rfl]; unfold befV; rw[if_neg k1,if_pos k2]
   ·rw[if_neg hf,if_neg hf,if_neg (by omega)]; rfl
  rw[hx,hb]
  exact this
 have hk3:3≤e.kind:=by have:=ho.k1; omega
 obtain⟨t,f,c,hh⟩:=chOk h ho hk3
 have hclo:clOf s e=some c:=by unfold clOf; rw[hh.tt]; exact hh.cc
 have hfdo:fdOf s e=some f:=by unfold fdOf; rw[if_neg (by have:=hh.f0; omega)]; exact hh.ff
 have hb:=hz (by omega)
 have f0:=hh.f0
 have hfd:e.field=(e.field.toNat:Int):=by omega
 have ty0:=ho.ty0
 have htd:e.type=(e.type.toNat:Int):=by omega
 have hX:befX s e=if e.kind=3 then ⟨3,e.type,e.id,e.field,c.n,[]⟩ else if e.kind=4 then ⟨4,e.type,e.id,e.field,0,c.text⟩
   else if e.kind=5 then (if f.kind=3∧c.ids≠[] then ⟨5,e.type,e.id,e.field,c.ids.headD 0,[]⟩ else ⟨6,e.type,e.id,e.field,e.n,[]⟩)
   else ⟨5,e.type,e.id,e.field,e.n,[]⟩:=by
  unfold befX
  rw[if_pos hb]
  unfold befV
  rw[if_neg k1,if_neg k2,hclo,hfdo]
 rw[hb]
 by_cases k3:e.kind=3
 ·rw[if_pos k3] at hX
  rw[hX,hev 3 k3]
  exact Before_3 s e.type e.id e.field e.n e.text id (by omega) t hh.tt e.field.toNat hfd c hh.cc
 rw[if_neg k3] at hX
 by_cases k4:e.kind=4
 ·rw[if_pos k4] at hX
  rw[hX,hev 4 k4]
  exact Before_4 s e.type e.id e.field e.n e.text id (by omega) t hh.tt e.field.toNat hfd c hh.cc
 rw[if_neg k4] at hX
 by_cases k5:e.kind=5
 ·rw[if_pos k5] at hX
  have hty:e.type.toNat<s.types.length:=ho.ty1
  obtain⟨y,hy⟩:∃y,s.types[e.type.toNat]?=some y:=⟨_,List.getElem?_eq_getElem hty⟩
  have hfl:fldsAt s.types e.type=y.fields:=by simp[fldsAt,hy]
  have hff:=hh.ff
  rw[hfl] at hff
  have:=Before_5 s e.type e.id e.field e.n e.text id (by omega) t hh.tt e.field.toNat hfd c hh.cc e.type.toNat htd y hy f hff
  have hx:eEv (befX s e)=if f.kind=3∧c.ids≠[] then eEv ⟨5,e.type,e.id,e.field,c.ids.headD 0,[]⟩ else eEv ⟨6,e.type,e.id,e.field,e.n,[]⟩:=by rw[hX]; split<;>rfl
  rw[hx,hev 5 k5]
  exact this
 ·rw[if_neg k5] at hX
  have k6:e.kind=6:=by have:=ho.k2; omega
  rw[hX,hev 6 k6]
  exact Before_6 s e.type e.id e.field e.n e.text id (by omega)
def doA(s:Sta)(e:Ev):AV:=if fDoE s e=0 then .sl ((rawS s e).types.map eTy) else .nils
def doB(s:Sta)(e:Ev):AV:=if fDoE s e=0 then .sl ((rawS s e).things.map eTg) else .nils
theorem one_doA(s:Sta)(e:Ev):AV.one (doA s e)=true:=by unfold doA; split<;>rfl
theorem one_doB(s:Sta)(e:Ev):AV.one (doB s e)=true:=by unfold doB; split<;>rfl
theorem DoG_ok(s:Sta)(e:Ev)(id:Nat):FnOk Tryz.prog 44 [eSta s,eEv e] [] id (.tup [.agg [doA s e,doB s e],.int .i64 (fDoE s e)]) []:=by
 have:=Do_ok s e id
 have hx:doAV s e = .agg [doA s e,doB s e]:=by
  unfold doAV doA doB
  by_cases h:fDoE s e=0
  ·rw[if_pos h,if_pos h,if_pos h]; rfl
  ·rw[if_neg h,if_neg h,if_neg h]; rfl
 rw[hx] at this
 exact this
theorem fDoE_zero{s:Sta}{e:Ev}(h:fDoE s e=0):fSt s=0∧rawE s e=0:=by
 unfold fDoE at h
 split at h
 ·rename_i h1; exact (h1 h).elim
 ·rename_i h1; exact⟨Classical.byContradiction h1,h⟩
theorem fDoE_of{s:Sta}{e:Ev}(h:fSt s=0):fDoE s e=rawE s e:=by unfold fDoE; rw[if_neg (by simpa using h)]
def undE(s:Sta)(e:Ev):Int:=if fDoE s e≠0 then fDoE s e else befE s e
def undX(s:Sta)(e:Ev):Ev:=if fDoE s e≠0 then ev0 else befX s e
theorem Undo_ok(s:Sta)(e:Ev)(id:Nat)(hI:IdsI s):FnOk Tryz.prog 45 [eSta s,eEv e] [] id (.tup [eEv (undX s e),.int .i64 (undE s e)]) []:=by
 have hD:=DoG_ok s e
 have hB:=fun h id=>Before_ok s e id (rt_of (fDoE_zero h).1 hI) (fDoE_zero h).2
 by_cases h:fDoE s e=0
 ·have hB:=hB h
  have e1:undE s e=befE s e:=by unfold undE; rw[if_neg (by simpa using h)]
  have e2:undX s e=befX s e:=by unfold undX; rw[if_neg (by simpa using h)]
  rw[e1,e2]
  unfold eSta eEv at *
  refine fn_okc Tryz.func45 hcc45 (by decide) hcr45 (by simp[Tryz.ntmps45]) fun E hP hR hl hid=>?_
  simp only[cr45] at hR
  refine w_go 4000 ?_
  simp[cc45]
  (refine w_call hP rfl (hD _) (by simp) (by simp<;>rfl) ?_; refine w_go 4000 ?_; simp)
  refine⟨⟨one_doA _ _,one_doB _ _⟩,?_⟩
  refine goc_false (by simpa using h) ?_
  simp
  (refine w_call hP rfl (hB _) (by simp) (by simp<;>rfl) ?_; refine w_go 4000 ?_; simp)
  rw[hR]; exact rt_end (by simp<;>rfl) [] trivial (end_pure (by simp) (by simp) (by simp))
 ·have e1:undE s e=fDoE s e:=by unfold undE; rw[if_pos h]
  have e2:undX s e=ev0:=by unfold undX; rw[if_pos h]
  rw[e1,e2]
  unfold eSta eEv ev0 at *
  refine fn_okc Tryz.func45 hcc45 (by decide) hcr45 (by simp[Tryz.ntmps45]) fun E hP hR hl hid=>?_
  simp only[cr45] at hR
  refine w_go 4000 ?_
  simp[cc45]
  (refine w_call hP rfl (hD _) (by simp) (by simp<;>rfl) ?_; refine w_go 4000 ?_; simp)
  refine⟨⟨one_doA _ _,one_doB _ _⟩,?_⟩
  refine goc_true (by simpa using h) ?_
  simp
  rw[hR]; exact rt_end (by simp<;>rfl) [] trivial (end_pure (by simp) (by simp) (by simp))
end Go.Am
namespace Go.Am
set_option linter.all false
open Go Go.RowKit Go.Proofs
set_option maxRecDepth 100000
set_option linter.all false
deriving instance DecidableEq for Fd
deriving instance DecidableEq for Ty
deriving instance DecidableEq for Cl
deriving instance DecidableEq for Tg
deriving instance DecidableEq for Sta
theorem take_eq_succ{α:Type}{l m:List α}{i:Nat}{x:α}(h:l.take i=m.take i)(h1:l[i]?=some x)(h2:m[i]?=some x):l.take (i+1)=m.take (i+1):=by rw[List.take_succ,List.take_succ,h,h1,h2]
theorem take_eq_all{α:Type}{l m:List α}{i:Nat}(hl:l.length=m.length)(h:l.take i=m.take i)(hi:l.length≤i):l=m:=by
 rw[List.take_of_length_le hi,List.take_of_length_le (by omega)] at h
 exact h
theorem ne_at{α:Type}{l m:List α}{i:Nat}{x y:α}(h1:l[i]?=some x)(h2:m[i]?=some y)(hn:x≠y):l≠m:=fun e=>by
 subst e
 rw[h1] at h2
 injection h2 with h2
 exact hn h2
set_option maxHeartbeats 1000000 in
theorem SameTypes_ok(a b:List Ty)(id:Nat)(ha:a.length≤1000000)(hb:∀t∈a,t.fields.length≤1000000):FnOk Tryz.prog 40 [.sl (a.map eTy),.sl (b.map eTy)] [] id (.bool (decide (a=b))) []:=by
 refine fn_okc Tryz.func40 hcc40 (by decide) hcr40 (by simp[Tryz.ntmps40]) fun E hP hR hl hid=>?_
 simp only[cr40] at hR
 refine w_go 4000 ?_
 simp[cc40]
 refine goc (fun h=>?_) (fun h=>?_)<;>simp
 ·have hn:a≠b:=fun e=>by subst e; simp at h
  rw[hR]; exact rt_end (by simp<;>rfl) [] trivial (end_pure (by simp; simp[hn]) (by simp) (by simp))
 have hl:a.length=b.length:=by simp at h; omega
 refine w_loop (X:=Nat) (fun i=>⟨[(0,true,.sl (a.map eTy)),(1,true,.sl (b.map eTy)),(5,true,.int .i64 i)],[],0⟩) (fun i=>i≤a.length∧a.take i=b.take i) (fun i=>a.length - i) 0 ?_ ⟨by omega,by simp⟩ ?_
 ·have hrn:rnOk []:=by simp
  refine Conv.sub [] hrn ?_ ?_ ?_ ?_ ?_<;>(try simp)
 ·rintro i ⟨hi,hf⟩ p hp
  refine w_go 4000 ?_
  simp
  refine goc (fun h=>?_) (fun h=>?_)
  ·have h:=of_decide_eq_true h
   have hi2:i<b.length:=by omega
   obtain⟨x,hx⟩:∃x,a[i]?=some x:=⟨_,List.getElem?_eq_getElem h⟩
   obtain⟨y,hy⟩:∃y,b[i]?=some y:=⟨_,List.getElem?_eq_getElem hi2⟩
   have hxb:=hb x (List.mem_of_getElem? hx)
   have hi1:IntKind.i64.wrap ((i:Int)+1)=((i+1:Nat):Int):=wrap64 (by omega)
   simp[hx,hy,eTy]
   (repeat (refine And.intro (by first|assumption|omega|(simp; omega)|(simp_all; done)) ?_))
   refine goc (fun g=>?_) (fun g=>?_)<;>simp
   ·have hn:a≠b:=ne_at hx hy fun e=>by subst e; simp at g
    rw[hR]; exact rt_end (by simp<;>rfl) [] trivial (end_pure (by simp; simp[hn]) (by simp) (by simp))
   have hn1:x.name=y.name:=by simp at g; exact g.1
   have hl1:x.fields.length=y.fields.length:=by simp at g; omega
   refine w_loop (X:=Nat) (fun k=>⟨[(0,true,.sl (a.map eTy)),(1,true,.sl (b.map eTy)),(5,true,.int .i64 i),(6,true,.int .i64 k)],[],0⟩) (fun k=>k≤x.fields.length∧x.fields.take k=y.fields.take k) (fun k=>x.fields.length - k) 0 ?_ ⟨by omega,by simp⟩ ?_
   ·have hrn:rnOk []:=by simp
    refine Conv.sub [] hrn ?_ ?_ ?_ ?_ ?_<;>(try simp)
   ·rintro k ⟨hk,hg⟩ p2 hp2
    refine w_go 4000 ?_
    simp[hx,eTy]
    (repeat (refine And.intro (by first|assumption|omega|(simp; omega)|(simp_all; done)) ?_))
    refine goc (fun g1=>?_) (fun g1=>?_)
    ·have g1:=of_decide_eq_true g1
     have hk2:k<y.fields.length:=by omega
     obtain⟨f,hfx⟩:∃f,x.fields[k]?=some f:=⟨_,List.getElem?_eq_getElem g1⟩
     obtain⟨g',hgy⟩:∃g',y.fields[k]?=some g':=⟨_,List.getElem?_eq_getElem hk2⟩
     have hk1:IntKind.i64.wrap ((k:Int)+1)=((k+1:Nat):Int):=wrap64 (by omega)
     simp[hx,hy,hfx,hgy,eTy,eFd,eqAll,eqOne]
     (repeat (refine And.intro (by first|assumption|omega|(simp; omega)|(simp_all; done)) ?_))
     refine goc (fun g2=>?_) (fun g2=>?_)<;>simp
     ·have hn:a≠b:=ne_at hx hy fun e=>by
       subst e
       rw[hfx] at hgy
       injection hgy with hgy
       subst hgy
       simp at g2
      rw[hR]; exact rt_end (by simp<;>rfl) [] trivial (end_pure (by simp; simp[hn]) (by simp) (by simp))
     ·have hfg:f=g':=by
       obtain⟨f1,f2,f3⟩:=f
       obtain⟨g3,g4,g5⟩:=g'
       simp at g2
       simp[g2]
      subst hfg
      refine hp2 _ (k+1) ⟨by omega,take_eq_succ hg hfx hgy⟩ (by omega) ?_
      have hrn:rnOk []:=by simp[hk1]
      refine Conv.sub [] hrn ?_ ?_ ?_ ?_ ?_<;>(try simp[hk1])
    ·have g1:=of_decide_eq_false g1
     simp
     have hfe:x.fields=y.fields:=take_eq_all hl1 hg (by omega)
     have hxy:x=y:=by
      obtain⟨x1,x2⟩:=x
      obtain⟨y1,y2⟩:=y
      simp at hn1 hfe
      simp[hn1,hfe]
     subst hxy
     refine hp _ (i+1) ⟨by omega,take_eq_succ hf hx hy⟩ (by omega) ?_
     have hrn:rnOk []:=by simp[hi1]
     refine Conv.sub [] hrn ?_ ?_ ?_ ?_ ?_<;>(try simp[hi1])
  ·have h:=of_decide_eq_false h
   simp
   have hab:a=b:=take_eq_all hl hf (by omega)
   rw[hR]; exact rt_end (by simp<;>rfl) [] trivial (end_pure (by simp; simp[hab]) (by simp) (by simp))
end Go.Am
namespace Go.Am
set_option linter.all false
open Go Go.RowKit Go.Proofs
set_option maxRecDepth 100000
set_option linter.all false
set_option maxHeartbeats 4000000 in
theorem SameStateG(ta tb:AV)(r:Bool)(hta:ta.pureB=true)(htb:tb.pureB=true)(hT:∀id,FnOk Tryz.prog 40 [ta,tb] [] id (.bool r) [])(a b:List Tg)(id:Nat)(h12:a.length≤1000000)
  (hc:∀t∈a,t.cells.length≤1000000∧∀c∈t.cells,c.ids.length≤1000000) :
  FnOk Tryz.prog 16 [.agg [ta,.sl (a.map eTg)],.agg [tb,.sl (b.map eTg)]] [] id (.bool (r&&decide (a=b))) []:=by
 have hra:∀R S,RenR R S ta ta:=fun R S=>renR_pure rfl hta
 have hna:∀S,namesIn S ta:=fun S=>namesIn_pure _ hta
 have hrb:∀R S,RenR R S tb tb:=fun R S=>renR_pure rfl htb
 have hnb:∀S,namesIn S tb:=fun S=>namesIn_pure _ htb
 refine fn_okc Tryz.func16 hcc16 (by decide) hcr16 (by simp[Tryz.ntmps16]) fun E hP hR hl hid=>?_
 simp only[cr16] at hR
 refine w_go 4000 ?_
 simp[cc16]
 (refine w_call hP rfl (hT _) (by simp) (by simp<;>rfl) ?_; refine w_go 4000 ?_; simp)
 refine goc (fun h=>?_) (fun h=>?_)<;>simp
 ·have hn:(r&&decide (a=b))=false:=by
   simp at h
   cases r with
   | false=>rfl
   | true =>
    simp
    intro e
    subst e
    simp at h
  rw[hn] at hR
  rw[hR]; exact rt_end (by simp<;>rfl) [] trivial (end_pure (by simp) (by simp) (by simp))
 obtain⟨rfl,hl⟩:r=true∧a.length=b.length:=by simp at h; exact⟨h.1,by omega⟩
 simp only[Bool.true_and] at hR
 refine w_loop (X:=Nat) (fun i=>⟨[(2,true,.ptr E.n0 0 0),(3,true,.ptr (E.n0+1) 0 0),(5,true,.int .i64 i)],[(E.n0,some ⟨[.agg [ta,.sl (a.map eTg)]],.agg [ta,.sl (a.map eTg)],false,false⟩),(E.n0+1,some ⟨[.agg [tb,.sl (b.map eTg)]],.agg [tb,.sl (b.map eTg)],false,false⟩)],2⟩) (fun i=>i≤a.length∧a.take i=b.take i) (fun i=>a.length - i) 0 ?_ ⟨by omega,by simp⟩ ?_
 ·have hrn:rnOk [(E.n0,E.n0),(E.n0+1,E.n0+1024)]:=by simp[hra,hna,hrb,hnb]
  refine Conv.sub [(E.n0,E.n0),(E.n0+1,E.n0+1024)] hrn ?_ ?_ ?_ ?_ ?_<;>(try simp[hra,hna,hrb,hnb])
 ·rintro i ⟨hi,hf⟩ p hp
  refine w_go 4000 ?_
  simp
  refine goc (fun h=>?_) (fun h=>?_)
  ·have h:=of_decide_eq_true h
   have hi2:i<b.length:=by omega
   obtain⟨x,hx⟩:∃x,a[i]?=some x:=⟨_,List.getElem?_eq_getElem h⟩
   obtain⟨y,hy⟩:∃y,b[i]?=some y:=⟨_,List.getElem?_eq_getElem hi2⟩
   obtain⟨hxc,hxi⟩:=hc x (List.mem_of_getElem? hx)
   have hi1:IntKind.i64.wrap ((i:Int)+1)=((i+1:Nat):Int):=wrap64 (by omega)
   simp[hx,hy,eTg]
   (repeat (refine And.intro (by first|assumption|omega|(simp; omega)|(simp_all; done)) ?_))
   refine goc (fun g=>?_) (fun g=>?_)<;>simp
   ·have hn:a≠b:=ne_at hx hy fun e=>by subst e; simp at g
    rw[hR]; exact rt_end (by simp<;>rfl) [] trivial (end_pure (by simp; simp[hn]) (by simp) (by simp))
   have hn1:x.type=y.type∧x.id=y.id:=by simp at g; exact g.1
   have hl1:x.cells.length=y.cells.length:=by simp at g; omega
   refine w_loop (X:=Nat) (fun k=>⟨[(2,true,.ptr E.n0 0 0),(3,true,.ptr (E.n0+1) 0 0),(5,true,.int .i64 i),(6,true,.ptr (E.n0+2) 0 0),(7,true,.ptr (E.n0+3) 0 0),(8,true,.int .i64 k)],[(E.n0,some ⟨[.agg [ta,.sl (a.map eTg)]],.agg [ta,.sl (a.map eTg)],false,false⟩),(E.n0+1,some ⟨[.agg [tb,.sl (b.map eTg)]],.agg [tb,.sl (b.map eTg)],false,false⟩),(E.n0+2,some ⟨[.agg [.int .i64 x.type,.int .i64 x.id,.sl (x.cells.map eCl)]],.agg [.int .i64 0,.int .i64 0,.nils],false,false⟩),(E.n0+3,some ⟨[.agg [.int .i64 y.type,.int .i64 y.id,.sl (y.cells.map eCl)]],.agg [.int .i64 0,.int .i64 0,.nils],false,false⟩)],4⟩) (fun k=>k≤x.cells.length∧x.cells.take k=y.cells.take k) (fun k=>x.cells.length - k) 0 ?_ ⟨by omega,by simp⟩ ?_
   ·have hrn:rnOk [(E.n0,E.n0),(E.n0+1,E.n0+1),(E.n0+2,E.n0+15362),(E.n0+3,E.n0+16386)]:=by simp[hra,hna,hrb,hnb]
    refine Conv.sub [(E.n0,E.n0),(E.n0+1,E.n0+1),(E.n0+2,E.n0+15362),(E.n0+3,E.n0+16386)] hrn ?_ ?_ ?_ ?_ ?_<;>(try simp[hra,hna,hrb,hnb])
   ·rintro k ⟨hk,hg⟩ p2 hp2
    refine w_go 4000 ?_
    simp
    refine goc (fun g1=>?_) (fun g1=>?_)
    ·have g1:=of_decide_eq_true g1
     have hk2:k<y.cells.length:=by omega
     obtain⟨c,hcx⟩:∃c,x.cells[k]?=some c:=⟨_,List.getElem?_eq_getElem g1⟩
     obtain⟨d,hdy⟩:∃d,y.cells[k]?=some d:=⟨_,List.getElem?_eq_getElem hk2⟩
     have hci:=hxi c (List.mem_of_getElem? hcx)
     have hk1:IntKind.i64.wrap ((k:Int)+1)=((k+1:Nat):Int):=wrap64 (by omega)
     simp[hcx,hdy,eCl]
     (repeat (refine And.intro (by first|assumption|omega|(simp; omega)|(simp_all; done)) ?_))
     refine goc (fun g2=>?_) (fun g2=>?_)<;>simp
     ·have hn:a≠b:=ne_at hx hy fun e=>by
       subst e
       rw[hcx] at hdy
       injection hdy with hdy
       subst hdy
       simp at g2
      rw[hR]; exact rt_end (by simp<;>rfl) [] trivial (end_pure (by simp; simp[hn]) (by simp) (by simp))
     have hn2:c.n=d.n∧c.text=d.text:=by simp at g2; exact g2.1
     have hl2:c.ids.length=d.ids.length:=by simp at g2; omega
     refine w_loop (X:=Nat) (fun m=>⟨[(2,true,.ptr E.n0 0 0),(3,true,.ptr (E.n0+1) 0 0),(5,true,.int .i64 i),(6,true,.ptr (E.n0+2) 0 0),(7,true,.ptr (E.n0+3) 0 0),(8,true,.int .i64 k),(9,true,.int .i64 m)],[(E.n0,some ⟨[.agg [ta,.sl (a.map eTg)]],.agg [ta,.sl (a.map eTg)],false,false⟩),(E.n0+1,some ⟨[.agg [tb,.sl (b.map eTg)]],.agg [tb,.sl (b.map eTg)],false,false⟩),(E.n0+2,some ⟨[.agg [.int .i64 x.type,.int .i64 x.id,.sl (x.cells.map eCl)]],.agg [.int .i64 0,.int .i64 0,.nils],false,false⟩),(E.n0+3,some ⟨[.agg [.int .i64 y.type,.int .i64 y.id,.sl (y.cells.map eCl)]],.agg [.int .i64 0,.int .i64 0,.nils],false,false⟩)],4⟩) (fun m=>m≤c.ids.length∧c.ids.take m=d.ids.take m) (fun m=>c.ids.length - m) 0 ?_ ⟨by omega,by simp⟩ ?_
     ·have hrn:rnOk [(E.n0,E.n0),(E.n0+1,E.n0+1),(E.n0+2,E.n0+2),(E.n0+3,E.n0+3)]:=by simp[hra,hna,hrb,hnb]
      refine Conv.sub [(E.n0,E.n0),(E.n0+1,E.n0+1),(E.n0+2,E.n0+2),(E.n0+3,E.n0+3)] hrn ?_ ?_ ?_ ?_ ?_<;>(try simp[hra,hna,hrb,hnb])
     ·rintro m ⟨hm,ha⟩ p3 hp3
      refine w_go 4000 ?_
      simp[hcx,eCl]
      (repeat (refine And.intro (by first|assumption|omega|(simp; omega)|(simp_all; done)) ?_))
      refine goc (fun g3=>?_) (fun g3=>?_)
      ·have g3:=of_decide_eq_true g3
       have hm2:m<d.ids.length:=by omega
       obtain⟨u,hux⟩:∃u,c.ids[m]?=some u:=⟨_,List.getElem?_eq_getElem g3⟩
       obtain⟨v,hvy⟩:∃v,d.ids[m]?=some v:=⟨_,List.getElem?_eq_getElem hm2⟩
       have hm1:IntKind.i64.wrap ((m:Int)+1)=((m+1:Nat):Int):=wrap64 (by omega)
       simp[hcx,hdy,hux,hvy,eCl,eI]
       (repeat (refine And.intro (by first|assumption|omega|(simp; omega)|(simp_all; done)) ?_))
       refine goc (fun g4=>?_) (fun g4=>?_)<;>simp
       ·have hn:a≠b:=ne_at hx hy fun e=>by
         subst e
         rw[hcx] at hdy
         injection hdy with hdy
         subst hdy
         rw[hux] at hvy
         injection hvy with hvy
         subst hvy
         simp at g4
        rw[hR]; exact rt_end (by simp<;>rfl) [] trivial (end_pure (by simp; simp[hn]) (by simp) (by simp))
       ·have huv:u=v:=by simpa using g4
        subst huv
        refine hp3 _ (m+1) ⟨by omega,take_eq_succ ha hux hvy⟩ (by omega) ?_
        have hrn:rnOk [(E.n0,E.n0),(E.n0+1,E.n0+1),(E.n0+2,E.n0+2),(E.n0+3,E.n0+3)]:=by simp[hra,hna,hrb,hnb,hm1]
        refine Conv.sub [(E.n0,E.n0),(E.n0+1,E.n0+1),(E.n0+2,E.n0+2),(E.n0+3,E.n0+3)] hrn ?_ ?_ ?_ ?_ ?_<;>(try simp[hra,hna,hrb,hnb,hm1])
      ·have g3:=of_decide_eq_false g3
       simp
       have hcd:c=d:=by
        have hie:c.ids=d.ids:=take_eq_all hl2 ha (by omega)
        obtain⟨c1,c2,c3⟩:=c
        obtain⟨d1,d2,d3⟩:=d
        simp at hn2 hie
        simp[hn2,hie]
       subst hcd
       refine hp2 _ (k+1) ⟨by omega,take_eq_succ hg hcx hdy⟩ (by omega) ?_
       have hrn:rnOk [(E.n0,E.n0),(E.n0+1,E.n0+1),(E.n0+2,E.n0+2),(E.n0+3,E.n0+3)]:=by simp[hra,hna,hrb,hnb,hk1]
       refine Conv.sub [(E.n0,E.n0),(E.n0+1,E.n0+1),(E.n0+2,E.n0+2),(E.n0+3,E.n0+3)] hrn ?_ ?_ ?_ ?_ ?_<;>(try simp[hra,hna,hrb,hnb,hk1])
    ·have g1:=of_decide_eq_false g1
     simp
     have hxy:x=y:=by
      have hie:x.cells=y.cells:=take_eq_all hl1 hg (by omega)
      obtain⟨c1,c2,c3⟩:=x
      obtain⟨d1,d2,d3⟩:=y
      simp at hn1 hie
      simp[hn1,hie]
     subst hxy
     refine hp _ (i+1) ⟨by omega,take_eq_succ hf hx hy⟩ (by omega) ?_
     have hrn:rnOk [(E.n0,E.n0),(E.n0+1,E.n0+1)]:=by simp[hra,hna,hrb,hnb,hi1]
     refine Conv.sub [(E.n0,E.n0),(E.n0+1,E.n0+1)] hrn ?_ ?_ ?_ ?_ ?_<;>(try simp[hra,hna,hrb,hnb,hi1])
  ·have h:=of_decide_eq_false h
   simp
   have hab:a=b:=take_eq_all hl hf (by omega)
   rw[hR]; exact rt_end (by simp<;>rfl) [] trivial (end_pure (by simp; simp[hab]) (by simp) (by simp))
theorem SameState_ok(a b:Sta)(id:Nat)(h1:a.types.length≤1000000)(h2:∀t∈a.types,t.fields.length≤1000000)(h12:a.things.length≤1000000)
  (hc:∀t∈a.things,t.cells.length≤1000000∧∀c∈t.cells,c.ids.length≤1000000):FnOk Tryz.prog 16 [eSta a,eSta b] [] id (.bool (decide (a=b))) []:=by
 have:=SameStateG (.sl (a.types.map eTy)) (.sl (b.types.map eTy)) (decide (a.types=b.types)) (by simp) (by simp) (fun id=>SameTypes_ok a.types b.types id h1 h2) a.things b.things id h12 hc
 have he:(decide (a.types=b.types)&&decide (a.things=b.things))=decide (a=b):=by
  obtain⟨a1,a2⟩:=a
  obtain⟨b1,b2⟩:=b
  simp
 rw[he] at this
 exact this
end Go.Am
namespace Go.Am
set_option linter.all false
open Go Go.RowKit Go.Proofs
set_option maxRecDepth 100000
set_option linter.all false
def tyW:List Ty:=[⟨[65],[⟨[110],1,[]⟩,⟨[116],2,[]⟩,⟨[98],3,[66]⟩,⟨[108],4,[65]⟩]⟩,⟨[66],[⟨[109],1,[]⟩]⟩]
theorem types_ok(id:Nat):FnOk Tryz.prog 36 [] [] id (.sl (tyW.map eTy)) []:=by
 unfold tyW
 simp only[List.map_cons,List.map_nil,eTy,eFd]
 refine fn_okc Tryz.func36 hcc36 (by decide) hcr36 (by simp[Tryz.ntmps36]) fun E hP hR hl hid=>?_
 simp only[cr36] at hR
 refine w_go 4000 ?_
 simp[cc36]
 have hrn:rnOk []:=by simp[idO hid]
 rw[hR]
 refine rt_endR (by simp<;>rfl) (by simp[idO hid]<;>exact⟨rfl,rfl⟩) [] hrn ⟨?_,?_,?_,?_,?_,?_⟩<;>(try simp[idO hid])
 exact namesL_pure _ rfl
def stW:Sta:=⟨tyW,[⟨0,3,[⟨5,[],[]⟩,⟨0,[120],[]⟩,⟨0,[],[1]⟩,⟨0,[],[3,4]⟩]⟩,⟨0,4,[cl0,cl0,cl0,cl0]⟩,⟨1,1,[⟨-1,[],[]⟩]⟩]⟩
set_option maxHeartbeats 2000000 in
theorem world_raw(id:Nat):FnOk Tryz.prog 33 [] [] id (.agg [.sl (tyW.map eTy),.sl [.agg [.int .i64 0,.int .i64 3,.sl [.agg [.int .i64 5,.str [],.nils],.agg [.int .i64 0,.str [120],.nils],.agg [.int .i64 0,.str [],.sl [.int .i64 1]],.agg [.int .i64 0,.str [],.sl [.int .i64 3,.int .i64 4]]]],
  .agg [.int .i64 0,.int .i64 4,.sl [.agg [.int .i64 0,.str [],.nils],.agg [.int .i64 0,.str [],.nils],.agg [.int .i64 0,.str [],.nils],.agg [.int .i64 0,.str [],.nils]]],.agg [.int .i64 1,.int .i64 1,.sl [.agg [.int .i64 (-1),.str [],.nils]]]]]) []:=by
 refine fn_okc Tryz.func33 hcc33 (by decide) hcr33 (by simp[Tryz.ntmps33]) fun E hP hR hl hid=>?_
 simp only[cr33] at hR
 refine w_go 4000 ?_
 simp[cc33]
 (refine w_call hP rfl (types_ok _) (by simp) (by simp<;>rfl) ?_; refine w_go 4000 ?_; simp)
 have hrn:rnOk []:=by simp[idO hid]
 rw[hR]
 refine rt_endR (by simp<;>rfl) (by simp[idO hid]<;>exact⟨rfl,rfl⟩) [] hrn ⟨?_,?_,?_,?_,?_,?_⟩<;>(try simp[idO hid])
 exact namesL_pure _ rfl
theorem world_ok(id:Nat):FnOk Tryz.prog 33 [] [] id (eSta stW) []:=(world_raw id).nrm
def e1W:Ev:=⟨6,0,3,3,4,[]⟩
def e2W:Ev:=⟨2,0,4,0,0,[]⟩
def e3W:Ev:=⟨3,0,3,0,9,[]⟩
def stAW:Sta:=⟨tyW,[⟨0,3,[⟨5,[],[]⟩,⟨0,[120],[]⟩,⟨0,[],[1]⟩,⟨0,[],[3]⟩]⟩,⟨0,4,[cl0,cl0,cl0,cl0]⟩,⟨1,1,[⟨-1,[],[]⟩]⟩]⟩
def stBW:Sta:=⟨tyW,[⟨0,3,[⟨5,[],[]⟩,⟨0,[120],[]⟩,⟨0,[],[1]⟩,⟨0,[],[3]⟩]⟩,⟨1,1,[⟨-1,[],[]⟩]⟩]⟩
theorem w0(x:Int)(h : -9223372036854775808≤x∧x≤9223372036854775807):IntKind.i64.wrap x=x:=wrap64 h
theorem chk_w:fCheckT tyW=0:=by decide
theorem st_w:fSt stW=0:=by
 have:=chk_w
 unfold tyW at this
 simp[fSt,stW,this,firstIx,fTh1,fThing,fldsAt,tyW,cellAt,fCell,cl0,isLink,mostI,ascB,fOrdAt,ordI,w0,eachB,cellsB,isThere,kindOf,findJ,fFindB,fFindI,bs]
theorem st_a:fSt stAW=0:=by
 have:=chk_w
 unfold tyW at this
 simp[fSt,stAW,this,firstIx,fTh1,fThing,fldsAt,tyW,cellAt,fCell,cl0,isLink,mostI,ascB,fOrdAt,ordI,w0,eachB,cellsB,isThere,kindOf,findJ,fFindB,fFindI,bs]
theorem raw_w1:rawE stW e1W=0:=by simp[e1W,cl0,tyW,rawE,rawE0,fForm,doE,rawB,rawI,fFindB,fFindI,bs,fOrdAt,ordI,stW,w0,chE,fdOf,clOf,fldsAt,kindFits,isLink,chgE,iFindB,iFind,fLt]
theorem raw_w1s:rawS stW e1W=stAW:=by simp[e1W,stAW,tyW,rawS,rawI,fFindI,bs,fOrdAt,ordI,stW,w0,fdOf,clOf,fldsAt,chgC,cutL,iFind,fLt,setC]
theorem raw_w2:rawE stW e2W=4:=by simp[e2W,cl0,tyW,rawE,rawE0,fForm,doE,rawB,rawI,fFindB,fFindI,bs,fOrdAt,ordI,stW,w0,fldsAt,isLink,eachB,cellsB,meantB,kindOf,findJ,hasI]
theorem raw_w3:rawE stAW e2W=0:=by simp[e2W,cl0,tyW,rawE,rawE0,fForm,doE,rawB,rawI,fFindB,fFindI,bs,fOrdAt,ordI,stAW,w0,fldsAt,isLink,eachB,cellsB,meantB,kindOf,findJ,hasI]
theorem raw_w3s:rawS stAW e2W=stBW:=by simp[e2W,stAW,stBW,cl0,tyW,rawS,rawI,fFindI,bs,fOrdAt,ordI,w0]
theorem raw_w4:rawE stW e3W=0:=by simp[e3W,cl0,tyW,rawE,rawE0,fForm,doE,rawB,rawI,fFindB,fFindI,bs,fOrdAt,ordI,stW,w0,chE,fdOf,clOf,fldsAt,kindFits,isLink,chgE,iFindB,iFind,fLt]
theorem bef_w4:befX stW e3W=⟨3,0,3,0,5,[]⟩:=by simp[befX,befE,befV,e3W,rawI,fFindI,bs,fOrdAt,ordI,stW,w0,fdOf,clOf,fldsAt,tyW]
theorem do_w1(id:Nat):FnOk Tryz.prog 44 [eSta stW,eEv e1W] [] id (.tup [eSta stAW,.int .i64 0]) []:=by
 have:=Do_done stW e1W id st_w raw_w1
 rw[raw_w1s] at this
 exact this
theorem do_w2(id:Nat):FnOk Tryz.prog 44 [eSta stW,eEv e2W] [] id (.tup [eS0,.int .i64 4]) []:=by
 have:=Do_err stW e2W id st_w (by rw[raw_w2]; decide)
 rw[raw_w2] at this
 exact this
theorem do_w3(id:Nat):FnOk Tryz.prog 44 [eSta stAW,eEv e2W] [] id (.tup [eSta stBW,.int .i64 0]) []:=by
 have:=Do_done stAW e2W id st_a raw_w3
 rw[raw_w3s] at this
 exact this
theorem undo_w(id:Nat):FnOk Tryz.prog 45 [eSta stW,eEv e3W] [] id (.tup [eEv ⟨3,0,3,0,5,[]⟩,.int .i64 0]) []:=by
 have h0:fDoE stW e3W=0:=by rw[fDoE_of st_w,raw_w4]
 have:=Undo_ok stW e3W id (by unfold IdsI I64 stW cl0; simp)
 have h1:undX stW e3W=⟨3,0,3,0,5,[]⟩:=by unfold undX; rw[if_neg (by simpa using h0),bef_w4]
 have h2:undE stW e3W=0:=by unfold undE; rw[if_neg (by simpa using h0)]; rfl
 rw[h1,h2] at this
 exact this
set_option maxHeartbeats 4000000 in
theorem stateBegun_ok(id:Nat):FnOk Tryz.prog 18 [] [] id (.bool true) []:=by
 have hw:=fun id=>world_ok id
 have h1:=fun id=>do_w1 id
 have h2:=fun id=>do_w2 id
 have h3:=fun id=>do_w3 id
 have h4:=fun id=>undo_w id
 have h5:=fun id=>stCheck_ok stW id
 rw[st_w] at h5
 simp only[eSta,eEv,e1W,e2W,e3W,eS0] at *
 refine fn_okc Tryz.func18 hcc18 (by decide) hcr18 (by simp[Tryz.ntmps18]) fun E hP hR hl hid=>?_
 simp only[cr18] at hR
 refine w_go 4000 ?_
 simp[cc18]
 (refine w_call hP rfl (hw _) (by simp) (by simp<;>rfl) ?_; refine w_go 4000 ?_; simp)
 (refine w_call hP rfl (h1 _) (by simp) (by simp<;>rfl) ?_; refine w_go 4000 ?_; simp)
 (refine w_call hP rfl (hw _) (by simp) (by simp<;>rfl) ?_; refine w_go 4000 ?_; simp)
 (refine w_call hP rfl (h2 _) (by simp) (by simp<;>rfl) ?_; refine w_go 4000 ?_; simp)
 (refine w_call hP rfl (h3 _) (by simp) (by simp<;>rfl) ?_; refine w_go 4000 ?_; simp)
 (refine w_call hP rfl (hw _) (by simp) (by simp<;>rfl) ?_; refine w_go 4000 ?_; simp)
 (refine w_call hP rfl (h4 _) (by simp) (by simp<;>rfl) ?_; refine w_go 4000 ?_; simp)
 (refine w_call hP rfl (hw _) (by simp) (by simp<;>rfl) ?_; refine w_go 4000 ?_; simp)
 (refine w_call hP rfl (h5 _) (by simp[stAW,stBW,eTg,eCl,eqAll,eqOne]) (by simp[stAW,stBW,eTg,eCl,eqAll,eqOne]<;>rfl) ?_; refine w_go 4000 ?_; simp[stAW,stBW,eTg,eCl,eqAll,eqOne])
 rw[hR]; exact rt_end (by simp<;>rfl) [] trivial (end_pure (by simp) (by simp) (by simp))
end Go.Am
namespace Go.Am
set_option linter.all false
open Go Go.RowKit Go.Proofs
set_option maxRecDepth 100000
set_option linter.all false
theorem Rt.sz{s:Sta}(h:Rt s):s.types.length≤1000000∧(∀t∈s.types,t.fields.length≤1000000)∧s.things.length≤1000000∧∀t∈s.things,t.cells.length≤1000000∧∀c∈t.cells,c.ids.length≤1000000:=by
 refine⟨by have:=h.r.sch.len; omega,fun t ht=>by have:=h.r.sch.fields t ht; omega,by have:=h.r.len; omega,fun t ht=>⟨by have:=(h.r.tg t ht).cells6 h.r.sch; omega,fun c hc=>?_⟩⟩
 obtain⟨k,hk⟩:=List.mem_iff_getElem?.1 hc
 obtain⟨f,_,hco⟩:=(h.r.tg t ht).cellOk hk
 have:=hco.i1; omega
theorem Same_self{s:Sta}(h:Rt s)(id:Nat):FnOk Tryz.prog 16 [eSta s,eSta s] [] id (.bool true) []:=by
 obtain⟨a,b,c,d⟩:=h.sz
 have:=SameState_ok s s id a b c d
 simpa using this
end Go.Am
