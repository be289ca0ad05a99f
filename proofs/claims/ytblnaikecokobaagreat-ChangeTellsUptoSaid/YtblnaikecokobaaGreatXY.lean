/- Parts of the proof: an abstract machine for Go functions, and what functions of the program give back (Un1, Ss1, Ss2, Sb1, Su1). No condition. -/
import Derived.Test.YtblnaikecokobaaGreatXV
import Derived.Test.YtblnaikecokobaaGreatXW
import Derived.Test.YtblnaikecokobaaGreatXX
import Derived.Test.YtblnaikecokobaaGreatCcB
import Derived.Test.YtblnaikecokobaaGreatXD
namespace Go.Am
set_option linter.all false
open Go Go.RowKit Go.Proofs
set_option maxRecDepth 100000
set_option linter.all false
end Go.Am
namespace Go.Am
set_option linter.all false
open Go Go.RowKit Go.Proofs
set_option maxRecDepth 100000
set_option linter.all false
deriving instance DecidableEq for Fd
deriving instance DecidableEq for Ty
deriving instance DecidableEq for Cl
deriving instance DecidableEq for Tg
deriving instance DecidableEq for Sta
theorem take_eq_succ{α:Type}{l m:List α}{i:Nat}{x:α}(h:l.take i=m.take i)(h1:l[i]?=some x)(h2:m[i]?=some x):l.take (i+1)=m.take (i+1):=by rw[List.take_succ,List.take_succ,h,h1,h2]
theorem take_eq_all{α:Type}{l m:List α}{i:Nat}(hl:l.length=m.length)(h:l.take i=m.take i)(hi:l.length≤i):l=m:=by
 rw[List.take_of_length_le hi,List.take_of_length_le (by omega)] at h
 exact h
theorem ne_at{α:Type}{l m:List α}{i:Nat}{x y:α}(h1:l[i]?=some x)(h2:m[i]?=some y)(hn:x≠y):l≠m:=fun e=>by
 subst e
 rw[h1] at h2
 injection h2 with h2
 exact hn h2
set_option maxHeartbeats 1000000 in
theorem SameTypes_ok(a b:List Ty)(id:Nat)(ha:a.length≤1000000)(hb:∀t∈a,t.fields.length≤1000000):FnOk Tryz.prog 40 [.sl (a.map eTy),.sl (b.map eTy)] [] id (.bool (decide (a=b))) []:=by
 refine fn_okc Tryz.func40 hcc40 (by decide) hcr40 (by simp[Tryz.ntmps40]) fun E hP hR hl hid=>?_
 simp only[cr40] at hR
 refine w_go 4000 ?_
 simp[cc40]
 refine goc (fun h=>?_) (fun h=>?_)<;>simp
 ·have hn:a≠b:=fun e=>by subst e; simp at h
  rw[hR]; exact rt_end (by simp<;>rfl) [] trivial (end_pure (by simp; simp[hn]) (by simp) (by simp))
 have hl:a.length=b.length:=by simp at h; omega
 refine w_loop (X:=Nat) (fun i=>⟨[(0,true,.sl (a.map eTy)),(1,true,.sl (b.map eTy)),(5,true,.int .i64 i)],[],0⟩) (fun i=>i≤a.length∧a.take i=b.take i) (fun i=>a.length - i) 0 ?_ ⟨by omega,by simp⟩ ?_
 ·have hrn:rnOk []:=by simp
  refine Conv.sub [] hrn ?_ ?_ ?_ ?_ ?_<;>(try simp)
 ·rintro i ⟨hi,hf⟩ p hp
  refine w_go 4000 ?_
  simp
  refine goc (fun h=>?_) (fun h=>?_)
  ·have h:=of_decide_eq_true h
   have hi2:i<b.length:=by omega
   obtain⟨x,hx⟩:∃x,a[i]?=some x:=⟨_,List.getElem?_eq_getElem h⟩
   obtain⟨y,hy⟩:∃y,b[i]?=some y:=⟨_,List.getElem?_eq_getElem hi2⟩
   have hxb:=hb x (List.mem_of_getElem? hx)
   have hi1:IntKind.i64.wrap ((i:Int)+1)=((i+1:Nat):Int):=wrap64 (by omega)
   simp[hx,hy,eTy]
   (repeat (refine And.intro (by first|assumption|omega|(simp; omega)|(simp_all; done)) ?_))
   refine goc (fun g=>?_) (fun g=>?_)<;>simp
   ·have hn:a≠b:=ne_at hx hy fun e=>by subst e; simp at g
    rw[hR]; exact rt_end (by simp<;>rfl) [] trivial (end_pure (by simp; simp[hn]) (by simp) (by simp))
   have hn1:x.name=y.name:=by simp at g; exact g.1
   have hl1:x.fields.length=y.fields.length:=by simp at g; omega
   refine w_loop (X:=Nat) (fun k=>⟨[(0,true,.sl (a.map eTy)),(1,true,.sl (b.map eTy)),(5,true,.int .i64 i),(6,true,.int .i64 k)],[],0⟩) (fun k=>k≤x.fields.length∧x.fields.take k=y.fields.take k) (fun k=>x.fields.length - k) 0 ?_ ⟨by omega,by simp⟩ ?_
   ·have hrn:rnOk []:=by simp
    refine Conv.sub [] hrn ?_ ?_ ?_ ?_ ?_<;>(try simp)
   ·rintro k ⟨hk,hg⟩ p2 hp2
    refine w_go 4000 ?_
    simp[hx,eTy]
    (repeat (refine And.intro (by first|assumption|omega|(simp; omega)|(simp_all; done)) ?_))
    refine goc (fun g1=>?_) (fun g1=>?_)
    ·have g1:=of_decide_eq_true g1
     have hk2:k<y.fields.length:=by omega
     obtain⟨f,hfx⟩:∃f,x.fields[k]?=some f:=⟨_,List.getElem?_eq_getElem g1⟩
     obtain⟨g',hgy⟩:∃g',y.fields[k]?=some g':=⟨_,List.getElem?_eq_getElem hk2⟩
     have hk1:IntKind.i64.wrap ((k:Int)+1)=((k+1:Nat):Int):=wrap64 (by omega)
     simp[hx,hy,hfx,hgy,eTy,eFd,eqAll,eqOne]
     (repeat (refine And.intro (by first|assumption|omega|(simp; omega)|(simp_all; done)) ?_))
     refine goc (fun g2=>?_) (fun g2=>?_)<;>simp
     ·have hn:a≠b:=ne_at hx hy fun e=>by
       subst e
       rw[hfx] at hgy
       injection hgy with hgy
       subst hgy
       simp at g2
      rw[hR]; exact rt_end (by simp<;>rfl) [] trivial (end_pure (by simp; simp[hn]) (by simp) (by simp))
     ·have hfg:f=g':=by
       obtain⟨f1,f2,f3⟩:=f
       obtain⟨g3,g4,g5⟩:=g'
       simp at g2
       simp[g2]
      subst hfg
      refine hp2 _ (k+1) ⟨by omega,take_eq_succ hg hfx hgy⟩ (by omega) ?_
      have hrn:rnOk []:=by simp[hk1]
      refine Conv.sub [] hrn ?_ ?_ ?_ ?_ ?_<;>(try simp[hk1])
    ·have g1:=of_decide_eq_false g1
     simp
     have hfe:x.fields=y.fields:=take_eq_all hl1 hg (by omega)
     have hxy:x=y:=by
      obtain⟨x1,x2⟩:=x
      obtain⟨y1,y2⟩:=y
      simp at hn1 hfe
      simp[hn1,hfe]
     subst hxy
     refine hp _ (i+1) ⟨by omega,take_eq_succ hf hx hy⟩ (by omega) ?_
     have hrn:rnOk []:=by simp[hi1]
     refine Conv.sub [] hrn ?_ ?_ ?_ ?_ ?_<;>(try simp[hi1])
  ·have h:=of_decide_eq_false h
   simp
   have hab:a=b:=take_eq_all hl hf (by omega)
   rw[hR]; exact rt_end (by simp<;>rfl) [] trivial (end_pure (by simp; simp[hab]) (by simp) (by simp))
end Go.Am
namespace Go.Am
set_option linter.all false
open Go Go.RowKit Go.Proofs
set_option maxRecDepth 100000
set_option linter.all false
set_option maxHeartbeats 4000000 in
theorem SameStateG(ta tb:AV)(r:Bool)(hta:ta.pureB=true)(htb:tb.pureB=true)(hT:∀id,FnOk Tryz.prog 40 [ta,tb] [] id (.bool r) [])(a b:List Tg)(id:Nat)(h12:a.length≤1000000)
  (hc:∀t∈a,t.cells.length≤1000000∧∀c∈t.cells,c.ids.length≤1000000) :
  FnOk Tryz.prog 16 [.agg [ta,.sl (a.map eTg)],.agg [tb,.sl (b.map eTg)]] [] id (.bool (r&&decide (a=b))) []:=by
 have hra:∀R S,RenR R S ta ta:=fun R S=>renR_pure rfl hta
 have hna:∀S,namesIn S ta:=fun S=>namesIn_pure _ hta
 have hrb:∀R S,RenR R S tb tb:=fun R S=>renR_pure rfl htb
 have hnb:∀S,namesIn S tb:=fun S=>namesIn_pure _ htb
 refine fn_okc Tryz.func16 hcc16 (by decide) hcr16 (by simp[Tryz.ntmps16]) fun E hP hR hl hid=>?_
 simp only[cr16] at hR
 refine w_go 4000 ?_
 simp[cc16]
 (refine w_call hP rfl (hT _) (by simp) (by simp<;>rfl) ?_; refine w_go 4000 ?_; simp)
 refine goc (fun h=>?_) (fun h=>?_)<;>simp
 ·have hn:(r&&decide (a=b))=false:=by
   simp at h
   cases r with
   | false=>rfl
   | true =>
    simp
    intro e
    subst e
    simp at h
  rw[hn] at hR
  rw[hR]; exact rt_end (by simp<;>rfl) [] trivial (end_pure (by simp) (by simp) (by simp))
 obtain⟨rfl,hl⟩:r=true∧a.length=b.length:=by simp at h; exact⟨h.1,by omega⟩
 simp only[Bool.true_and] at hR
 refine w_loop (X:=Nat) (fun i=>⟨[(2,true,.ptr E.n0 0 0),(3,true,.ptr (E.n0+1) 0 0),(5,true,.int .i64 i)],[(E.n0,some ⟨[.agg [ta,.sl (a.map eTg)]],.agg [ta,.sl (a.map eTg)],false,false⟩),(E.n0+1,some ⟨[.agg [tb,.sl (b.map eTg)]],.agg [tb,.sl (b.map eTg)],false,false⟩)],2⟩) (fun i=>i≤a.length∧a.take i=b.take i) (fun i=>a.length - i) 0 ?_ ⟨by omega,by simp⟩ ?_
 ·have hrn:rnOk [(E.n0,E.n0),(E.n0+1,E.n0+1024)]:=by simp[hra,hna,hrb,hnb]
  refine Conv.sub [(E.n0,E.n0),(E.n0+1,E.n0+1024)] hrn ?_ ?_ ?_ ?_ ?_<;>(try simp[hra,hna,hrb,hnb])
 ·rintro i ⟨hi,hf⟩ p hp
  refine w_go 4000 ?_
  simp
  refine goc (fun h=>?_) (fun h=>?_)
  ·have h:=of_decide_eq_true h
   have hi2:i<b.length:=by omega
   obtain⟨x,hx⟩:∃x,a[i]?=some x:=⟨_,List.getElem?_eq_getElem h⟩
   obtain⟨y,hy⟩:∃y,b[i]?=some y:=⟨_,List.getElem?_eq_getElem hi2⟩
   obtain⟨hxc,hxi⟩:=hc x (List.mem_of_getElem? hx)
   have hi1:IntKind.i64.wrap ((i:Int)+1)=((i+1:Nat):Int):=wrap64 (by omega)
   simp[hx,hy,eTg]
   (repeat (refine And.intro (by first|assumption|omega|(simp; omega)|(simp_all; done)) ?_))
   refine goc (fun g=>?_) (fun g=>?_)<;>simp
   ·have hn:a≠b:=ne_at hx hy fun e=>by subst e; simp at g
    rw[hR]; exact rt_end (by simp<;>rfl) [] trivial (end_pure (by simp; simp[hn]) (by simp) (by simp))
   have hn1:x.type=y.type∧x.id=y.id:=by simp at g; exact g.1
   have hl1:x.cells.length=y.cells.length:=by simp at g; omega
   refine w_loop (X:=Nat) (fun k=>⟨[(2,true,.ptr E.n0 0 0),(3,true,.ptr (E.n0+1) 0 0),(5,true,.int .i64 i),(6,true,.ptr (E.n0+2) 0 0),(7,true,.ptr (E.n0+3) 0 0),(8,true,.int .i64 k)],[(E.n0,some ⟨[.agg [ta,.sl (a.map eTg)]],.agg [ta,.sl (a.map eTg)],false,false⟩),(E.n0+1,some ⟨[.agg [tb,.sl (b.map eTg)]],.agg [tb,.sl (b.map eTg)],false,false⟩),(E.n0+2,some ⟨[.agg [.int .i64 x.type,.int .i64 x.id,.sl (x.cells.map eCl)]],.agg [.int .i64 0,.int .i64 0,.nils],false,false⟩),(E.n0+3,some ⟨[.agg [.int .i64 y.type,.int .i64 y.id,.sl (y.cells.map eCl)]],.agg [.int .i64 0,.int .i64 0,.nils],false,false⟩)],4⟩) (fun k=>k≤x.cells.length∧x.cells.take k=y.cells.take k) (fun k=>x.cells.length - k) 0 ?_ ⟨by omega,by simp⟩ ?_
   ·have hrn:rnOk [(E.n0,E.n0),(E.n0+1,E.n0+1),(E.n0+2,E.n0+15362),(E.n0+3,E.n0+16386)]:=by simp[hra,hna,hrb,hnb]
    refine Conv.sub [(E.n0,E.n0),(E.n0+1,E.n0+1),(E.n0+2,E.n0+15362),(E.n0+3,E.n0+16386)] hrn ?_ ?_ ?_ ?_ ?_<;>(try simp[hra,hna,hrb,hnb])
   ·rintro k ⟨hk,hg⟩ p2 hp2
    refine w_go 4000 ?_
    simp
    refine goc (fun g1=>?_) (fun g1=>?_)
    ·have g1:=of_decide_eq_true g1
     have hk2:k<y.cells.length:=by omega
     obtain⟨c,hcx⟩:∃c,x.cells[k]?=some c:=⟨_,List.getElem?_eq_getElem g1⟩
     obtain⟨d,hdy⟩:∃d,y.cells[k]?=some d:=⟨_,List.getElem?_eq_getElem hk2⟩
     have hci:=hxi c (List.mem_of_getElem? hcx)
     have hk1:IntKind.i64.wrap ((k:Int)+1)=((k+1:Nat):Int):=wrap64 (by omega)
     simp[hcx,hdy,eCl]
     (repeat (refine And.intro (by first|assumption|omega|(simp; omega)|(simp_all; done)) ?_))
     refine goc (fun g2=>?_) (fun g2=>?_)<;>simp
     ·have hn:a≠b:=ne_at hx hy fun e=>by
       subst e
       rw[hcx] at hdy
       injection hdy with hdy
       subst hdy
       simp at g2
      rw[hR]; exact rt_end (by simp<;>rfl) [] trivial (end_pure (by simp; simp[hn]) (by simp) (by simp))
     have hn2:c.n=d.n∧c.text=d.text:=by simp at g2; exact g2.1
     have hl2:c.ids.length=d.ids.length:=by simp at g2; omega
     refine w_loop (X:=Nat) (fun m=>⟨[(2,true,.ptr E.n0 0 0),(3,true,.ptr (E.n0+1) 0 0),(5,true,.int .i64 i),(6,true,.ptr (E.n0+2) 0 0),(7,true,.ptr (E.n0+3) 0 0),(8,true,.int .i64 k),(9,true,.int .i64 m)],[(E.n0,some ⟨[.agg [ta,.sl (a.map eTg)]],.agg [ta,.sl (a.map eTg)],false,false⟩),(E.n0+1,some ⟨[.agg [tb,.sl (b.map eTg)]],.agg [tb,.sl (b.map eTg)],false,false⟩),(E.n0+2,some ⟨[.agg [.int .i64 x.type,.int .i64 x.id,.sl (x.cells.map eCl)]],.agg [.int .i64 0,.int .i64 0,.nils],false,false⟩),(E.n0+3,some ⟨[.agg [.int .i64 y.type,.int .i64 y.id,.sl (y.cells.map eCl)]],.agg [.int .i64 0,.int .i64 0,.nils],false,false⟩)],4⟩) (fun m=>m≤c.ids.length∧c.ids.take m=d.ids.take m) (fun m=>c.ids.length - m) 0 ?_ ⟨by omega,by simp⟩ ?_
     ·have hrn:rnOk [(E.n0,E.n0),(E.n0+1,E.n0+1),(E.n0+2,E.n0+2),(E.n0+3,E.n0+3)]:=by simp[hra,hna,hrb,hnb]
      refine Conv.sub [(E.n0,E.n0),(E.n0+1,E.n0+1),(E.n0+2,E.n0+2),(E.n0+3,E.n0+3)] hrn ?_ ?_ ?_ ?_ ?_<;>(try simp[hra,hna,hrb,hnb])
     ·rintro m ⟨hm,ha⟩ p3 hp3
      refine w_go 4000 ?_
      simp[hcx,eCl]
      (repeat (refine And.intro (by first|assumption|omega|(simp; omega)|(simp_all; done)) ?_))
      refine goc (fun g3=>?_) (fun g3=>?_)
      ·have g3:=of_decide_eq_true g3
       have hm2:m<d.ids.length:=by omega
       obtain⟨u,hux⟩:∃u,c.ids[m]?=some u:=⟨_,List.getElem?_eq_getElem g3⟩
       obtain⟨v,hvy⟩:∃v,d.ids[m]?=some v:=⟨_,List.getElem?_eq_getElem hm2⟩
       have hm1:IntKind.i64.wrap ((m:Int)+1)=((m+1:Nat):Int):=wrap64 (by omega)
       simp[hcx,hdy,hux,hvy,eCl,eI]
       (repeat (refine And.intro (by first|assumption|omega|(simp; omega)|(simp_all; done)) ?_))
       refine goc (fun g4=>?_) (fun g4=>?_)<;>simp
       ·have hn:a≠b:=ne_at hx hy fun e=>by
         subst e
         rw[hcx] at hdy
         injection hdy with hdy
         subst hdy
         rw[hux] at hvy
         injection hvy with hvy
         subst hvy
         simp at g4
        rw[hR]; exact rt_end (by simp<;>rfl) [] trivial (end_pure (by simp; simp[hn]) (by simp) (by simp))
       ·have huv:u=v:=by simpa using g4
        subst huv
        refine hp3 _ (m+1) ⟨by omega,take_eq_succ ha hux hvy⟩ (by omega) ?_
        have hrn:rnOk [(E.n0,E.n0),(E.n0+1,E.n0+1),(E.n0+2,E.n0+2),(E.n0+3,E.n0+3)]:=by simp[hra,hna,hrb,hnb,hm1]
        refine Conv.sub [(E.n0,E.n0),(E.n0+1,E.n0+1),(E.n0+2,E.n0+2),(E.n0+3,E.n0+3)] hrn ?_ ?_ ?_ ?_ ?_<;>(try simp[hra,hna,hrb,hnb,hm1])
      ·have g3:=of_decide_eq_false g3
       simp
       have hcd:c=d:=by
        have hie:c.ids=d.ids:=take_eq_all hl2 ha (by omega)
        obtain⟨c1,c2,c3⟩:=c
        obtain⟨d1,d2,d3⟩:=d
        simp at hn2 hie
        simp[hn2,hie]
       subst hcd
       refine hp2 _ (k+1) ⟨by omega,take_eq_succ hg hcx hdy⟩ (by omega) ?_
       have hrn:rnOk [(E.n0,E.n0),(E.n0+1,E.n0+1),(E.n0+2,E.n0+2),(E.n0+3,E.n0+3)]:=by simp[hra,hna,hrb,hnb,hk1]
       refine Conv.sub [(E.n0,E.n0),(E.n0+1,E.n0+1),(E.n0+2,E.n0+2),(E.n0+3,E.n0+3)] hrn ?_ ?_ ?_ ?_ ?_<;>(try simp[hra,hna,hrb,hnb,hk1])
    ·have g1:=of_decide_eq_false g1
     simp
     have hxy:x=y:=by
      have hie:x.cells=y.cells:=take_eq_all hl1 hg (by omega)
      obtain⟨c1,c2,c3⟩:=x
      obtain⟨d1,d2,d3⟩:=y
      simp at hn1 hie
      simp[hn1,hie]
     subst hxy
     refine hp _ (i+1) ⟨by omega,take_eq_succ hf hx hy⟩ (by omega) ?_
     have hrn:rnOk [(E.n0,E.n0),(E.n0+1,E.n0+1)]:=by simp[hra,hna,hrb,hnb,hi1]
     refine Conv.sub [(E.n0,E.n0),(E.n0+1,E.n0+1)] hrn ?_ ?_ ?_ ?_ ?_<;>(try simp[hra,hna,hrb,hnb,hi1])
  ·have h:=of_decide_eq_false h
   simp
   have hab:a=b:=take_eq_all hl hf (by omega)
   rw[hR]; exact rt_end (by simp<;>rfl) [] trivial (end_pure (by simp; simp[hab]) (by simp) (by simp))
theorem SameState_ok(a b:Sta)(id:Nat)(h1:a.types.length≤1000000)(h2:∀t∈a.types,t.fields.length≤1000000)(h12:a.things.length≤1000000)
  (hc:∀t∈a.things,t.cells.length≤1000000∧∀c∈t.cells,c.ids.length≤1000000):FnOk Tryz.prog 16 [eSta a,eSta b] [] id (.bool (decide (a=b))) []:=by
 have:=SameStateG (.sl (a.types.map eTy)) (.sl (b.types.map eTy)) (decide (a.types=b.types)) (by simp) (by simp) (fun id=>SameTypes_ok a.types b.types id h1 h2) a.things b.things id h12 hc
 have he:(decide (a.types=b.types)&&decide (a.things=b.things))=decide (a=b):=by
  obtain⟨a1,a2⟩:=a
  obtain⟨b1,b2⟩:=b
  simp
 rw[he] at this
 exact this
end Go.Am
namespace Go.Am
set_option linter.all false
open Go Go.RowKit Go.Proofs
set_option maxRecDepth 100000
set_option linter.all false
def tyW:List Ty:=[⟨[65],[⟨[110],1,[]⟩,⟨[116],2,[]⟩,⟨[98],3,[66]⟩,⟨[108],4,[65]⟩]⟩,⟨[66],[⟨[109],1,[]⟩]⟩]
theorem types_ok(id:Nat):FnOk Tryz.prog 36 [] [] id (.sl (tyW.map eTy)) []:=by
 unfold tyW
 simp only[List.map_cons,List.map_nil,eTy,eFd]
 refine fn_okc Tryz.func36 hcc36 (by decide) hcr36 (by simp[Tryz.ntmps36]) fun E hP hR hl hid=>?_
 simp only[cr36] at hR
 refine w_go 4000 ?_
 simp[cc36]
 have hrn:rnOk []:=by simp[idO hid]
 rw[hR]
 refine rt_endR (by simp<;>rfl) (by simp[idO hid]<;>exact⟨rfl,rfl⟩) [] hrn ⟨?_,?_,?_,?_,?_,?_⟩<;>(try simp[idO hid])
 exact namesL_pure _ rfl
def stW:Sta:=⟨tyW,[⟨0,3,[⟨5,[],[]⟩,⟨0,[120],[]⟩,⟨0,[],[1]⟩,⟨0,[],[3,4]⟩]⟩,⟨0,4,[cl0,cl0,cl0,cl0]⟩,⟨1,1,[⟨-1,[],[]⟩]⟩]⟩
set_option maxHeartbeats 2000000 in
theorem world_raw(id:Nat):FnOk Tryz.prog 33 [] [] id (.agg [.sl (tyW.map eTy),.sl [.agg [.int .i64 0,.int .i64 3,.sl [.agg [.int .i64 5,.str [],.nils],.agg [.int .i64 0,.str [120],.nils],.agg [.int .i64 0,.str [],.sl [.int .i64 1]],.agg [.int .i64 0,.str [],.sl [.int .i64 3,.int .i64 4]]]],
  .agg [.int .i64 0,.int .i64 4,.sl [.agg [.int .i64 0,.str [],.nils],.agg [.int .i64 0,.str [],.nils],.agg [.int .i64 0,.str [],.nils],.agg [.int .i64 0,.str [],.nils]]],.agg [.int .i64 1,.int .i64 1,.sl [.agg [.int .i64 (-1),.str [],.nils]]]]]) []:=by
 refine fn_okc Tryz.func33 hcc33 (by decide) hcr33 (by simp[Tryz.ntmps33]) fun E hP hR hl hid=>?_
 simp only[cr33] at hR
 refine w_go 4000 ?_
 simp[cc33]
 (refine w_call hP rfl (types_ok _) (by simp) (by simp<;>rfl) ?_; refine w_go 4000 ?_; simp)
 have hrn:rnOk []:=by simp[idO hid]
 rw[hR]
 refine rt_endR (by simp<;>rfl) (by simp[idO hid]<;>exact⟨rfl,rfl⟩) [] hrn ⟨?_,?_,?_,?_,?_,?_⟩<;>(try simp[idO hid])
 exact namesL_pure _ rfl
theorem world_ok(id:Nat):FnOk Tryz.prog 33 [] [] id (eSta stW) []:=(world_raw id).nrm
theorem w0(x:Int)(h : -9223372036854775808≤x∧x≤9223372036854775807):IntKind.i64.wrap x=x:=wrap64 h
theorem chk_w:fCheckT tyW=0:=by decide
theorem st_w:fSt stW=0:=by
 have:=chk_w
 unfold tyW at this
 simp[fSt,stW,this,firstIx,fTh1,fThing,fldsAt,tyW,cellAt,fCell,cl0,isLink,mostI,ascB,fOrdAt,ordI,w0,eachB,cellsB,isThere,kindOf,findJ,fFindB,fFindI,bs]
end Go.Am
namespace Go.Am
set_option linter.all false
open Go Go.RowKit Go.Proofs
set_option maxRecDepth 100000
set_option linter.all false
theorem Rt.sz{s:Sta}(h:Rt s):s.types.length≤1000000∧(∀t∈s.types,t.fields.length≤1000000)∧s.things.length≤1000000∧∀t∈s.things,t.cells.length≤1000000∧∀c∈t.cells,c.ids.length≤1000000:=by
 refine⟨by have:=h.r.sch.len; omega,fun t ht=>by have:=h.r.sch.fields t ht; omega,by have:=h.r.len; omega,fun t ht=>⟨by have:=(h.r.tg t ht).cells6 h.r.sch; omega,fun c hc=>?_⟩⟩
 obtain⟨k,hk⟩:=List.mem_iff_getElem?.1 hc
 obtain⟨f,_,hco⟩:=(h.r.tg t ht).cellOk hk
 have:=hco.i1; omega
theorem Same_self{s:Sta}(h:Rt s)(id:Nat):FnOk Tryz.prog 16 [eSta s,eSta s] [] id (.bool true) []:=by
 obtain⟨a,b,c,d⟩:=h.sz
 have:=SameState_ok s s id a b c d
 simpa using this
end Go.Am
