/- Parts of the proof: an abstract machine for Go functions, and what functions of the program give back (Ss0, Qw1). No condition. -/
import Derived.Test.YtgfmjhmjnnpcgaaGreatDoorXH
import Derived.Test.YtgfmjhmjnnpcgaaGreatDoorYP
import Derived.KernelRfl
namespace Go.Am
set_option linter.all false
open Go Go.RowKit Go.Proofs
set_option maxRecDepth 100000
set_option linter.all false
deriving instance DecidableEq for Fd
deriving instance DecidableEq for Ty
theorem take_eq_succ{α:Type}{l m:List α}{i:Nat}{x:α}(h:l.take i=m.take i)(h1:l[i]?=some x)(h2:m[i]?=some x):l.take (i+1)=m.take (i+1):=by rw[List.take_succ,List.take_succ,h,h1,h2]
theorem take_eq_all{α:Type}{l m:List α}{i:Nat}(hl:l.length=m.length)(h:l.take i=m.take i)(hi:l.length≤i):l=m:=by
 rw[List.take_of_length_le hi,List.take_of_length_le (by omega)] at h
 exact h
theorem ne_at{α:Type}{l m:List α}{i:Nat}{x y:α}(h1:l[i]?=some x)(h2:m[i]?=some y)(hn:x≠y):l≠m:=fun e=>by
 subst e
 rw[h1] at h2
 injection h2 with h2
 exact hn h2
set_option maxHeartbeats 1000000 in
theorem SameTypes_ok(a b:List Ty)(id:Nat)(ha:a.length≤1000000)(hb:∀t∈a,t.fields.length≤1000000):FnOk Tryz.prog 28 [.sl (a.map eTy),.sl (b.map eTy)] [] id (.bool (decide (a=b))) []:=by
 refine fn_okc Tryz.func28 hcc28 (by decide) hcr28 (by simp[Tryz.ntmps28]) fun E hP hR hl hid=>?_
 simp only[cr28] at hR
 refine w_go 4000 ?_
 simp[cc28]
 refine goc (fun h=>?_) (fun h=>?_)<;>simp
 ·have hn:a≠b:=fun e=>by subst e; simp at h
  rw[hR]; exact rt_end (by simp<;>rfl) [] trivial (end_pure (by simp; simp[hn]) (by simp) (by simp))
 have hl:a.length=b.length:=by simp at h; omega
 refine w_loop (X:=Nat) (fun i=>⟨[(0,true,.sl (a.map eTy)),(1,true,.sl (b.map eTy)),(5,true,.int .i64 i)],[],0⟩) (fun i=>i≤a.length∧a.take i=b.take i) (fun i=>a.length - i) 0 ?_ ⟨by omega,by simp⟩ ?_
 ·have hrn:rnOk []:=by simp
  refine Conv.sub [] hrn ?_ ?_ ?_ ?_ ?_<;>(try simp)
 ·rintro i ⟨hi,hf⟩ p hp
  refine w_go 4000 ?_
  simp
  refine goc (fun h=>?_) (fun h=>?_)
  ·have h:=of_decide_eq_true h
   have hi2:i<b.length:=by omega
   obtain⟨x,hx⟩:∃x,a[i]?=some x:=⟨_,List.getElem?_eq_getElem h⟩
   obtain⟨y,hy⟩:∃y,b[i]?=some y:=⟨_,List.getElem?_eq_getElem hi2⟩
   have hxb:=hb x (List.mem_of_getElem? hx)
   have hi1:IntKind.i64.wrap ((i:Int)+1)=((i+1:Nat):Int):=wrap64 (by omega)
   simp[hx,hy,eTy]
   (repeat (refine And.intro (by first|assumption|omega|(simp; omega)|(simp_all; done)) ?_))
   refine goc (fun g=>?_) (fun g=>?_)<;>simp
   ·have hn:a≠b:=ne_at hx hy fun e=>by subst e; simp at g
    rw[hR]; exact rt_end (by simp<;>rfl) [] trivial (end_pure (by simp; simp[hn]) (by simp) (by simp))
   have hn1:x.name=y.name:=by simp at g; exact g.1
   have hl1:x.fields.length=y.fields.length:=by simp at g; omega
   refine w_loop (X:=Nat) (fun k=>⟨[(0,true,.sl (a.map eTy)),(1,true,.sl (b.map eTy)),(5,true,.int .i64 i),(6,true,.int .i64 k)],[],0⟩) (fun k=>k≤x.fields.length∧x.fields.take k=y.fields.take k) (fun k=>x.fields.length - k) 0 ?_ ⟨by omega,by simp⟩ ?_
   ·have hrn:rnOk []:=by simp
    refine Conv.sub [] hrn ?_ ?_ ?_ ?_ ?_<;>(try simp)
   ·rintro k ⟨hk,hg⟩ p2 hp2
    refine w_go 4000 ?_
    simp[hx,eTy]
    (repeat (refine And.intro (by first|assumption|omega|(simp; omega)|(simp_all; done)) ?_))
    refine goc (fun g1=>?_) (fun g1=>?_)
    ·have g1:=of_decide_eq_true g1
     have hk2:k<y.fields.length:=by omega
     obtain⟨f,hfx⟩:∃f,x.fields[k]?=some f:=⟨_,List.getElem?_eq_getElem g1⟩
     obtain⟨g',hgy⟩:∃g',y.fields[k]?=some g':=⟨_,List.getElem?_eq_getElem hk2⟩
     have hk1:IntKind.i64.wrap ((k:Int)+1)=((k+1:Nat):Int):=wrap64 (by omega)
     simp[hx,hy,hfx,hgy,eTy,eFd,eqAll,eqOne]
     (repeat (refine And.intro (by first|assumption|omega|(simp; omega)|(simp_all; done)) ?_))
     refine goc (fun g2=>?_) (fun g2=>?_)<;>simp
     ·have hn:a≠b:=ne_at hx hy fun e=>by
       subst e
       rw[hfx] at hgy
       injection hgy with hgy
       subst hgy
       simp at g2
      rw[hR]; exact rt_end (by simp<;>rfl) [] trivial (end_pure (by simp; simp[hn]) (by simp) (by simp))
     ·have hfg:f=g':=by
       obtain⟨f1,f2,f3⟩:=f
       obtain⟨g3,g4,g5⟩:=g'
       simp at g2
       simp[g2]
      subst hfg
      refine hp2 _ (k+1) ⟨by omega,take_eq_succ hg hfx hgy⟩ (by omega) ?_
      have hrn:rnOk []:=by simp[hk1]
      refine Conv.sub [] hrn ?_ ?_ ?_ ?_ ?_<;>(try simp[hk1])
    ·have g1:=of_decide_eq_false g1
     simp
     have hfe:x.fields=y.fields:=take_eq_all hl1 hg (by omega)
     have hxy:x=y:=by
      obtain⟨x1,x2⟩:=x
      obtain⟨y1,y2⟩:=y
      simp at hn1 hfe
      simp[hn1,hfe]
     subst hxy
     refine hp _ (i+1) ⟨by omega,take_eq_succ hf hx hy⟩ (by omega) ?_
     have hrn:rnOk []:=by simp[hi1]
     refine Conv.sub [] hrn ?_ ?_ ?_ ?_ ?_<;>(try simp[hi1])
  ·have h:=of_decide_eq_false h
   simp
   have hab:a=b:=take_eq_all hl hf (by omega)
   rw[hR]; exact rt_end (by simp<;>rfl) [] trivial (end_pure (by simp; simp[hab]) (by simp) (by simp))
end Go.Am
namespace Go.Am
set_option linter.all false
open Go Go.RowKit Go.Proofs
set_option maxRecDepth 100000
set_option linter.all false
def tyW:List Ty:=[⟨[65],[⟨[110],1,[]⟩,⟨[116],2,[]⟩,⟨[98],3,[66]⟩,⟨[108],4,[65]⟩]⟩,⟨[66],[⟨[109],1,[]⟩]⟩]
theorem types_ok(id:Nat):FnOk Tryz.prog 50 [] [] id (.sl (tyW.map eTy)) []:=by
 unfold tyW
 simp only[List.map_cons,List.map_nil,eTy,eFd]
 refine fn_okc Tryz.func50 hcc50 (by decide) hcr50 (by simp[Tryz.ntmps50]) fun E hP hR hl hid=>?_
 simp only[cr50] at hR
 refine w_go 4000 ?_
 simp[cc50]
 have hrn:rnOk []:=by simp[idO hid]
 rw[hR]
 refine rt_endR (by simp<;>rfl) (by simp[idO hid]<;>exact⟨rfl,rfl⟩) [] hrn ⟨?_,?_,?_,?_,?_,?_⟩<;>(try simp[idO hid])
 exact namesL_pure _ rfl
def txW:List UInt8:=[116,121,112,101,32,65,32,123,32,110,58,32,78,117,109,98,101,114,32,116,58,32,84,101,120,116,32,98,58,32,66,32,108,58,32,91,65,93,32,125,32,116,121,112,101,32,66,32,123,32,109,58,32,78,117,109,98,101,114,32,125]
def tbW:List UInt8:=[116,121,112,101,32,66,32,123,32,109,32,58,32,78,117,109,98,101,114,32,125]
theorem lex_txW:fSchema txW = .ok tyW:=by kernel_rfl
theorem pr_tbW:sPr (tyW.drop 1)=(tbW,0):=by kernel_rfl
theorem chk_tyW:fCheckT tyW=0:=by kernel_rfl
set_option maxHeartbeats 4000000 in
theorem schemaBegun_ok(id:Nat):FnOk Tryz.prog 21 [] [] id (.bool true) []:=by
 have hR:=fun id=>sRead_ok txW id
 rw[lex_txW] at hR
 have hRd:∀id,FnOk Tryz.prog 23 [.str txW] [] id (.tup [.sl (tyW.map eTy),.int .i64 0]) []:=hR
 have hPr:=fun id=>sPrint_ok (tyW.drop 1) id
 rw[pr_tbW] at hPr
 have hC:=fun id=>sCheck_ok tyW id
 rw[chk_tyW] at hC
 have hS:=fun id=>SameTypes_ok tyW tyW id (by decide) (by decide)
 rw[decide_eq_true rfl] at hS
 have hTy:=fun id=>types_ok id
 have hd:(tyW.map eTy).drop 1=(tyW.drop 1).map eTy:=rfl
 have hl2:tyW.length=2:=rfl
 clear hR
 generalize htw:tyW=tw at *
 unfold txW at hRd
 refine fn_okc Tryz.func21 hcc21 (by decide) hcr21 (by simp[Tryz.ntmps21]) fun E hP hR hl hid=>?_
 simp only[cr21] at hR
 refine w_go 4000 ?_
 simp[cc21]
 (refine w_call hP rfl (hRd _) (by simp) (by simp<;>rfl) ?_; refine w_go 4000 ?_; simp)
 (refine w_call hP rfl (hTy _) (by simp) (by simp<;>rfl) ?_; refine w_go 4000 ?_; simp)
 refine⟨⟨fun a _=>rfl,by omega⟩,?_⟩
 have hd2:(tw.map eTy).tail=(tw.drop 1).map eTy:=by rw[←hd,List.drop_one]
 rw[hd2]
 generalize tw.drop 1=tz at *
 (refine w_call hP rfl (hPr _) (by simp) (by simp<;>rfl) ?_; refine w_go 4000 ?_; simp)
 (refine w_callg hP (by simp) rfl (fun hc=>⟨hTy _,by revert hc; simp; try grind,by simp⟩) ?_; refine w_go 4000 ?_; simp)
 (refine w_callg hP (by simp) rfl (fun hc=>⟨hC _,by revert hc; simp; try grind,by simp⟩) ?_; refine w_go 4000 ?_; simp)
 (refine w_callg hP (by simp) rfl (fun hc=>⟨hTy _,by revert hc; simp; try grind,by simp⟩) ?_; refine w_go 4000 ?_; simp)
 (refine w_callg hP (by simp) rfl (fun hc=>⟨hS _,by revert hc; simp; try grind,by simp⟩) ?_; refine w_go 4000 ?_; simp)
 simp[tbW]
 rw[hR]; exact rt_end (by simp<;>rfl) [] trivial (end_pure (by simp) (by simp) (by simp))
end Go.Am
