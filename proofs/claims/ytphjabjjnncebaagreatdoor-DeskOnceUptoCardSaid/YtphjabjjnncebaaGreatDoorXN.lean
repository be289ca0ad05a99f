/- Parts of the proof: an abstract machine for Go functions, and what functions of the program give back (Ra6, Ra7, Ra8, Rd1, Pu1, Pu2, Bf1, Pu3). No condition. -/
import Derived.Test.YtphjabjjnncebaaGreatDoorXM
import Derived.Test.YtphjabjjnncebaaGreatDoorXJ
import Derived.Test.YtphjabjjnncebaaGreatDoorXG
set_option maxRecDepth 100000
set_option linter.all false
set_option maxHeartbeats 1000000
namespace Go.Am
open Go Go.Proofs Go.RowKit
def H2(s:H0)(e:Ev):Nat:=B9 s.things e.type e.id
def A1q(s:H0)(e:Ev):Bool:=E9 s.things e.type e.id
def A0e(s:H0)(e:Ev):Option Fd:=if e.field<0 then none else (C8 s.types e.type)[e.field.toNat]?
def A53(s:H0)(e:Ev):Option Cl:=match s.things[H2 s e]? with
 | some t=>t.cells[e.field.toNat]?
 | none=>none
def chE(s:H0)(e:Ev):Int:=match A0e s e,A53 s e with
 | some f,some c=>if L0 e.kind f=true then W3 s f c e else 7
 | _,_=>5
def doE(s:H0)(e:Ev):Int :=
 if e.kind=1 then (if A1q s e=true then 6 else if s.things.length=12 then 2 else 0)
 else if A1q s e=false then 5 else if e.kind=2 then (if Q7 (S1 s.types e) s.types s.things=false then 4 else 0) else chE s e
def U6(s:H0)(e:Ev):Int:=if X9 s.types e≠0 then X9 s.types e else doE s e
def A5t(s:H0)(i k:Nat)(c:Cl):H0:=⟨s.types,match s.things[i]? with
 | some t=>s.things.set i ⟨t.type,t.id,t.cells.set k c⟩
 | none=>s.things⟩
def A06(s:H0)(e:Ev):H0 :=
 if e.kind=1 then ⟨s.types,s.things.take (H2 s e)++⟨e.type,e.id,List.replicate (C8 s.types e.type).length cl0⟩::s.things.drop (H2 s e)⟩
 else if e.kind=2 then ⟨s.types,s.things.take (H2 s e)++s.things.drop (H2 s e+1)⟩
 else match A0e s e,A53 s e with
  | some f,some c=>A5t s (H2 s e) e.field.toNat (u6 f c e)
  | _,_=>s
structure StR(s:H0):Prop where
 sch:A6O s.types
 len:s.things.length<=12
 tg:∀t∈s.things,A4O s t
theorem A3N{α:Type}{l:List α}{i:Nat}{x:α}(h:l[i]?=some x):l=l.take i++x::l.drop (i+1):=by
 obtain⟨h1,h2⟩:=ze.1 h;conv=>lhs; rw[←yx i l,xe h1,h2]
theorem A07{l:List Ty}{e:Ev}(h:X9 l e=0):U1 e=0/\0<=e.type/\e.type<=(l.length:Int) - 1/\1<=e.id/\e.id<=999/\1<=e.kind/\e.kind<=6:=by
 unfold X9 at h;split at h
 ·rename_i h1; exact (h1 h).elim
 ·rename_i h1;split at h
  ·omega
  ·split at h
   ·omega
   ·rename_i h2 h3;have h1:U1 e=0:=(by omega);have hk:1<=e.kind/\e.kind<=6:=by
     unfold U1 at h1;split at h1
     ·omega
     ·rename_i h4; omega
    exact⟨h1,by omega,by omega,by omega,by omega,hk.1,hk.2⟩
theorem B5a(l:List Tg)(a b:Int):B9 l a b<=l.length:=(B5T _ _ _ (qc _)).2
theorem B13{l:List Tg}{a b:Int}(h:E9 l a b=true):B9 l a b<l.length:=by unfold E9 at h; simp at h; exact h.1
section
variable {l:List Ty} {S:List H1} {T:Nat} {e:Ev} {id:Nat} (hnd:(d0 T S).Nodup) (hfr:∀z∈d0 T S,z<id\/id+1024<=z) (hok:∀o∈S,o.Ok) (hR:StR (A6 l S))
include hnd hfr hok hR
theorem A54:l.length<=5/\S.length<=12/\(∀t∈l,t.fields.length<=6)/\∀t∈S.map H1.t,0<=t.type/\t.type.toNat<l.length/\t.cells.length=(C8 l t.type).length/\t.cells.length<=1000000/\∀c∈t.cells,c.ids.length<=6:=by
 refine⟨hR.sch.len,by have:=hR.len; simpa [A6] using this,hR.sch.fields,fun t ht=>?_⟩;have h:=hR.tg t ht;have h6:=h.cells6 hR.sch;refine⟨h.ty0,h.ty1,h.len,by omega,fun c hc=>?_⟩;obtain⟨k,hk⟩:=ye.1 hc;obtain⟨f,_,hco⟩:=h.cellOk hk;exact hco.i1
theorem A9v(h1 : -1<=e.type/\e.type<=1000)(h2:1<=e.id/\e.id<=999)(hb:A1q (A6 l S) e=true){o:H1}(ho:S[H2 (A6 l S) e]?=some o){ty:Ty}(hty:l[e.type.toNat]?=some ty):o.t.type=e.type/\o.t.id=e.id/\o.t.cells.length=ty.fields.length:=by
 have ht:(A6 l S).things[H2 (A6 l S) e]?=some o.t:=by simp only[A6] at ho ⊢; rw[yi,ho]; rfl
 have hg:=hR.tg o.t (zg ht);have h5:=hR.sch.len;have hz:I5 (A6 l S).things e.type e.id (H2 (A6 l S) e)=0:=by unfold A1q E9 at hb; simp at hb; exact hb.2
 unfold I5 at hz;rw[ht] at hz;have hz:x4 o.t.type o.t.id e.type e.id=0:=hz;have g1:=hg.ty0;have g2:=hg.ty1;have g3:=hg.id1;have g4:=hg.id2;obtain⟨e1,e2⟩:=(A52 (by omega) (by omega) (by omega) (by unfold I64; omega)).1 hz;refine⟨e1,e2,?_⟩;have:=hg.len;rw[e1] at this;have hfl:C8 (A6 l S).types e.type=ty.fields:=by simp[C8,A6,hty]
 rw[this,hfl]
omit hfr hok hR in
theorem B9T{o:H1}(ho:o∈S){I:Nat}{b:Bx}(h:(I,b)∈A0N o.t.cells o.is):o.c≠I:=fun e=>by
 rw[d0,xc] at hnd;obtain⟨i,hi⟩:=ye.1 ho;have hs:=A3N hi;have h2:=hnd.2;rw[hs,A1c,A50,xt,xt] at h2;have h3:=h2.2.1.1;rw[nmO,H1.bxs,ym,xc] at h3;exact h3.1 (e▸zu.2 ⟨_,h,rfl⟩)
theorem A5u(h:U6 (A6 l S) e≠0):A2 Tryz.prog 126 [.agg [.sl (l.map I8),.bsl T 0 S.length],K7 e] (r9 T S) id (.tup [eS0,.int .i64 (U6 (A6 l S) e)]) []:=by
 obtain⟨q1,q2,q3,q4⟩:=A54 hnd hfr hok hR;have hE0:U6 (A6 l S) e=if X9 l e≠0 then X9 l e else doE (A6 l S) e:=rfl
 rw[hE0] at h ⊢;by_cases h0:X9 l e≠0
 ·rw[zj h0];exact (B9I l e T S.length id (by omega) h0).more fun q hq=>by cases hq
 rw[zf h0] at h ⊢;obtain⟨hf0,a1,a2,a3,a4,a5,a6⟩:=A07 (by omega:X9 l e=0);have hty:e.type.toNat<l.length:=by omega
 obtain⟨ty,htya⟩:∃ty,l[e.type.toNat]?=some ty:=⟨_,zc hty⟩;have hfl:C8 l e.type=ty.fields:=by simp[C8,htya]
 have hf6:ty.fields.length<=6:=q3 ty (zg htya);have hds:doE (A6 l S) e=doE (A6 l S) e:=rfl;have hdo:∀D id,(∀q∈r9 T S,q.1≠D)->A2 Tryz.prog 195 [.ptr D 0 0] ((D,S2 l (.bsl T 0 S.length) e 0)::r9 T S) id (.int .i64 (doE (A6 l S) e)) [(D,some (S2 l (.bsl T 0 S.length) e (H2 (A6 l S) e)))]:=fun D id hD=>by
  have d1:D≠T:=fun e=>hD _ (za ..) e.symm;have dr:∀q∈I6 S,q.1≠D:=fun q hq=>hD q (zb _ hq);have hnd':=hnd;rw[d0,xc] at hnd';have dT:∀q∈I6 S,q.1≠T:=fun q hq e=>hnd'.1 (e▸A5r hq);have hm2:∀q∈[(D,S2 l (.bsl T 0 S.length) e 0),(T,P2 S)],q∈(D,S2 l (.bsl T 0 S.length) e 0)::r9 T S:=fun q hq=>by
   simp only[zh,yn,or_false] at hq;rcases hq with rfl|rfl
   ·exact za ..
   ·exact zb _ (za ..)
  have hll:(A6 l S).things.length=S.length:=xg ..;by_cases k1:e.kind=1
  ·have hE:doE (A6 l S) e=if A1q (A6 l S) e=true then 6 else if S.length=12 then 2 else 0:=(by unfold doE; rw[zj k1,hll]);rw[hE] at h ⊢;refine (B9F l S e 0 D T id _ ?_ (by omega) d1).more hm2;by_cases b:A1q (A6 l S) e=true
   ·exact .inl ⟨k1,b,zj b⟩
   ·rw[zf b] at h ⊢;by_cases b2:S.length=12
    ·exact .inr (.inl ⟨k1,eq_false_of_ne_true b,b2,zj b2⟩)
    ·rw[zf b2] at h; exact (h rfl).elim
  ·by_cases b:A1q (A6 l S) e=false
   ·have hE:doE (A6 l S) e=5:=(by unfold doE; rw[zf k1,zj b]);rw[hE];exact (B9F l S e 0 D T id _ (.inr (.inr ⟨k1,b,rfl⟩)) (by omega) d1).more hm2
   ·have b':A1q (A6 l S) e=true:=(by simpa using b);by_cases k2:e.kind=2
    ·have hE:doE (A6 l S) e=if Q7 (S1 l e) l (S.map H1.t)=false then 4 else 0:=(by unfold doE; rw[zf k1,zf b,zj k2]; rfl);rw[hE] at h ⊢;by_cases m:Q7 (S1 l e) l (S.map H1.t)=false
     ·rw[zj m];exact B9H l S e 0 D T id k2 b' hok (by omega) (by omega) d1 hnd'.2 dr dT q4 m
     ·rw[zf m] at h; exact (h rfl).elim
    ·have hE:doE (A6 l S) e=chE (A6 l S) e:=(by unfold doE; rw[zf k1,zf b,zf k2]);rw[hE] at h ⊢;have hlt:=B13 b';obtain⟨o,ho⟩:∃o,S[H2 (A6 l S) e]?=some o:=⟨_,zc (hll▸hlt)⟩;have hoS:=zg ho;have hot:=q4 o.t (zu.2 ⟨o,hoS,rfl⟩);have hlen:=(A9v hnd hfr hok hR (by omega) (by omega) b' ho htya).2.2;have hbx:∀q∈o.bxs,q∈I6 S:=fun q hq=>xy.2 ⟨o,hoS,hq⟩;have dc:o.c≠D/\o.c≠T:=⟨dr _ (hbx _ (za ..)),dT _ (hbx _ (za ..))⟩;have his:=(hok o hoS).len;have hm3:∀q∈[(D,S2 l (.bsl T 0 S.length) e 0),(T,P2 S),(o.c,cBn o)],q∈(D,S2 l (.bsl T 0 S.length) e 0)::r9 T S:=fun q hq=>by
      simp only[zh,yn,or_false] at hq;rcases hq with rfl|rfl|rfl
      ·exact za ..
      ·exact zb _ (za ..)
      ·exact zb _ (zb _ (hbx _ (za ..)))
     have k3:3<=e.kind:=(by omega);have fin5:A0e (A6 l S) e=none->A2 Tryz.prog 195 [.ptr D 0 0] ((D,S2 l (.bsl T 0 S.length) e 0)::r9 T S) id (.int .i64 (chE (A6 l S) e)) [(D,some (S2 l (.bsl T 0 S.length) e (H2 (A6 l S) e)))]:=fun hfd=>by
      have hw:chE (A6 l S) e=5:=(by unfold chE; rw[hfd]);rw[hw];have hfr:u5 ty e o.c = .tup [.agg [.str [],.int .i64 0,.str []],.nilp,.int .i64 5]:=by
       unfold A0e at hfd;unfold u5;by_cases h5:e.field<0
       ·rw[zj h5]
       ·rw[zf h5] at hfd ⊢;have hfd:(C8 l e.type)[e.field.toNat]?=none:=hfd;rw[hfl] at hfd;rw[hfd]
      exact (B12 l S e 0 D T o.c id (List.zipWith M2 o.t.cells o.is) 5 k3 b' (by omega) d1 dc.1.symm dc.2.symm fun id=>A88 l S e (H2 (A6 l S) e) o ty D T id _ 5 (by omega) ⟨_,_,_,rfl⟩ hfr htya a1 ho hlen his (by omega) d1 dc.1.symm dc.2.symm).more hm3
     cases hfd:A0e (A6 l S) e with
     | none=>exact fin5 hfd
     | some f =>
      clear fin5;have hfd':=hfd;unfold A0e at hfd;by_cases h5:e.field<0
      ·rw[zj h5] at hfd; cases hfd
      rw[zf h5] at hfd;have hfd:(C8 l e.type)[e.field.toNat]?=some f:=hfd;rw[hfl] at hfd;have hkl:e.field.toNat<ty.fields.length:=(ze.1 hfd).1;obtain⟨cl,hcl⟩:∃cl,o.t.cells[e.field.toNat]?=some cl:=⟨_,zc (by omega)⟩;obtain⟨io,hio⟩:∃io,o.is[e.field.toNat]?=some io:=⟨_,zc (by omega)⟩;have hclo:A53 (A6 l S) e=some cl:=by
       unfold A53;have:(A6 l S).things[H2 (A6 l S) e]?=some o.t:=by simp only[A6] at ho ⊢; rw[yi,ho]; rfl
       rw[this];exact hcl
      have hchE:chE (A6 l S) e=if L0 e.kind f=true then W3 (A6 l S) f cl e else 7:=(by unfold chE; rw[hfd',hclo]);rw[hchE] at h ⊢;by_cases hkf:L0 e.kind f=true
      ·rw[zj hkf] at h ⊢;have hc8:cl.ids.length<=1000:=(by have:=hot.2.2.2.2 cl (zg hcl); omega);cases io with
       | none =>
        have hn:=(hok o hoS).nil _ _ hcl hio;have hW:∀id,R3 (A6 l S) f cl e o.c e.field.toNat id (List.zipWith M2 o.t.cells o.is) none=[]:=fun id=>by unfold R3; rw[zj h]
        refine (B12 l S e 0 D T o.c id (List.zipWith M2 o.t.cells o.is) _ k3 b' (by omega) d1 dc.1.symm dc.2.symm fun id=>?_).more hm3;have:=A3L l S e (H2 (A6 l S) e) o ty f cl D T id k3 a6 (by omega) hfd hkf hcl hio htya a1 ho hlen his hn (by omega) (by omega) (by omega) hc8 d1 dc.1.symm dc.2.symm;rw[hW] at this;exact this
       | some I =>
        have hIm:(I,iBx cl)∈o.bxs:=zb _ (A4z _ hcl hio _ (za ..));have hIr:=hbx _ hIm;have hW:∀id,R3 (A6 l S) f cl e o.c e.field.toNat id (List.zipWith M2 o.t.cells o.is) (some I)=[]:=fun id=>by unfold R3; rw[zj h]
        have dI:D≠I/\T≠I/\o.c≠I:=⟨fun e=>dr _ hIr e.symm,fun e=>dT _ hIr e.symm,B9T hnd hoS (A4z _ hcl hio _ (za ..))⟩;refine (B9Q l S e 0 D T o.c id (List.zipWith M2 o.t.cells o.is) _ I cl.ids dI.1 dI.2.1 dI.2.2 k3 b' (by omega) d1 dc.1.symm dc.2.symm fun id=>?_).more fun q hq=>?_
        ·have:=A1b l S e (H2 (A6 l S) e) o ty f cl I D T id k3 a6 (by omega) hfd hkf hcl hio htya a1 ho hlen his (by omega) (by omega) (by omega) hc8 d1 dc.1.symm dc.2.symm dI.1 dI.2.1 dI.2.2;rw[hW] at this;exact this
        ·simp only[zh,yn,or_false] at hq;rcases hq with rfl|rfl|rfl|rfl
         ·exact za ..
         ·exact zb _ (za ..)
         ·exact zb _ (zb _ (hbx _ (za ..)))
         ·exact zb _ (zb _ hIr)
      ·rw[zf hkf];have hfr:u5 ty e o.c = .tup [T2 f,.nilp,.int .i64 7]:=(by unfold u5; rw[zf h5,hfd]; simp only; rw[zf hkf]);exact (B12 l S e 0 D T o.c id (List.zipWith M2 o.t.cells o.is) 7 k3 b' (by omega) d1 dc.1.symm dc.2.symm fun id=>A88 l S e (H2 (A6 l S) e) o ty D T id _ 7 (by omega) ⟨_,_,_,rfl⟩ hfr htya a1 ho hlen his (by omega) d1 dc.1.symm dc.2.symm).more hm3
 exact B9N l S e T id _ _ (r9 T S) (by rw[B79]; exact hnd) h (by omega) hf0 a1 a2 a3 a4 hdo
end
structure A9w(l:List Ty)(S:List H1)(T:Nat)(e:Ev)(id:Nat)(T':Nat)(S':List H1)(wr:List (Nat×Option Bx)):Prop where
 fn:A2 Tryz.prog 126 [.agg [.sl (l.map I8),.bsl T 0 S.length],K7 e] (r9 T S) id (.tup [.agg [.sl (l.map I8),.bsl T' 0 S'.length],.int .i64 0]) wr
 tree:A5s id T S wr T' S'
 st:A6 l S'=A06 (A6 l S) e
section
variable {l:List Ty} {S:List H1} {T:Nat} {e:Ev} {id:Nat} (hnd:(d0 T S).Nodup) (hfr:∀z∈d0 T S,z<id\/id+1024<=z) (hok:∀o∈S,o.Ok) (hR:StR (A6 l S))
include hnd hfr hok hR
omit hnd hfr hok hR in
theorem A2h(h:U6 (A6 l S) e=0):X9 l e=0/\doE (A6 l S) e=0:=by
 have hE0:U6 (A6 l S) e=if X9 l e≠0 then X9 l e else doE (A6 l S) e:=rfl
 rw[hE0] at h;by_cases h0:X9 l e=0
 ·rw[zf (by simp[h0])] at h; exact⟨h0,h⟩
 ·rw[zj h0] at h; exact (h0 h).elim
theorem B9U(k1:e.kind=1)(h:U6 (A6 l S) e=0):∃T' S' wr,A9w l S T e id T' S' wr:=by
 obtain⟨q1,q2,q3,q4⟩:=A54 hnd hfr hok hR;obtain⟨h0,h⟩:=A2h h;obtain⟨hf0,a1,a2,a3,a4,a5,a6⟩:=A07 h0;have hty:e.type.toNat<l.length:=by omega
 obtain⟨ty,htya⟩:∃ty,l[e.type.toNat]?=some ty:=⟨_,zc hty⟩;have hfl:C8 l e.type=ty.fields:=by simp[C8,htya]
 have hf6:ty.fields.length<=6:=q3 ty (zg htya);have hll:(A6 l S).things.length=S.length:=xg ..;have hE:doE (A6 l S) e=if A1q (A6 l S) e=true then 6 else if S.length=12 then 2 else 0:=by unfold doE; rw[zj k1,hll]
 rw[hE] at h;by_cases b:A1q (A6 l S) e=true
 ·rw[zj b] at h; omega
 rw[zf b] at h;by_cases b2:S.length=12
 ·rw[zj b2] at h; omega
 have hi:H2 (A6 l S) e<=S.length:=hll▸B5a ..;have hii:B9 (S.map H1.t) e.type e.id=H2 (A6 l S) e:=rfl;have hbf:E9 (S.map H1.t) e.type e.id=false:=eq_false_of_ne_true b;have ft:=B7B (id:=id) (T:=T) (A:=S.take (H2 (A6 l S) e)) (B:=S.drop (H2 (A6 l S) e)) e ty.fields.length (by rw[yx]; exact hnd) (by rw[yx]; exact hfr) (by rw[yx]; exact hok);rw[yx] at ft;have hlen:(S.take (H2 (A6 l S) e)++A51 e ty.fields.length id::S.drop (H2 (A6 l S) e)).length=S.length+1:=by simp; omega
 have hxs:P2 (S.take (H2 (A6 l S) e)++A51 e ty.fields.length id::S.drop (H2 (A6 l S) e))=⟨(S.map W6).take (H2 (A6 l S) e)++.agg [.int .i64 e.type,.int .i64 e.id,.bsl (id+1) 0 ty.fields.length]::(S.map W6).drop (H2 (A6 l S) e),zT,false,false⟩:=by
  simp[P2,yu,so,W6,A51]
 refine⟨id,_,_,⟨?_,ft,?_⟩⟩
 ·rw[hlen,hxs];refine (B9J l S e T id (H2 (A6 l S) e) ty.fields.length (H2 (A6 l S) e) (by omega) hf0 a1 a2 a3 a4 fun D id hD=>?_).more fun q hq=>by
   simp only[zh,yn,or_false] at hq;subst hq;exact za ..
  have:=C1y l S e 0 ty D T id k1 hbf b2 htya a1 (by omega) (by omega) (fun e=>hD _ (za ..) e.symm);rw[hii] at this;exact this
 ·unfold A06;rw[zj k1];simp[A6,A51,yu,so,hfl]
theorem B9V(k2:e.kind=2)(h:U6 (A6 l S) e=0):∃T' S' wr,A9w l S T e id T' S' wr:=by
 obtain⟨q1,q2,q3,q4⟩:=A54 hnd hfr hok hR;obtain⟨h0,h⟩:=A2h h;obtain⟨hf0,a1,a2,a3,a4,a5,a6⟩:=A07 h0;have hll:(A6 l S).things.length=S.length:=xg ..;have k1:e.kind≠1:=by omega
 by_cases b:A1q (A6 l S) e=false
 ·have hE:doE (A6 l S) e=5:=by unfold doE; rw[zf k1,zj b]
  omega
 have b':A1q (A6 l S) e=true:=by simpa using b
 have hE:doE (A6 l S) e=if Q7 (S1 l e) l (S.map H1.t)=false then 4 else 0:=by unfold doE; rw[zf k1,zf b,zj k2]; rfl
 rw[hE] at h;by_cases m:Q7 (S1 l e) l (S.map H1.t)=false
 ·rw[zj m] at h; omega
 have m':Q7 (S1 l e) l (S.map H1.t)=true:=by simpa using m
 have hlt:H2 (A6 l S) e<S.length:=hll▸B13 b';obtain⟨o,ho⟩:∃o,S[H2 (A6 l S) e]?=some o:=⟨_,zc hlt⟩;have hs:=A3N ho;have hii:B9 (S.map H1.t) e.type e.id=H2 (A6 l S) e:=rfl;have hnd':=hnd;rw[d0,xc] at hnd';have dT:∀q∈I6 S,q.1≠T:=fun q hq e=>hnd'.1 (e▸A5r hq);have ft:=B7C (id:=id) (T:=T) (A:=S.take (H2 (A6 l S) e)) (B:=S.drop (H2 (A6 l S) e+1)) (o:=o) (by rw[←hs]; exact hnd) (by rw[←hs]; exact hfr) (by rw[←hs]; exact hok);rw[←hs] at ft;have hlen:(S.take (H2 (A6 l S) e)++S.drop (H2 (A6 l S) e+1)).length=S.length - 1:=by simp; omega
 have hxs:P2 (S.take (H2 (A6 l S) e)++S.drop (H2 (A6 l S) e+1))=⟨(S.map W6).take (H2 (A6 l S) e)++(S.map W6).drop (H2 (A6 l S) e+1),zT,false,false⟩:=by
  simp[P2,yu,so]
 refine⟨id,_,_,⟨?_,ft,?_⟩⟩
 ·rw[hlen,hxs];refine B9O l S e T id (H2 (A6 l S) e) (H2 (A6 l S) e) (I6 S) hnd'.2 dT (by omega) hf0 a1 a2 a3 a4 fun D id hD=>?_;have:=C1z l S e 0 D T id k2 b' hok (by omega) (by omega) (fun e=>hD _ (za ..) e.symm) hnd'.2 (fun q hq=>hD q (zb _ hq)) dT q4 m';rw[hii] at this;exact this
 ·unfold A06;rw[zf k1,zj k2];simp[A6,yu,so]
end
theorem B5b(c:Cl)(i:Option Nat):∀(cs:List Cl) (is:List (Option Nat)) (k:Nat),List.zipWith M2 (cs.set k c) (is.set k i)=(List.zipWith M2 cs is).set k (M2 c i)
 | [],_,_=>by simp
 | _::_,[],_=>by simp
 | _::cs,_::is,0=>by simp
 | _::cs,_::is,k+1=>by simp[B5b c i cs is k]
theorem B9W{α:Type}{l:List α}{k:Nat}{x:α}(h:l[k]?=some x):l.set k x=l:=by
 obtain⟨h1,rfl⟩:=ze.1 h;exact List.set_getElem_self h1
theorem A9x{c:Cl}{i:Option Nat}:∀{cs:List Cl} {is:List (Option Nat)} {k:Nat},cs[k]?=some c->is[k]?=some i->∃X Y,A0N cs is=X++(idB c i++Y)/\∀c' i',A0N (cs.set k c') (is.set k i')=X++(idB c' i'++Y)
 | [],_,_,h,_=>by simp at h
 | _::_,[],_,_,h=>by simp at h
 | c0::cs,i0::is,0,h1,h2=>by
  simp only[yr,zd] at h1 h2;subst h1 h2;exact⟨[],A0N cs is,rfl,fun _ _=>rfl⟩
 | c0::cs,i0::is,k+1,h1,h2=>by
  simp only[xn] at h1 h2;obtain⟨X,Y,e1,e2⟩:=A9x h1 h2;refine⟨idB c0 i0++X,Y,?_,fun c' i'=>?_⟩
  ·rw[A0N,e1,yk]
  ·rw[List.set_cons_succ,List.set_cons_succ,A0N,e2,yk]
def A5v(o:H1)(k:Nat)(c:Cl)(io:Option Nat):H1:=⟨⟨o.t.type,o.t.id,o.t.cells.set k c⟩,o.c,o.is.set k io⟩
theorem B5c{o:H1}{k:Nat}{c:Cl}{io:Option Nat}(h:o.Ok)(hn:io=none->c.ids=[]):(A5v o k c io).Ok:=by
 refine⟨by simpa [A5v] using h.len,fun j d h1 h2=>?_⟩;simp only[A5v] at h1 h2;rw[ug] at h1 h2;by_cases hj:k=j
 ·subst hj;rw[zj rfl] at h1 h2;split at h1
  ·split at h2
   ·injection h1 with h1; injection h2 with h2; subst h1; exact hn h2
   ·cases h2
  ·cases h1
 ·rw[zf hj] at h1 h2;exact h.nil _ _ h1 h2
theorem B2w(o:H1)(k:Nat)(c:Cl)(io:Option Nat):W6 (A5v o k c io)=W6 o:=by simp[W6,A5v]
theorem B2x(o:H1)(k:Nat)(c:Cl)(io:Option Nat):cBn (A5v o k c io)=⟨(List.zipWith M2 o.t.cells o.is).set k (M2 c io),zC,false,false⟩:=by
 simp only[cBn,A5v,B5b]
section
variable {l:List Ty} {S:List H1} {T:Nat} {e:Ev} {id:Nat} (hnd:(d0 T S).Nodup) (hfr:∀z∈d0 T S,z<id\/id+1024<=z) (hok:∀o∈S,o.Ok) (hR:StR (A6 l S))
theorem B5d{i k:Nat}{o:H1}(ho:S[i]?=some o){c:Cl}{io:Option Nat}{wr:List (Nat×Option Bx)}(hs:A06 (A6 l S) e=A5t (A6 l S) i k c)
  (hf:A2 Tryz.prog 126 [.agg [.sl (l.map I8),.bsl T 0 S.length],K7 e] (r9 T S) id (.tup [.agg [.sl (l.map I8),.bsl T 0 S.length],.int .i64 0]) wr)
  (ht:A5s id T (S.take i++o::S.drop (i+1)) wr T (S.take i++A5v o k c io::S.drop (i+1))):∃T' S' wr,A9w l S T e id T' S' wr:=by
 rw[←A3N ho] at ht;have hi:=(ze.1 ho).1;have hset:S.set i (A5v o k c io)=S.take i++A5v o k c io::S.drop (i+1):=by rw[List.set_eq_take_append_cons_drop,zj hi]
 rw[←hset] at ht;refine⟨T,_,wr,⟨?_,ht,?_⟩⟩
 ·rw[List.length_set]; exact hf
 ·rw[hs];unfold A5t;have:(A6 l S).things[i]?=some o.t:=by simp only[A6]; rw[yi,ho]; rfl
  rw[this];simp only[A6,tq];rfl
include hnd hfr hok hR
theorem C24(k3:3<=e.kind)(h:U6 (A6 l S) e=0):∃T' S' wr,A9w l S T e id T' S' wr:=by
 obtain⟨q1,q2,q3,q4⟩:=A54 hnd hfr hok hR;obtain⟨h0,h⟩:=A2h h;obtain⟨hf0,a1,a2,a3,a4,a5,a6⟩:=A07 h0;have hty:e.type.toNat<l.length:=by omega
 obtain⟨ty,htya⟩:∃ty,l[e.type.toNat]?=some ty:=⟨_,zc hty⟩;have hfl:C8 l e.type=ty.fields:=by simp[C8,htya]
 have hf6:ty.fields.length<=6:=q3 ty (zg htya);have hll:(A6 l S).things.length=S.length:=xg ..;have k1:e.kind≠1:=by omega
 have k2:e.kind≠2:=by omega
 by_cases b:A1q (A6 l S) e=false
 ·have hE:doE (A6 l S) e=5:=by unfold doE; rw[zf k1,zj b]
  omega
 have b':A1q (A6 l S) e=true:=by simpa using b
 have hE:doE (A6 l S) e=chE (A6 l S) e:=by unfold doE; rw[zf k1,zf b,zf k2]
 rw[hE] at h;have hlt:H2 (A6 l S) e<S.length:=hll▸B13 b';obtain⟨o,ho⟩:∃o,S[H2 (A6 l S) e]?=some o:=⟨_,zc hlt⟩;have hs:=A3N ho;have hoS:=zg ho;have hot:=q4 o.t (zu.2 ⟨o,hoS,rfl⟩);have hlen:=(A9v hnd hfr hok hR (by omega) (by omega) b' ho htya).2.2;have hbx:∀q∈o.bxs,q∈I6 S:=fun q hq=>xy.2 ⟨o,hoS,hq⟩;have hnd':=hnd;rw[d0,xc] at hnd';have dT:∀q∈I6 S,q.1≠T:=fun q hq e=>hnd'.1 (e▸A5r hq);have dc:T≠o.c:=fun e=>dT _ (hbx _ (za ..)) e.symm;have his:=(hok o hoS).len;have htS:(A6 l S).things[H2 (A6 l S) e]?=some o.t:=by simp only[A6] at ho ⊢; rw[yi,ho]; rfl
 cases hfd:A0e (A6 l S) e with
 | none =>
  have:chE (A6 l S) e=5:=by unfold chE; rw[hfd]
  omega
 | some f =>
 have hfd':=hfd;unfold A0e at hfd;by_cases h5:e.field<0
 ·rw[zj h5] at hfd; cases hfd
 rw[zf h5] at hfd;have hfd:(C8 l e.type)[e.field.toNat]?=some f:=hfd;rw[hfl] at hfd;have hkl:e.field.toNat<ty.fields.length:=(ze.1 hfd).1;obtain⟨cl,hcl⟩:∃cl,o.t.cells[e.field.toNat]?=some cl:=⟨_,zc (by omega)⟩;obtain⟨io,hio⟩:∃io,o.is[e.field.toNat]?=some io:=⟨_,zc (by omega)⟩;have hclo:A53 (A6 l S) e=some cl:=by
  unfold A53;rw[htS];exact hcl
 have hchE:chE (A6 l S) e=if L0 e.kind f=true then W3 (A6 l S) f cl e else 7:=by unfold chE; rw[hfd',hclo]
 rw[hchE] at h;by_cases hkf:L0 e.kind f=true
 case neg=>rw[zf hkf] at h; omega
 rw[zj hkf] at h;have hrs:A06 (A6 l S) e=A5t (A6 l S) (H2 (A6 l S) e) e.field.toNat (u6 f cl e):=by
  unfold A06;rw[zf k1,zf k2,hfd',hclo]
 have hc8:cl.ids.length<=1000:=by have:=hot.2.2.2.2 cl (zg hcl); omega
 have hx:=A6x hcl hio;obtain⟨X,Y,hX1,hX2⟩:=A9x hcl hio;have hn:io=none->cl.ids=[]:=fun hh=>(hok o hoS).nil _ _ hcl (hh▸hio);have hnd2:(d0 T (S.take (H2 (A6 l S) e)++o::S.drop (H2 (A6 l S) e+1))).Nodup:=by rw[←hs]; exact hnd
 have hfr2:∀z∈d0 T (S.take (H2 (A6 l S) e)++o::S.drop (H2 (A6 l S) e+1)),z<id\/id+1024<=z:=by rw[←hs]; exact hfr
 have hok2:∀x∈S.take (H2 (A6 l S) e)++o::S.drop (H2 (A6 l S) e+1),x.Ok:=by rw[←hs]; exact hok
 have hm2:∀q∈[(T,P2 S),(o.c,cBn o)],q∈r9 T S:=fun q hq=>by
  simp only[zh,yn,or_false] at hq;rcases hq with rfl|rfl
  ·exact za ..
  ·exact zb _ (hbx _ (za ..))
 have hII:∀I,io=some I->(∀D,(∀q∈[(T,P2 S),(o.c,cBn o),(I,iBx cl)],q.1≠D)->D≠I)/\T≠I/\o.c≠I/\∀q∈[(T,P2 S),(o.c,cBn o),(I,iBx cl)],q∈r9 T S:=fun I hI=>by
  subst hI;have hIm:(I,iBx cl)∈A0N o.t.cells o.is:=A4z _ hcl hio _ (za ..);have hIr:=hbx _ (zb _ hIm);refine⟨fun D hD e=>hD (I,iBx cl) (by simp) e.symm,fun e=>dT _ hIr e.symm,B9T hnd hoS hIm,fun q hq=>?_⟩;simp only[zh,yn,or_false] at hq;rcases hq with rfl|rfl|rfl
  ·exact za ..
  ·exact zb _ (hbx _ (za ..))
  ·exact zb _ hIr
 by_cases k4:e.kind=3\/e.kind=4
 ·obtain⟨n',t',hc'⟩:∃n t,u6 f cl e=⟨n,t,cl.ids⟩:=by
   unfold u6;rcases k4 with k|k
   ·exact⟨e.n,cl.text,by rw[zj k]⟩
   ·exact⟨cl.n,e.text,by rw[zf (by omega),zj k]⟩
  rw[hc'] at hrs;have hW:∀id,R3 (A6 l S) f cl e o.c e.field.toNat id (List.zipWith M2 o.t.cells o.is) io=[(o.c,some ⟨(List.zipWith M2 o.t.cells o.is).set e.field.toNat (M2 ⟨n',t',cl.ids⟩ io),zC,false,false⟩)]:=fun id=>by unfold R3; rw[zf (by simp[h]),zj k4,hc']
  have hwr:[(o.c,some (cBn (A5v o e.field.toNat ⟨n',t',cl.ids⟩ io)))]=[(o.c,some (⟨(List.zipWith M2 o.t.cells o.is).set e.field.toNat (M2 ⟨n',t',cl.ids⟩ io),zC,false,false⟩:Bx))]:=by rw[B2x]
  refine B5d (io:=io) ho hrs (wr:=[(o.c,some (cBn (A5v o e.field.toNat ⟨n',t',cl.ids⟩ io)))]) ?_ ?_
  ·rw[hwr];cases io with
   | none =>
    refine (B9K l S e T id o.c (List.zipWith M2 o.t.cells o.is) e.field.toNat _ _ _ hx n' t' dc (H2 (A6 l S) e) (by omega) hf0 a1 a2 a3 a4 fun D id hD=>?_).more hm2;have d1:D≠T:=fun e=>hD _ (za ..) e.symm;have d2:D≠o.c:=fun e=>hD _ (zb _ (za ..)) e.symm;refine C20 l S e 0 D T o.c id (List.zipWith M2 o.t.cells o.is) e.field.toNat _ _ _ hx n' t' k3 b' (by omega) d1 d2 dc fun id=>?_;have:=A3L l S e (H2 (A6 l S) e) o ty f cl D T id k3 a6 (by omega) hfd hkf hcl hio htya a1 ho hlen his (hn rfl) (by omega) (by omega) (by omega) hc8 d1 d2 dc;rw[hW,h] at this;exact this
   | some I =>
    obtain⟨i1,i2,i3,i4⟩:=hII I rfl;refine (B7F l S e T id o.c (List.zipWith M2 o.t.cells o.is) e.field.toNat _ _ _ hx n' t' I cl.ids dc i2 i3 (H2 (A6 l S) e) (by omega) hf0 a1 a2 a3 a4 fun D id hD=>?_).more i4;have d1:D≠T:=fun e=>hD _ (za ..) e.symm;have d2:D≠o.c:=fun e=>hD _ (zb _ (za ..)) e.symm;have d4:=i1 D hD;refine B9R l S e 0 D T o.c id (List.zipWith M2 o.t.cells o.is) e.field.toNat _ _ _ hx n' t' I cl.ids d4 i2 i3 k3 b' (by omega) d1 d2 dc fun id=>?_;have:=A1b l S e (H2 (A6 l S) e) o ty f cl I D T id k3 a6 (by omega) hfd hkf hcl hio htya a1 ho hlen his (by omega) (by omega) (by omega) hc8 d1 d2 dc d4 i2 i3;rw[hW,h] at this;exact this
  ·refine B7D (X:=A0N o.t.cells o.is) rfl ?_ (B2w ..) (B5c (hok o hoS) hn) hnd2 hok2;show (o.c,_)::A0N (o.t.cells.set e.field.toNat ⟨n',t',cl.ids⟩) (o.is.set e.field.toNat io)=_;rw[hX2,hX1];cases io<;>rfl
 ·obtain⟨n',t',ys,hc'⟩:∃n t ys,u6 f cl e=⟨n,t,ys⟩:=⟨_,_,_,rfl⟩;rw[hc'] at hrs;have hW:∀id,R3 (A6 l S) f cl e o.c e.field.toNat id (List.zipWith M2 o.t.cells o.is) io=(if e.kind=5/\f.kind=3 then [] else A2u io)++[(o.c,some ⟨(List.zipWith M2 o.t.cells o.is).set e.field.toNat (M2 ⟨n',t',ys⟩ (some id)),zC,false,false⟩),(id,some ⟨ys.map eI,.int .i64 0,false,false⟩)]:=fun id=>by unfold R3; rw[zf (by simp[h]),zf k4,hc']
  refine B5d (io:=some id) ho hrs (wr:=(if e.kind=5/\f.kind=3 then [] else A2u io)++[(o.c,some (cBn (A5v o e.field.toNat ⟨n',t',ys⟩ (some id)))),(id,some ⟨ys.map eI,.int .i64 0,false,false⟩)]) ?_ ?_
  ·rw[B2x];cases io with
   | none =>
    have hg:(if e.kind=5/\f.kind=3 then [] else A2u none)=[]:=(by split<;>rfl);rw[hg,xm];refine (B9L l S e T id o.c (List.zipWith M2 o.t.cells o.is) e.field.toNat n' t' ys dc (H2 (A6 l S) e) (by omega) hf0 a1 a2 a3 a4 fun D id hD=>?_).more hm2;have d1:D≠T:=fun e=>hD _ (za ..) e.symm;have d2:D≠o.c:=fun e=>hD _ (zb _ (za ..)) e.symm;refine C21 l S e 0 D T o.c id (List.zipWith M2 o.t.cells o.is) e.field.toNat n' t' ys k3 b' (by omega) d1 d2 dc fun id=>?_;have:=A3L l S e (H2 (A6 l S) e) o ty f cl D T id k3 a6 (by omega) hfd hkf hcl hio htya a1 ho hlen his (hn rfl) (by omega) (by omega) (by omega) hc8 d1 d2 dc;rw[hW,h,hg] at this;exact this
   | some I =>
    obtain⟨i1,i2,i3,i4⟩:=hII I rfl;by_cases k5:e.kind=5/\f.kind=3
    ·rw[zj k5,xm];refine (B7G l S e T id o.c (List.zipWith M2 o.t.cells o.is) e.field.toNat n' t' ys I cl.ids dc i2 i3 (H2 (A6 l S) e) (by omega) hf0 a1 a2 a3 a4 fun D id hD=>?_).more i4;have d1:D≠T:=fun e=>hD _ (za ..) e.symm;have d2:D≠o.c:=fun e=>hD _ (zb _ (za ..)) e.symm;have d4:=i1 D hD;refine B9S l S e 0 D T o.c id (List.zipWith M2 o.t.cells o.is) e.field.toNat n' t' ys I cl.ids d4 i2 i3 k3 b' (by omega) d1 d2 dc fun id=>?_;have:=A1b l S e (H2 (A6 l S) e) o ty f cl I D T id k3 a6 (by omega) hfd hkf hcl hio htya a1 ho hlen his (by omega) (by omega) (by omega) hc8 d1 d2 dc d4 i2 i3;rw[hW,h,zj k5] at this;exact this
    ·rw[zf k5];refine (B9M l S e T id o.c (List.zipWith M2 o.t.cells o.is) e.field.toNat n' t' ys I cl.ids dc i2 i3 (H2 (A6 l S) e) (by omega) hf0 a1 a2 a3 a4 fun D id hD=>?_).more i4;have d1:D≠T:=fun e=>hD _ (za ..) e.symm;have d2:D≠o.c:=fun e=>hD _ (zb _ (za ..)) e.symm;have d4:=i1 D hD;refine C22 l S e 0 D T o.c id (List.zipWith M2 o.t.cells o.is) e.field.toNat n' t' ys I cl.ids d4 i2 i3 k3 b' (by omega) d1 d2 dc fun id=>?_;have:=A1b l S e (H2 (A6 l S) e) o ty f cl I D T id k3 a6 (by omega) hfd hkf hcl hio htya a1 ho hlen his (by omega) (by omega) (by omega) hc8 d1 d2 dc d4 i2 i3;rw[hW,h,zf k5] at this;exact this
  ·refine B7E (X:=X) (I:=idB cl io) (Y:=Y) (b:=⟨ys.map eI,.int .i64 0,false,false⟩) ?_ ?_ ?_ (B2w ..) (B5c (hok o hoS) (by simp)) hnd2 hfr2 hok2
   ·show (o.c,_)::A0N o.t.cells o.is=_;rw[hX1]
   ·show (o.c,_)::A0N (o.t.cells.set e.field.toNat ⟨n',t',ys⟩) (o.is.set e.field.toNat (some id))=_;rw[hX2];rfl
   ·intro p hp;split at hp
    ·cases hp
    ·cases io with
     | none=>cases hp
     | some I=>simp only[A2u,xq] at hp; subst hp; simp[idB]
theorem A8A(h:U6 (A6 l S) e=0):∃T' S' wr,A9w l S T e id T' S' wr:=by
 have h6:=(A07 (A2h h).1).2.2.2.2.2.1;by_cases k1:e.kind=1
 ·exact B9U hnd hfr hok hR k1 h
 by_cases k2:e.kind=2
 ·exact B9V hnd hfr hok hR k2 h
 ·exact C24 hnd hfr hok hR (by omega) h
end
def A2B(b:Nat):List Cl->List (Option Nat)
 | []=>[]
 | _::cs=>some b::A2B (b+1) cs
def q9(t:Nat):Nat->List Tg->List H1
 | _,[]=>[]
 | q,x::xs=>⟨x,t+1+q,A2B (t+16+16*q) x.cells⟩::q9 t (q+1) xs
theorem A8B:∀{l:List Cl} {b k:Nat} {c:Cl},l[k]?=some c->(A2B b l)[k]?=some (some (b+k))
 | [],_,_,_,h=>by simp at h
 | _::_,b,0,_,_=>rfl
 | _::l,b,k+1,c,h=>by
  simp only[xn] at h;rw[A2B,xn,A8B h];congr 2; omega
theorem A8C:∀(l:List Cl) (b:Nat),(A2B b l).length=l.length
 | [],_=>rfl
 | _::l,b=>by simp[A2B,A8C l]
theorem A2C(t:Nat):∀(l:List Tg) (q:Nat),(q9 t q l).length=l.length
 | [],_=>rfl
 | _::l,q=>by simp[q9,A2C t l]
theorem B9X(t:Nat):∀(l:List Tg) (q:Nat),(q9 t q l).map H1.t=l
 | [],_=>rfl
 | _::l,q=>by simp[q9,B9X t l]
theorem A6z(t:Nat):∀(l:List Tg) (q:Nat),∀o∈q9 t q l,o.Ok
 | [],_,o,h=>by cases h
 | x::l,q,o,h=>by
  rcases zh.1 h with rfl|h
  ·refine⟨A8C ..,fun k c h1 h2=>?_⟩;have h1:x.cells[k]?=some c:=h1;have h2:(A2B (t+16+16*q) x.cells)[k]?=some none:=h2;rw[A8B h1] at h2;cases h2
  ·exact A6z t l (q+1) o h
theorem A3O(b:Nat):∀(l:List Cl),∀z∈(A0N l (A2B b l)).map Prod.fst,b<=z/\z<b+l.length
 | [],z,h=>by cases h
 | c::l,z,h=>by
  simp only[A2B,A0N,idB,wn,ym,uc,yv,xm,zh] at h;rcases h with rfl|h
  ·simp
  ·have:=A3O (b+1) l z h;simp only[yd];omega
theorem A6S(b:Nat):∀(l:List Cl),((A0N l (A2B b l)).map Prod.fst).Nodup
 | []=>qb
 | c::l=>by
  simp only[A2B,A0N,idB,wn,ym,uc,yv,xm,xc];refine⟨fun h=>?_,A6S (b+1) l⟩;have:=A3O (b+1) l b h;omega
theorem A70(t:Nat):∀(l:List Tg) (q:Nat),(∀x∈l,x.cells.length<=16)->∀z∈nmR (q9 t q l),(t+1+q<=z/\z<t+1+q+l.length)\/(t+16+16*q<=z/\z<t+16+16*(q+l.length))
 | [],_,_,z,h=>by cases h
 | x::l,q,h6,z,h=>by
  rw[q9,A50] at h;have hx:=h6 x (za ..);simp only[yd];rcases zo.1 h with h|h
  ·rcases zh.1 h with rfl|h
   ·left; simp only; omega
   ·have h:z∈(A0N x.cells (A2B (t+16+16*q) x.cells)).map Prod.fst:=h;have:=A3O _ _ z h;omega
  ·have:=A70 t l (q+1) (fun y hy=>h6 y (zb _ hy)) z h;omega
theorem B5e(t:Nat):∀(l:List Tg) (q:Nat),(∀x∈l,x.cells.length<=16)->q+l.length<=12->(nmR (q9 t q l)).Nodup
 | [],_,_,_=>qb
 | x::l,q,h6,h12=>by
  have hx:=h6 x (za ..);simp only[yd] at h12;rw[q9,A50,xt];refine⟨xc.2 ⟨fun h=>?_,A6S _ _⟩,B5e t l (q+1) (fun y hy=>h6 y (zb _ hy)) (by omega),fun a ha b hb=>?_⟩
  ·have h:t+1+q∈(A0N x.cells (A2B (t+16+16*q) x.cells)).map Prod.fst:=h;have:=A3O _ _ _ h;omega
  ·have hb:=A70 t l (q+1) (fun y hy=>h6 y (zb _ hy)) b hb;rcases zh.1 ha with rfl|h
   ·simp only; omega
   ·have h:a∈(A0N x.cells (A2B (t+16+16*q) x.cells)).map Prod.fst:=h;have:=A3O _ _ a h;omega
theorem B7K(t q:Nat)(l:List Cl):Z6 t q l l.length=List.zipWith M2 l (A2B (t+16+16*q) l):=by
 have:∀k,k<=l.length->Z6 t q l k=(List.zipWith M2 l (A2B (t+16+16*q) l)).take k:=fun k=>by
  induction k with
  | zero=>intro _; simp[Z6]
  | succ k ih =>
   intro h;have hc:l[k]?=some l[k]:=zc (by omega);rw[Z6,hc];simp only;rw[ih (by omega),vk,A6x hc (A8B hc)];rfl
 rw[this _ (ya _),zq];simp[A8C]
theorem A8D(t:Nat):∀{l:List Tg} {q i:Nat} {x:Tg},l[i]?=some x->(q9 t q l)[i]?=some ⟨x,t+1+(q+i),A2B (t+16+16*(q+i)) x.cells⟩
 | [],_,_,_,h=>by simp at h
 | x::l,q,0,y,h=>by simp only[yr,zd] at h; subst h; rfl
 | _::l,q,i+1,y,h=>by
  simp only[xn] at h;rw[q9,xn,A8D t h];have:q+1+i=q+(i+1):=by omega
  rw[this]
theorem B7L(t:Nat)(l:List Tg):P8 t l l.length=(q9 t 0 l).map W6:=by
 have:∀k,k<=l.length->P8 t l k=((q9 t 0 l).map W6).take k:=fun k=>by
  induction k with
  | zero=>intro _; simp[P8]
  | succ k ih =>
   intro h;have hc:l[k]?=some l[k]:=zc (by omega);rw[P8,hc];simp only;rw[ih (by omega),vk,yi,A8D t hc];simp[eTo,W6]
 rw[this _ (ya _),zq];simp[A2C]
theorem C25{t q:Nat}{l:List Cl}{k m:Nat}{c:Cl}(hc:l[m]?=some c)(h:m<k):(t+16+16*q+m,some (iBx c))∈A0w t q l k:=by
 induction k with
 | zero=>omega
 | succ k ih =>
  rw[A0w];by_cases hk:m=k
  ·subst hk; rw[hc]; exact za ..
  ·have:=ih (by omega);split
   ·exact zb _ this
   ·exact this
theorem B9Y{t:Nat}{l:List Tg}{i j:Nat}{x:Tg}(hx:l[j]?=some x)(h:j<i):(t+1+j,some (cBx t j x))∈M4 t l i/\∀p∈A0w t j x.cells x.cells.length,p∈M4 t l i:=by
 induction i with
 | zero=>omega
 | succ i ih =>
  rw[M4];by_cases hk:j=i
  ·subst hk; rw[hx]; exact⟨za ..,fun p hp=>zb _ (yp _ hp)⟩
  ·have:=ih (by omega);split
   ·exact⟨zb _ (yb _ this.1),fun p hp=>zb _ (yb _ (this.2 p hp))⟩
   ·exact this
theorem B2y{b:Nat}:∀{l:List Cl} {p:Nat×Bx},p∈A0N l (A2B b l)->∃k c,l[k]?=some c/\p=(b+k,iBx c)
 | [],p,h=>by cases h
 | c::l,p,h=>by
  simp only[A2B,A0N,idB,yv,xm,zh] at h;rcases h with rfl|h
  ·exact⟨0,c,rfl,rfl⟩
  ·obtain⟨k,d,h1,rfl⟩:=B2y h;exact⟨k+1,d,h1,by rw[yq,qh 1 k]⟩
theorem C26{t:Nat}{l:List Tg}{o:H1}(h:o∈q9 t 0 l):∃i x,l[i]?=some x/\o=⟨x,t+1+i,A2B (t+16+16*i) x.cells⟩:=by
 obtain⟨i,hi⟩:=ye.1 h;have hl:i<l.length:=by have:=(ze.1 hi).1; rwa [A2C] at this
 have hx:l[i]?=some l[i]:=zc hl;rw[A8D t hx] at hi;injection hi with hi
 exact⟨i,_,hx,by rw[←hi,yy]⟩
theorem B4U{t:Nat}{l:List Tg}{q:Nat×Bx}(h:q∈r9 t (q9 t 0 l)):(q.1,some q.2)∈(t,some (⟨P8 t l l.length,zT,false,false⟩:Bx))::M4 t l l.length:=by
 rcases zh.1 h with rfl|h
 ·rw[B7L]; exact za ..
 ·refine zb _ ?_;obtain⟨o,ho,hq⟩:=xy.1 h;obtain⟨i,x,hx,rfl⟩:=C26 ho;have hin:=B9Y (t:=t) hx (ze.1 hx).1;rcases zh.1 hq with rfl|hq
  ·have:=hin.1;rw[cBx,B7K] at this;exact this
  ·obtain⟨k,c,hc,rfl⟩:=B2y hq;exact hin.2 _ (C25 hc (ze.1 hc).1)
theorem B4V{t:Nat}{l:List Tg}(h6:∀x∈l,x.cells.length<=16)(h12:l.length<=12):(d0 t (q9 t 0 l)).Nodup:=by
 refine xc.2 ⟨fun h=>?_,B5e t l 0 h6 (by omega)⟩;have:=A70 t l 0 h6 t h;omega
theorem A5w{t:Nat}{l:List Tg}(h6:∀x∈l,x.cells.length<=16)(h12:l.length<=12):∀z∈d0 t (q9 t 0 l),t<=z/\z<t+1000:=fun z h=>by
 rcases zh.1 h with rfl|h
 ·omega
 ·have:=A70 t l 0 h6 z h;omega
theorem A3P(t:Nat)(s:H0):A6 s.types (q9 t 0 s.things)=s:=by simp[A6,B9X]
theorem B14{s:H0}(h:fSt s=0):StR s/\Srt s.things/\Q7 (fun f c=>!c.ids.any fun x=>!K8 s f x) s.types s.things=true:=by
 unfold fSt at h;split at h
 ·rename_i h1; exact (h1 h).elim
 ·rename_i h1;have h1:J2 s.types=0:=by omega
  split at h
  ·omega
  ·rename_i h2;split at h
   ·rename_i h3; exact (h3 h).elim
   ·rename_i h3;have h3:D9 (fun i t=>A0v s i t) s.things 0=0:=(by omega);obtain⟨g1,g2⟩:=C3q (A6P h1) h3;refine⟨⟨A6P h1,by omega,g1⟩,g2,?_⟩;split at h
    ·assumption
    ·omega
theorem B5f(f:Nat->Int)(n:Nat)(hm:∀k m,k<=m->m<n->f m<0->f k<0):∀a b,a<=b->b<=n->(∀k,k<a->f k<0)->(∀k,b<=k->k<n->¬f k<0)->(∀k,k<bs f a b->f k<0)/\(∀k,bs f a b<=k->k<n->¬f k<0):=fun a b=>by
 fun_induction bs f a b with
 | case1 i j h hf ih =>
  intro h1 h2 h3 h4;exact ih (by omega) h2 (fun k hk=>hm k ((i+j) / 2) (by omega) (by omega) hf) h4
 | case2 i j h hf ih =>
  intro h1 h2 h3 h4;refine ih (by omega) (by omega) h3 fun k hk hkn h5=>hf (hm _ k hk hkn h5)
 | case3 i j h =>
  intro h1 h2 h3 h4;exact⟨h3,fun k hk=>h4 k (by omega)⟩
abbrev tLt(a b:Tg):Prop:=W4 a.type a.id b.type b.id=true
theorem Srt.pw{l:List Tg}(h:Srt l):l.Pairwise tLt:=by
 rw[wu];exact fun i j hi hj hij=>h.asc i j _ _ hij (zc hi) (zc hj)
theorem C2q{l:List Tg}(h1:∀t∈l,0<=t.type/\t.type<=1000)(h2:∀t∈l,1<=t.id/\t.id<=999)(h:l.Pairwise tLt):Srt l:=by
 refine⟨h1,h2,fun i j a b hij ha hb=>?_⟩;rw[wu] at h;obtain⟨hi,rfl⟩:=ze.1 ha;obtain⟨hj,rfl⟩:=ze.1 hb;exact h i j hi hj hij
theorem A55{α:Type}{l:List α}{i:Nat}{x:α}(h:x∈l.take i):∃j,j<i/\l[j]?=some x:=by
 obtain⟨j,hj⟩:=ye.1 h;rw[zy] at hj;split at hj
 ·exact⟨j,by assumption,hj⟩
 ·cases hj
theorem A56{α:Type}{l:List α}{i:Nat}{x:α}(h:x∈l.drop i):∃j,i<=j/\l[j]?=some x:=by
 obtain⟨j,hj⟩:=ye.1 h;rw[yc] at hj;exact⟨i+j,by omega,hj⟩
section
variable {l:List Tg} (hl:Srt l) {kind tid:Int} (h2:0<=kind/\kind<=1000) (h4:1<=tid/\tid<=999)
include hl h2 h4
theorem Srt.part:(∀t∈l.take (B9 l kind tid),W4 t.type t.id kind tid=true)/\(∀t∈l.drop (B9 l kind tid),W4 t.type t.id kind tid=false):=by
 have hb:=B5f (I5 l kind tid) l.length (fun k m hkm hm hf=>by
  obtain⟨a,ha⟩:∃a,l[k]?=some a:=⟨_,zc (by omega)⟩;obtain⟨b,hb⟩:∃b,l[m]?=some b:=⟨_,zc (by omega)⟩;have ham:=zg ha;have hbm:=zg hb;simp only[I5,hb] at hf;simp only[I5,ha];rw[Y0 (hl.ty b hbm) h2 (hl.id b hbm) h4] at hf;rw[Y0 (hl.ty a ham) h2 (hl.id a ham) h4];rcases yh k m with h|h
  ·exact A6R (hl.asc k m a b h ha hb) hf
  ·obtain rfl:k=m:=by omega
   rw[ha] at hb; injection hb with hb; subst hb; exact hf) 0 l.length (by omega) (by omega) (by omega) (by omega)
 refine⟨fun t ht=>?_,fun t ht=>?_⟩
 ·obtain⟨j,hj,hjt⟩:=A55 ht;have:=hb.1 j hj;have htm:=zg hjt;simp only[I5,hjt] at this
  rwa [Y0 (hl.ty t htm) h2 (hl.id t htm) h4] at this
 ·obtain⟨j,hj,hjt⟩:=A56 ht;have:=hb.2 j hj (ze.1 hjt).1;have htm:=zg hjt;simp only[I5,hjt] at this;rw[Y0 (hl.ty t htm) h2 (hl.id t htm) h4] at this;simpa using this
theorem Srt.notThere(h:E9 l kind tid=false):∀t∈l,¬(t.type=kind/\t.id=tid):=by
 rw[hl.findB (by omega) (by unfold I64; omega)] at h;intro t ht ⟨e1,e2⟩;have:l.any (B7H kind tid)=true:=vg.2 ⟨t,ht,by simp[B7H,e1,e2]⟩;rw[h] at this; cases this
theorem Srt.insert(h:E9 l kind tid=false){x:Tg}(hx:x.type=kind/\x.id=tid):Srt (l.take (B9 l kind tid)++x::l.drop (B9 l kind tid)):=by
 obtain⟨p1,p2⟩:=hl.part h2 h4;have hno:=hl.notThere h2 h4 h;have hm:∀t∈l.take (B9 l kind tid)++x::l.drop (B9 l kind tid),t∈l\/t=x:=fun t ht=>by
  rcases zo.1 ht with ht|ht
  ·exact .inl (xh ht)
  ·rcases zh.1 ht with ht|ht
   ·exact .inr ht
   ·exact .inl (xf ht)
 have hpw:=hl.pw;have hsp:l.Pairwise tLt:=hpw;rw[←yx (B9 l kind tid) l,uk] at hsp;refine C2q (fun t ht=>?_) (fun t ht=>?_) (uk.2 ⟨hsp.1,ti.2 ⟨fun b hb=>?_,hsp.2.1⟩,fun a ha b hb=>?_⟩)
 ·rcases hm t ht with h|rfl
  ·exact hl.ty t h
  ·omega
 ·rcases hm t ht with h|rfl
  ·exact hl.id t h
  ·omega
 ·have h5:=p2 b hb;have h6:=hno b (xf hb);show W4 _ _ _ _=true;rw[hx.1,hx.2];simp[W4] at h5 ⊢;omega
 ·rcases zh.1 hb with rfl|hb
  ·show W4 _ _ _ _=true;rw[hx.1,hx.2]; exact p1 a ha
  ·exact hsp.2.2 a ha b hb
theorem Srt.thereAt(h:E9 l kind tid=true):∃t,l[B9 l kind tid]?=some t/\t.type=kind/\t.id=tid:=by
 simp only[E9,yg,decide_eq_true_eq] at h;obtain⟨hlt,hz⟩:=h;obtain⟨u,hu⟩:∃u,l[B9 l kind tid]?=some u:=⟨_,zc hlt⟩;have hum:=zg hu;simp only[I5,hu] at hz;rw[A52 (hl.ty u hum) (by omega) (hl.id u hum) (by unfold I64; omega)] at hz;exact⟨u,hu,hz⟩
end
theorem Srt.sub{l l':List Tg}(h:Srt l)(hs:l'.Sublist l):Srt l' :=
 C2q (fun t ht=>h.ty t (hs.subset ht)) (fun t ht=>h.id t (hs.subset ht)) (h.pw.sublist hs)
theorem B5g{α:Type}(l:List α)(i:Nat):(l.take i++l.drop (i+1)).Sublist l:=by
 conv=>rhs; rw[←yx i l]
 refine (List.Sublist.refl _).append ?_;rw[←List.tail_drop];exact List.tail_sublist _
theorem Srt.key{l l':List Tg}(hl:Srt l)(h:l.map (fun t=>(t.type,t.id))=l'.map (fun t=>(t.type,t.id))):Srt l':=by
 have hg:∀(k:Nat) t,l'[k]?=some t->∃u,l[k]?=some u/\u.type=t.type/\u.id=t.id:=fun k t hk=>by
  have:(l.map (fun t=>(t.type,t.id)))[k]?=(l'.map (fun t=>(t.type,t.id)))[k]?:=by rw[h]
  rw[yi,yi,hk] at this;cases h1:l[k]?<;>simp[h1] at this
  exact⟨_,rfl,this.1,this.2⟩
 refine⟨fun t ht=>?_,fun t ht=>?_,fun i j a b hij ha hb=>?_⟩
 ·obtain⟨k,hk⟩:=ye.1 ht;obtain⟨u,hu,e1,e2⟩:=hg k t hk;rw[←e1]; exact hl.ty u (zg hu)
 ·obtain⟨k,hk⟩:=ye.1 ht;obtain⟨u,hu,e1,e2⟩:=hg k t hk;rw[←e2]; exact hl.id u (zg hu)
 ·obtain⟨u,hu,e1,e2⟩:=hg i a ha;obtain⟨v,hv,e3,e4⟩:=hg j b hb;rw[←e1,←e2,←e3,←e4];exact hl.asc i j u v hij hu hv
/-! Numbers in order. -/
theorem A71:∀{l:List Int},A41 l=true↔l.Pairwise (· < ·)
 | []=>by simp[A41]
 | [a]=>by simp[A41]
 | a::b::r=>by
  have ih:=A71 (l:=b::r);simp only[A41,yg,decide_eq_true_eq];rw[ih,ti (a:=a)];constructor
  ·rintro⟨h1,h2⟩;refine⟨fun x hx=>?_,h2⟩;rcases zh.1 hx with rfl|hx
   ·exact h1
   ·have:=(ti.1 h2).1 x hx;omega
  ·rintro⟨h1,h2⟩;exact⟨h1 b (za ..),h2⟩
section
variable {l:List Int} (hl:l.Pairwise (· < ·))
include hl
theorem C3r(x:Int):(∀y∈l.take (J9 l x),y<x)/\(∀y∈l.drop (J9 l x),x<=y):=by
 have hb:=B5f (fLt l x) l.length (fun k m hkm hm hf=>by
  obtain⟨a,ha⟩:∃a,l[k]?=some a:=⟨_,zc (by omega)⟩;obtain⟨b,hb⟩:∃b,l[m]?=some b:=⟨_,zc (by omega)⟩;simp only[fLt,hb] at hf;simp only[fLt,ha];rcases yh k m with h|h
  ·rw[wu] at hl;have:=hl k m (by omega) hm h;rw[zc (by omega)] at ha hb;injection ha with ha; injection hb with hb
   omega
  ·obtain rfl:k=m:=by omega
   rw[ha] at hb; injection hb with hb; subst hb; exact hf) 0 l.length (by omega) (by omega) (by omega) (by omega)
 refine⟨fun t ht=>?_,fun t ht=>?_⟩
 ·obtain⟨j,hj,hjt⟩:=A55 ht;have:=hb.1 j hj;simp only[fLt,hjt] at this;omega
 ·obtain⟨j,hj,hjt⟩:=A56 ht;have:=hb.2 j hj (ze.1 hjt).1;simp only[fLt,hjt] at this;omega
theorem C27{j:Nat}{x:Int}(h:l[j]?=some x):J9 l x=j:=by
 have hlt:=(ze.1 h).1;unfold J9;refine A6y _ j (l.length+1) 0 l.length (by omega) (by omega) (by omega) (fun k _ hk=>?_) (fun k hk hkl=>?_)
 ·have:=(wu.1 hl) k j (by omega) hlt hk;rw[zc hlt] at h;injection h with h
  simp only[fLt,zc (show k<l.length by omega)];omega
 ·rw[zc hlt] at h;injection h with h
  simp only[fLt,zc hkl];rcases yh j k with hjk|hjk
  ·have:=(wu.1 hl) j k hlt hkl hjk;omega
  ·obtain rfl:k=j:=by omega
   omega
theorem C28(x:Int):T5 l x=true↔x∈l:=by
 constructor
 ·intro h;simp only[T5,yg,decide_eq_true_eq] at h;obtain⟨h1,h2⟩:=h;obtain⟨a,ha⟩:∃a,l[J9 l x]?=some a:=⟨_,zc h1⟩;simp only[fLt,ha] at h2;have:a=x:=by omega
  subst this;exact zg ha
 ·intro h;obtain⟨j,hj⟩:=ye.1 h;have:=C27 hl hj;simp only[T5,this,yg,decide_eq_true_eq,fLt,hj];exact⟨(ze.1 hj).1,by omega⟩
theorem B9Z{x:Int}(h:T5 l x=false):(l.take (J9 l x)++x::l.drop (J9 l x)).Pairwise (· < ·):=by
 obtain⟨p1,p2⟩:=C3r hl x;have hn:x∉l:=fun hm=>by rw[(C28 hl x).2 hm] at h; cases h
 have hsp:=hl;rw[←yx (J9 l x) l,uk] at hsp;refine uk.2 ⟨hsp.1,ti.2 ⟨fun b hb=>?_,hsp.2.1⟩,fun a ha b hb=>?_⟩
 ·have:=p2 b hb;have:x≠b:=fun e=>hn (e▸xf hb);omega
 ·rcases zh.1 hb with rfl|hb
  ·exact p1 a ha
  ·exact hsp.2.2 a ha b hb
end
theorem B5h{f:Fd}{c:Cl}(h:B71 f c):A1Y f c=0:=by
 unfold A1Y;rw[zf (by
  rintro (⟨h1,h2⟩|⟨h1,h2⟩|⟨h1,h2⟩)
  ·exact h2 (h.n0 h1)
  ·exact h2 (h.t0 h1)
  ·exact h2 (h.i0 h1)),zf (by have:=h.n1; omega),zf (by
  have:=h.t1;have:=h.i1;have:=h.i3;unfold A46;split<;>omega),zj h.asc]
theorem A4R{α:Type}(f:Nat->α->Int):∀(l:List α) (i:Nat),(∀k x,l[k]?=some x->f (i+k) x=0)->D9 f l i=0
 | [],i,_=>rfl
 | y::r,i,h=>by
  simp only[D9];have h0:=h 0 y rfl;rw[zf (by simpa using h0)];exact A4R f r (i+1) fun k x hk=>by have:=h (k+1) x (by simpa using hk); rwa [show i+(k+1)=i+1+k by omega] at this
theorem C29{s:H0}{t:Tg}(h:A4O s t):X8 s.types t=0:=by
 unfold X8;have h1:=h.ty0;have h2:=h.ty1;have h3:=h.id1;have h4:=h.id2;rw[zf (by omega),zf (by omega),zf (by rw[h.len]; omega)];exact A4R _ _ _ fun k c hc=>by rw[yy]; exact h.cell k c hc
theorem A8E{p:Fd->Cl->Bool}:∀{fs:List Fd} {cs:List Cl},t6 p fs cs=true↔∀(k:Nat) f c,fs[k]?=some f->cs[k]?=some c->p f c=true
 | [],cs=>by simp[t6]
 | f::fs,[]=>by simp[t6]
 | f::fs,c::cs=>by
  rw[t6,yg,A8E];constructor
  ·rintro⟨h1,h2⟩ k f' c' hf hc;cases k with
   | zero=>simp at hf hc; subst hf hc; exact h1
   | succ k=>exact h2 k f' c' (by simpa using hf) (by simpa using hc)
  ·intro h;exact⟨h 0 f c rfl rfl,fun k f' c' hf hc=>h (k+1) f' c' (by simpa using hf) (by simpa using hc)⟩
theorem A5x{p:Fd->Cl->Bool}{l:List Ty}{ts:List Tg}:Q7 p l ts=true↔∀t∈ts,∀(k:Nat) f c,(C8 l t.type)[k]?=some f->t.cells[k]?=some c->p f c=true:=by
 simp only[Q7,xd,A8E]
structure Rt(s:H0):Prop where
 chk:J2 s.types=0
 r:StR s
 srt:Srt s.things
 lnk:∀t∈s.things,∀(k:Nat) f c,(C8 s.types t.type)[k]?=some f->t.cells[k]?=some c->∀x∈c.ids,∃u∈s.things,u.type=C3 s.types f.of/\u.id=x
def B4W(s:H0):Prop:=∀t∈s.things,∀c∈t.cells,∀x∈c.ids,I64 x
theorem A3Q{s:H0}(hS:A6O s.types)(hl:Srt s.things){f:Fd}{x:Int}(hx:I64 x):K8 s f x=true↔∃u∈s.things,u.type=C3 s.types f.of/\u.id=x:=by
 unfold K8;rw[hl.findB (B7J hS _) hx,vg];simp[B7H]
theorem Rt.idsI{s:H0}(h:Rt s):B4W s:=fun t ht c hc x hx=>by
 obtain⟨k,hk⟩:=ye.1 hc;obtain⟨f,hf,_⟩:=(h.r.tg t ht).cellOk hk;obtain⟨u,hu,_,rfl⟩:=h.lnk t ht k f c hf hk x hx;have:=h.srt.id u hu;unfold I64; omega
theorem C2r{s:H0}(h:fSt s=0)(hI:B4W s):Rt s:=by
 obtain⟨h1,h2,h3⟩:=B14 h;have hc:J2 s.types=0:=by
  unfold fSt at h;split at h
  ·rename_i g; exact (g h).elim
  ·rename_i g; exact zl g
 refine⟨hc,h1,h2,fun t ht k f c hf hk x hx=>?_⟩;have:=A5x.1 h3 t ht k f c hf hk;simp only[wt,tj] at this;have:=this x hx;rw[←A3Q h1.sch h2 (hI t ht c (zg hk) x hx)];simpa using this
theorem Rt.st{s:H0}(h:Rt s):fSt s=0:=by
 have hI:=h.idsI;unfold fSt;have h12:=h.r.len;have h1:D9 (fun i t=>A0v s i t) s.things 0=0:=A4R _ _ _ fun k t hk=>by
  have htm:=zg hk;rw[yy];unfold A0v;rw[zf (by rw[C29 (h.r.tg t htm)]; omega),zf];rintro⟨h2,h3⟩;obtain⟨u,hu⟩:∃u,s.things[k - 1]?=some u:=⟨_,zc (by have:=(ze.1 hk).1; omega)⟩;have hum:=zg hu;simp only[I5,hu] at h3;have h4:=h.srt.asc (k - 1) k u t (by omega) hu hk;rw[←Y0 (h.srt.ty u hum) (h.srt.ty t htm) (h.srt.id u hum) (h.srt.id t htm)] at h4;omega
 rw[zf (by rw[h.chk]; omega),zf (by omega),zf (by rw[h1]; omega),zj];rw[A5x];intro t ht k f c hf hk;simp only[wt,tj];intro x hx;rw[(A3Q h.r.sch h.srt (hI t ht c (zg hk) x hx)).2 (h.lnk t ht k f c hf hk x hx)];simp
/-! Events. -/
theorem B7M{l:List Ty}{ts:List Tg}{e:Ev}:Q7 (S1 l e) l ts=true↔∀t∈ts,∀(k:Nat) f c,(C8 l t.type)[k]?=some f->t.cells[k]?=some c->R8 f.kind=true->C3 l f.of=e.type->e.id∉c.ids:=by
 rw[A5x];constructor
 ·intro h t ht k f c hf hc hk ho hm;have:=h t ht k f c hf hc;simp only[S1,hk,ho,B73,ud,wt,beq_eq_false_iff_ne,tj] at this;rcases this with (h1|h1)|h1
  ·cases h1
  ·exact h1 rfl
  ·exact h1 _ hm (by simp)
 ·intro h t ht k f c hf hc;have:=h t ht k f c hf hc;simp only[S1,B73,ud,wt,beq_eq_false_iff_ne,tj];by_cases h1:R8 f.kind=true
  ·by_cases h2:C3 l f.of=e.type
   ·right
    have:=this h1 h2;intro x hx he;simp at he;exact this (he▸hx)
   ·left; right; exact h2
  ·left; left; simpa using h1
theorem B4X{s:H0}{k:Int}{j:Nat}{f:Fd}(hS:A6O s.types)(h:(C8 s.types k)[j]?=some f):1<=f.kind/\f.kind<=4:=by
 unfold C8 at h;cases hk:s.types[k.toNat]? with
 | none=>simp[hk] at h
 | some ty =>
  simp[hk] at h;exact hS.kinds ty (zg hk) f (zg h)
structure C3s(s:H0)(e:Ev):Prop where
 form:U1 e=0
 ty0:0<=e.type
 ty1:e.type.toNat<s.types.length
 ty2:e.type<=1000
 id1:1<=e.id
 id2:e.id<=999
 k1:1<=e.kind
 k2:e.kind<=6
 don:doE s e=0
theorem C57{s:H0}(h:Rt s){e:Ev}(he:U6 s e=0):C3s s e:=by
 unfold U6 at he;by_cases h0:X9 s.types e=0
 ·rw[zf (by simpa using h0)] at he;obtain⟨a1,a2,a3,a4,a5,a6,a7⟩:=A07 h0;have:=h.r.sch.len;exact⟨a1,a2,by omega,by omega,a4,a5,a6,a7,he⟩
 ·rw[zj h0] at he; exact (h0 he).elim
structure C6D(s:H0)(e:Ev)(t:Tg)(f:Fd)(c:Cl):Prop where
 tt:s.things[H2 s e]?=some t
 ty:t.type=e.type
 idn:t.id=e.id
 f0:0<=e.field
 ff:(C8 s.types e.type)[e.field.toNat]?=some f
 cc:t.cells[e.field.toNat]?=some c
 fits:L0 e.kind f=true
 che:W3 s f c e=0
 st:A06 s e=A5t s (H2 s e) e.field.toNat (u6 f c e)
theorem A8F{s:H0}{e:Ev}(he:C3s s e)(hk:e.kind≠1):A1q s e=true:=by
 have hd:=he.don;unfold doE at hd;rw[zf hk] at hd;by_cases b:A1q s e=false
 ·rw[zj b] at hd; omega
 ·simpa using b
theorem C58{s:H0}(h:Rt s){e:Ev}(he:C3s s e)(hk:3<=e.kind):∃t f c,C6D s e t f c:=by
 have hb:=A8F he (by omega);obtain⟨t,ht,e1,e2⟩:=h.srt.thereAt ⟨he.ty0,he.ty2⟩ ⟨he.id1,he.id2⟩ hb;have hd:=he.don;unfold doE at hd;rw[zf (by omega),zf (by simp[hb]),zf (by omega)] at hd;unfold chE at hd;have ht':s.things[H2 s e]?=some t:=ht;split at hd
 ·rename_i f c hf hc;by_cases hkf:L0 e.kind f=true
  ·rw[zj hkf] at hd;have hst:A06 s e=A5t s (H2 s e) e.field.toNat (u6 f c e):=by
    unfold A06;rw[zf (by omega),zf (by omega),hf,hc]
   unfold A0e at hf;by_cases h0:e.field<0
   ·rw[zj h0] at hf; cases hf
   rw[zf h0] at hf;unfold A53 at hc;rw[ht'] at hc;exact⟨t,f,c,ht',e1,e2,by omega,hf,hc,hkf,hd,hst⟩
  ·rw[zf hkf] at hd; omega
 ·omega
theorem C2A{s:H0}{i k:Nat}{t:Tg}{c:Cl}(h:s.things[i]?=some t):A5t s i k c=⟨s.types,s.things.set i ⟨t.type,t.id,t.cells.set k c⟩⟩:=by unfold A5t; rw[h]
theorem B9a{s:H0}{i k:Nat}{c:Cl}:s.things.map (fun t=>(t.type,t.id))=(A5t s i k c).things.map (fun t=>(t.type,t.id)):=by
 unfold A5t;cases h:s.things[i]? with
 | none=>rfl
 | some t =>
  simp only[tq];refine (B9W ?_).symm;rw[yi,h]; rfl
theorem C2B{l l':List Tg}(h:l.map (fun t=>(t.type,t.id))=l'.map (fun t=>(t.type,t.id))){u:Tg}(hu:u∈l):∃v∈l',v.type=u.type/\v.id=u.id:=by
 have:(u.type,u.id)∈l.map (fun t=>(t.type,t.id)):=zu.2 ⟨u,hu,rfl⟩;rw[h] at this;obtain⟨v,hv,e⟩:=zu.1 this;injection e with e1 e2
 exact⟨v,hv,e1,e2⟩
theorem C2C{s:H0}(h:Rt s){e:Ev}(hn:I64 e.n)(hk:3<=e.kind/\e.kind<=6){f:Fd}{c:Cl}(hf:1<=f.kind/\f.kind<=4)(hc:B71 f c)(hfit:L0 e.kind f=true)(he:W3 s f c e=0):
  B71 f (u6 f c e)/\∀x∈(u6 f c e).ids,x∈c.ids\/∃u∈s.things,u.type=C3 s.types f.of/\u.id=x:=by
 have hpw:=A71.1 hc.asc;unfold W3 at he;unfold L0 at hfit;unfold u6;by_cases k3:e.kind=3
 ·rw[zj k3] at he hfit ⊢;simp only[decide_eq_true_eq] at hfit;split at he
  ·exact⟨⟨(fun hh=>(hh hfit).elim),hc.t0,hc.i0,by assumption,hc.t1,hc.i1,hc.i3,hc.asc⟩,fun x hx=>.inl hx⟩
  ·omega
 rw[zf k3] at he hfit ⊢;by_cases k4:e.kind=4
 ·rw[zj k4] at he hfit ⊢;simp only[decide_eq_true_eq] at hfit;split at he
  ·omega
  ·exact⟨⟨hc.n0,(fun hh=>(hh hfit).elim),hc.i0,hc.n1,by simp only; omega,hc.i1,hc.i3,hc.asc⟩,fun x hx=>.inl hx⟩
 rw[zf k4] at he hfit ⊢;by_cases k5:e.kind=5
 ·rw[zj k5] at he ⊢;unfold T7 at he;by_cases ht:K8 s f e.n=false
  ·rw[zj ht] at he; omega
  rw[zf ht] at he;have ht:K8 s f e.n=true:=by simpa using ht
  have hu:=(A3Q h.r.sch h.srt hn).1 ht;by_cases hb:T5 c.ids e.n=true
  ·rw[zj hb] at he; omega
  rw[zf hb] at he;have hb:T5 c.ids e.n=false:=by simpa using hb
  unfold U2;by_cases g3:f.kind=3
  ·rw[zj g3];refine⟨⟨hc.n0,hc.t0,(fun hh=>by rw[hfit] at hh; cases hh),hc.n1,hc.t1,by simp,fun _=>by simp,rfl⟩,fun x hx=>.inr ?_⟩;simp at hx;subst hx;exact hu
  ·rw[zf g3] at he ⊢;have h6:=hc.i1;refine⟨⟨hc.n0,hc.t0,(fun hh=>by rw[hfit] at hh; cases hh),hc.n1,hc.t1,?_,fun hh=>(g3 hh).elim,A71.2 (B9Z hpw hb)⟩,fun x hx=>?_⟩
   ·have:c.ids.length≠6:=fun hh=>by rw[zj hh] at he; omega
    simp only[yl,zw,yd,zx];omega
   ·rcases zo.1 hx with hx|hx
    ·exact .inl (xh hx)
    ·rcases zh.1 hx with rfl|hx
     ·exact .inr hu
     ·exact .inl (xf hx)
 ·rw[zf k5] at he ⊢;have hsub:(B11 c e.n).Sublist c.ids:=B5g _ _;have hle:=hsub.length_le;refine⟨⟨hc.n0,hc.t0,(fun hh=>by rw[hfit] at hh; cases hh),hc.n1,hc.t1,by have:=hc.i1; simp only; omega,fun hh=>by have:=hc.i3 hh; simp only; omega,A71.2 (hpw.sublist hsub)⟩,fun x hx=>.inl (hsub.subset hx)⟩
theorem A4S{s s':H0}(h:s'.types=s.types){t:Tg}(ht:A4O s t):A4O s' t:=by
 refine⟨ht.ty0,by rw[h]; exact ht.ty1,ht.id1,ht.id2,by rw[h]; exact ht.len,by rw[h]; exact ht.cell⟩
theorem C3t(f:Fd):B71 f cl0:=by
 refine⟨fun _=>rfl,fun _=>rfl,fun _=>rfl,?_,?_,?_,fun _=>?_,rfl⟩<;>simp[cl0]
theorem B4Y{s:H0}(h:Rt s){e:Ev}(hn:I64 e.n)(he:U6 s e=0):Rt (A06 s e)/\(A06 s e).types=s.types:=by
 have ho:=C57 h he;have h2:0<=e.type/\e.type<=1000:=⟨ho.ty0,ho.ty2⟩;have h4:1<=e.id/\e.id<=999:=⟨ho.id1,ho.id2⟩;have hd:=ho.don;by_cases k1:e.kind=1
 ·unfold doE at hd;rw[zj k1] at hd;by_cases b:A1q s e=true
  ·rw[zj b] at hd; omega
  rw[zf b] at hd;by_cases b2:s.things.length=12
  ·rw[zj b2] at hd; omega
  have hb:E9 s.things e.type e.id=false:=eq_false_of_ne_true b;have hS:A06 s e=⟨s.types,s.things.take (H2 s e)++⟨e.type,e.id,List.replicate (C8 s.types e.type).length cl0⟩::s.things.drop (H2 s e)⟩:=by unfold A06; rw[zj k1]
  rw[hS];have hm:∀t∈s.things.take (H2 s e)++⟨e.type,e.id,List.replicate (C8 s.types e.type).length cl0⟩::s.things.drop (H2 s e),t∈s.things\/t=⟨e.type,e.id,List.replicate (C8 s.types e.type).length cl0⟩:=fun t ht=>by
   rcases zo.1 ht with ht|ht
   ·exact .inl (xh ht)
   ·rcases zh.1 ht with ht|ht
    ·exact .inr ht
    ·exact .inl (xf ht)
  have hm':∀t∈s.things,t∈s.things.take (H2 s e)++⟨e.type,e.id,List.replicate (C8 s.types e.type).length cl0⟩::s.things.drop (H2 s e):=fun t ht=>by
   rw[←yx (H2 s e) s.things] at ht;rcases zo.1 ht with ht|ht
   ·exact yp _ ht
   ·exact yb _ (zb _ ht)
  refine⟨⟨h.chk,⟨h.r.sch,?_,fun t ht=>?_⟩,h.srt.insert h2 h4 hb ⟨rfl,rfl⟩,fun t ht k f c hf hc x hx=>?_⟩,rfl⟩
  ·have:=h.r.len;have:=B5a s.things e.type e.id;simp only[yl,zw,yd,zx];unfold H2;omega
  ·rcases hm t ht with ht|rfl
   ·exact A4S (s:=s) (by rfl) (h.r.tg t ht)
   ·refine⟨ho.ty0,ho.ty1,ho.id1,ho.id2,by simp,fun k c hc=>?_⟩;simp only[wz] at hc;split at hc
    ·injection hc with hc
     subst hc;unfold s9;split
     ·exact B5h (C3t _)
     ·rfl
    ·cases hc
  ·rcases hm t ht with ht|rfl
   ·obtain⟨u,hu,e1,e2⟩:=h.lnk t ht k f c hf hc x hx;exact⟨u,hm' u hu,e1,e2⟩
   ·simp only[wz] at hc;split at hc
    ·injection hc with hc
     subst hc;simp[cl0] at hx
    ·cases hc
 have hb:=A8F ho k1;by_cases k2:e.kind=2
 ·obtain⟨t0,ht0,e1,e2⟩:=h.srt.thereAt h2 h4 hb;have ht0':s.things[H2 s e]?=some t0:=ht0;unfold doE at hd;rw[zf k1,zf (by simp[hb]),zj k2] at hd;by_cases m:Q7 (S1 s.types e) s.types s.things=false
  ·rw[zj m] at hd; omega
  have m:Q7 (S1 s.types e) s.types s.things=true:=by simpa using m
  rw[B7M] at m;have hS:A06 s e=⟨s.types,s.things.take (H2 s e)++s.things.drop (H2 s e+1)⟩:=by unfold A06; rw[zf k1,zj k2]
  rw[hS];have hsub:(s.things.take (H2 s e)++s.things.drop (H2 s e+1)).Sublist s.things:=B5g _ _;refine⟨⟨h.chk,⟨h.r.sch,by have:=hsub.length_le; have:=h.r.len; simp only; omega,fun t ht=>A4S (s:=s) (by rfl) (h.r.tg t (hsub.subset ht))⟩,h.srt.sub hsub,fun t ht k f c hf hc x hx=>?_⟩,rfl⟩;have htm:=hsub.subset ht;obtain⟨u,hu,e3,e4⟩:=h.lnk t htm k f c hf hc x hx;refine⟨u,?_,e3,e4⟩;have hs:=A3N ht0';rw[hs] at hu;rcases zo.1 hu with hu|hu
  ·exact yp _ hu
  ·rcases zh.1 hu with rfl|hu
   ·exfalso;obtain⟨f',hf',hco⟩:=(h.r.tg t htm).cellOk hc;have hf:(C8 s.types t.type)[k]?=some f:=hf;rw[hf] at hf'; injection hf' with hf'; subst hf'
    have hlk:R8 f.kind=true:=by
     cases hh:R8 f.kind with
     | true=>rfl
     | false=>rw[hco.i0 hh] at hx; cases hx
    exact m t htm k f c hf hc hlk (by rw[←e1]; exact e3.symm) (by rw[←e2,e4]; exact hx)
   ·exact yb _ hu
 ·have hk3:3<=e.kind:=by have:=ho.k1; omega
  obtain⟨t,f,c,hh⟩:=C58 h ho hk3;rw[hh.st];have htm:=zg hh.tt;have htg:=h.r.tg t htm;obtain⟨f',hf',hco⟩:=htg.cellOk hh.cc;have hff:=hh.ff;rw[←hh.ty,hf'] at hff;injection hff with hff
  subst hff;obtain⟨g1,g2⟩:=C2C h hn ⟨hk3,ho.k2⟩ (B4X h.r.sch hf') hco hh.fits hh.che;have hkey:=B9a (s:=s) (i:=H2 s e) (k:=e.field.toNat) (c:=u6 f' c e);have heq:=C2A (k:=e.field.toNat) (c:=u6 f' c e) hh.tt;have hmem:∀x∈(A5t s (H2 s e) e.field.toNat (u6 f' c e)).things,x∈s.things\/x=⟨t.type,t.id,t.cells.set e.field.toNat (u6 f' c e)⟩:=fun x hx=>by
   rw[heq] at hx;exact vj hx
  refine⟨⟨h.chk,⟨h.r.sch,by rw[heq]; simpa using h.r.len,fun x hx=>?_⟩,h.srt.key hkey,fun x hx k f c2 hf hc y hy=>?_⟩,rfl⟩
  ·rcases hmem x hx with hx|rfl
   ·exact A4S (s:=s) (by rfl) (h.r.tg x hx)
   ·refine⟨htg.ty0,htg.ty1,htg.id1,htg.id2,by rw[List.length_set]; exact htg.len,fun k c2 hc2=>?_⟩;simp only[ug] at hc2;by_cases hk:e.field.toNat=k
    ·subst hk;rw[zj rfl] at hc2;split at hc2
     ·injection hc2 with hc2
      subst hc2;show s9 (C8 s.types t.type) _ _=0;unfold s9;rw[hf'];exact B5h g1
     ·cases hc2
    ·rw[zf hk] at hc2;exact htg.cell k c2 hc2
  ·have key:(∃u∈s.things,u.type=C3 s.types f.of/\u.id=y)->∃u∈(A5t s (H2 s e) e.field.toNat (u6 f' c e)).things,u.type=C3 s.types f.of/\u.id=y:=fun⟨u,hu,e1,e2⟩=>by
    obtain⟨v,hv,e3,e4⟩:=C2B hkey hu;exact⟨v,hv,e3.trans e1,e4.trans e2⟩
   refine key ?_;rcases hmem x hx with hx|rfl
   ·exact h.lnk x hx k f c2 hf hc y hy
   ·simp only[ug] at hc;by_cases hk:e.field.toNat=k
    ·subst hk;rw[zj rfl] at hc;split at hc
     ·injection hc with hc
      subst hc;have hf:(C8 s.types t.type)[e.field.toNat]?=some f:=hf;rw[hf'] at hf;injection hf with hf
      subst hf;rcases g2 y hy with h1|h1
      ·exact h.lnk t htm _ _ c hf' hh.cc y h1
      ·exact h1
     ·cases hc
    ·rw[zf hk] at hc;exact h.lnk t htm k f c2 hf hc y hy
def A0P(c:Cl):Bool:=(!decide (c.n=0)||!decide (c.text=[]))||!decide (c.ids=[])
def A1r(l:List Cl):Bool:=!l.any A0P
theorem B7N(c:Cl)(id:Nat):A2 Tryz.prog 265 [eCl c] [] id (.bool (A0P c)) []:=by
 unfold eCl;refine w265.e.1 fun E hP hR hl hid=>?_;simp[w265];have hl:decide (0<(c.ids.length:Int))=!decide (c.ids=[]):=by cases c.ids<;>simp<;>omega
 exact yP hR (h1:=by simp; unfold A0P; cases h1:decide (c.n=0)<;>cases h2:decide (c.text=[])<;>simp_all)
theorem A8x(l:List Cl)(id:Nat)(hl8:l.length<9223372036854775807):A2 Tryz.prog 301 [.sl (l.map eCl),.fn 265 []] [] id (.int .i64 (B8 (fun x=>A0P x) l 0)) []:=by
 refine w301.e.1 fun E hP hR hl hid=>?_;simp[w301];refine D0 (X:=Nat) (fun i=>⟨[(0,true,.sl (l.map eCl)),(1,true,.fn 265 []),(7,true,.int .i64 l.length),(8,true,.int .i64 i)],[],0⟩) (fun i=>i<=l.length/\B8 (fun x=>A0P x) (l.drop i) i=B8 (fun x=>A0P x) l 0) (fun i=>l.length - i) 0 ?_ ⟨by omega,rfl⟩ ?_
 ·refine yV [] (by simp) fun hrn=>⟨?_,?_,?_,?_,?_⟩<;>(try simp)
 ·rintro i ⟨hi,hf⟩ p hp;refine A3 4000 ?_;simp;refine E5 (fun h=>?_) (fun h=>?_)
  ·have h:=zr h;obtain⟨x,hx,hd⟩:=B2 h;have hcl:=B7N x;simp only[eCl] at hcl;rw[hd] at hf;simp only[B8] at hf;have hi1:IntKind.i64.wrap ((i:Int)+1)=((i+1:Nat):Int):=A5 (by omega);simp[hx,eCl];refine⟨h,?_⟩;refine L5 hP rfl rfl (hcl _) (by simp) (by simp<;>rfl) ?_;refine A3 4000 ?_;simp;refine E5 (fun h1=>?_) (fun h1=>?_)
   ·simp;rw[zj h1] at hf;exact yP hR (h1:=by simp; exact hf)
   ·simp;rw[zf (by simpa using h1)] at hf;refine hp _ (i+1) ⟨h,hf⟩ (by omega) ?_;refine yV [] (by simp[hi1]) fun hrn=>⟨?_,?_,?_,?_,?_⟩<;>(try simp[hi1])
  ·have h:=zp h;simp;rw[zn (by omega)] at hf;exact yP hR (h1:=by simp; exact hf)
theorem B15(l:List Cl)(id:Nat)(hl8:l.length<9223372036854775807):A2 Tryz.prog 264 [.sl (l.map eCl),.fn 265 []] [] id (.bool (l.any A0P)) []:=by
 refine w264.e.1 fun E hP hR hl hid=>?_;simp[w264];(refine yH rfl (A8x l _ hl8) ?_; simp);exact yP hR (h1:=by simp; rw[←T3 (fun x=>A0P x) l 0])
theorem B9b(l:List Cl)(id:Nat)(hl8:l.length<9223372036854775807):A2 Tryz.prog 196 [.sl (l.map eCl)] [] id (.bool (A1r l)) []:=by
 refine w196.e.1 fun E hP hR hl hid=>?_;simp[w196];(refine yH rfl (B15 l _ hl8) ?_; simp);exact yP hR (h1:=by simp; simp[A1r])
def B16(s:H0)(e:Ev):Int:=if e.kind=2 then (match s.things[H2 s e]? with
 | some t=>if A1r t.cells=true then 0 else 4
 | none=>0) else 0
def B9c(s:H0)(e:Ev):Ev :=
 if e.kind=1 then ⟨2,e.type,e.id,e.field,0,[]⟩ else if e.kind=2 then ⟨1,e.type,e.id,e.field,0,[]⟩
 else match A53 s e,A0e s e with
  | some c,some f =>
   if e.kind=3 then ⟨3,e.type,e.id,e.field,c.n,[]⟩ else if e.kind=4 then ⟨4,e.type,e.id,e.field,0,c.text⟩
   else if e.kind=5 then (if f.kind=3/\c.ids≠[] then ⟨5,e.type,e.id,e.field,c.ids.headD 0,[]⟩ else ⟨6,e.type,e.id,e.field,e.n,[]⟩)
   else ⟨5,e.type,e.id,e.field,e.n,[]⟩
  | _,_=>e
end Go.Am
